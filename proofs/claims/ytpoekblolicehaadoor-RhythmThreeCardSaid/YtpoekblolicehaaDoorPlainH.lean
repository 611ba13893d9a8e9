/-
  Plain: Lyndon words; Duval's algorithm.
-/
import Derived.Test.YtpoekblolicehaaDoorPlainF
namespace Go.Proofs.YtpoekblolicehaaDoor

def leS (a b : Str) : Bool := slt up a b || a == b
def isLyn (u : Str) : Bool := (List.range (u.length - 1)).all (fun i => !leS (u.drop (i + 1)) u) && !u.isEmpty
/-- the longest beginning of at most n letters that is a Lyndon word -/
def lynDown (l : Str) : Nat → Nat
  | 0 => 0
  | n + 1 => if isLyn (l.take (n + 1)) = true then n + 1 else lynDown l n
def lynLen (l : Str) : Nat := lynDown l l.length
def lynF : Nat → Str → List Str
  | 0, _ => []
  | f + 1, l => if l.isEmpty = true then [] else l.take (lynLen l) :: lynF f (l.drop (lynLen l))
def lyn (l : Str) : List Str := lynF l.length l

theorem isLyn_one (l : Str) (h : 1 ≤ l.length) : isLyn (l.take 1) = true := by
  cases l with
  | nil => simp at h
  | cons a l => simp [isLyn]
theorem lynDown_pos (l : Str) (h : 1 ≤ l.length) : ∀ n, 1 ≤ n → 1 ≤ lynDown l n
  | 0, h0 => by omega
  | n + 1, _ => by
    rw [lynDown]
    split
    · omega
    · rename_i hn
      by_cases h0 : n = 0
      · subst h0; rw [isLyn_one l h] at hn; exact absurd rfl hn
      · exact lynDown_pos l h n (by omega)
theorem lynDown_le (l : Str) : ∀ n, lynDown l n ≤ n
  | 0 => Nat.le_refl _
  | n + 1 => by
    rw [lynDown]
    have := lynDown_le l n
    split <;> omega
theorem lynDown_isLyn (l : Str) (h : 1 ≤ l.length) : ∀ n, 1 ≤ n → isLyn (l.take (lynDown l n)) = true
  | 0, h0 => by omega
  | n + 1, _ => by
    rw [lynDown]
    split
    · rename_i h; exact h
    · rename_i hn
      by_cases h0 : n = 0
      · subst h0; rw [isLyn_one l h] at hn; exact absurd rfl hn
      · exact lynDown_isLyn l h n (by omega)
theorem lynDown_of (l : Str) (p : Nat) (hp : isLyn (l.take p) = true) (hp1 : 1 ≤ p) : ∀ n, p ≤ n → (∀ m, p < m → m ≤ n → isLyn (l.take m) = false) → lynDown l n = p
  | 0, h, _ => by omega
  | n + 1, h, hno => by
    rw [lynDown]
    by_cases he : p = n + 1
    · subst he; rw [if_pos hp]
    · rw [if_neg (by rw [hno (n + 1) (by omega) (Nat.le_refl _)]; decide)]
      exact lynDown_of l p hp hp1 n (by omega) (fun m h1 h2 => hno m h1 (by omega))
theorem lynLen_pos (l : Str) (h : 1 ≤ l.length) : 1 ≤ lynLen l := lynDown_pos l h _ h
theorem lynLen_le (l : Str) : lynLen l ≤ l.length := lynDown_le l _
theorem lynF_more : ∀ (f : Nat) (l : Str), l.length ≤ f → lynF f l = lynF l.length l := by
  intro f
  induction f using Nat.strongRecOn with
  | ind f ih =>
    intro l hl
    cases f with
    | zero => rw [Nat.le_zero.1 hl]
    | succ f =>
      cases l with
      | nil => rfl
      | cons a t =>
        have h1 := lynLen_pos (a :: t) (by simp)
        have hd : ((a :: t).drop (lynLen (a :: t))).length ≤ t.length := by rw [List.length_drop, List.length_cons]; omega
        rw [List.length_cons, lynF, lynF]
        simp only [List.isEmpty_cons, Bool.false_eq_true, if_false]
        rw [ih f (by omega) _ (by simp at hl; omega)]
        by_cases ht : t.length = f
        · rw [ht]
          rw [ih f (by omega) _ (by omega)]
        · rw [ih t.length (by simp at hl; omega) _ hd]
theorem lyn_nil : lyn [] = [] := rfl
theorem lyn_cons (l : Str) (h : 1 ≤ l.length) : lyn l = l.take (lynLen l) :: lyn (l.drop (lynLen l)) := by
  obtain ⟨n, hn⟩ : ∃ n, l.length = n + 1 := ⟨l.length - 1, by omega⟩
  have h1 := lynLen_pos l h
  unfold lyn
  rw [hn, lynF, if_neg (by intro he; rw [List.isEmpty_iff.1 he] at h; simp at h), lynF_more n _ (by rw [List.length_drop]; omega)]
theorem lyn_flat : ∀ (n : Nat) (l : Str), l.length ≤ n → (lyn l).flatten = l := by
  intro n
  induction n with
  | zero => intro l h; cases l with | nil => rfl | cons => simp at h
  | succ n ih =>
    intro l h
    by_cases h1 : 1 ≤ l.length
    · have h2 := lynLen_pos l h1
      rw [lyn_cons l h1, List.flatten_cons, ih _ (by rw [List.length_drop]; omega), List.take_append_drop]
    · cases l with | nil => rfl | cons => simp at h1

/-- the i-th letter as a number -/
def at' (l : Str) (i : Nat) : Nat := up (l.getD i 0)
theorem at_take (l : Str) (n i : Nat) (h : i < n) : at' (l.take n) i = at' l i := by
  unfold at'
  rw [List.getD_eq_getElem?_getD, List.getElem?_take, if_pos h, ← List.getD_eq_getElem?_getD]
theorem at_drop (l : Str) (p i : Nat) : at' (l.drop p) i = at' l (p + i) := by
  unfold at'
  rw [List.getD_eq_getElem?_getD, List.getElem?_drop, ← List.getD_eq_getElem?_getD]
theorem slt_at : ∀ (a b : Str) (m : Nat), (∀ i, i < m → at' a i = at' b i) → m < a.length → m < b.length → at' a m < at' b m → slt up a b = true
  | [], _, _, _, h, _, _ => by simp at h
  | _ :: _, [], _, _, _, h, _ => by simp at h
  | a :: as, b :: bs, 0, _, _, _, h => by
    have h : up a < up b := h
    simp [slt, h]
  | a :: as, b :: bs, m + 1, he, h1, h2, h => by
    have h0 : up a = up b := he 0 (by omega)
    simp only [slt]
    rw [if_neg (by omega), if_neg (by omega)]
    exact slt_at as bs m (fun i hi => he (i + 1) (by omega)) (by simpa using h1) (by simpa using h2) h
theorem ext_at (a b : Str) (hl : a.length = b.length) (h : ∀ i, i < a.length → at' a i = at' b i) : a = b := by
  apply List.ext_getElem hl
  intro i h1 h2
  have := up_inj _ _ (h i h1)
  rw [List.getD_eq_getElem?_getD, List.getD_eq_getElem?_getD, List.getElem?_eq_getElem h1, List.getElem?_eq_getElem h2] at this
  exact this
theorem slt_pre (a b : Str) (hl : a.length < b.length) (h : ∀ i, i < a.length → at' a i = at' b i) : slt up a b = true := by
  have e : b.take a.length = a := by
    refine ext_at _ _ (by rw [List.length_take]; omega) fun i hi => ?_
    rw [List.length_take] at hi
    rw [at_take _ _ _ (by omega), h i (by omega)]
  have := slt_prefix up a (b.drop a.length) (by intro h; have := congrArg List.length h; simp at this; omega)
  rw [← List.take_append_drop a.length b, e]
  exact this
theorem isLyn_iff (u : Str) : isLyn u = true ↔ 1 ≤ u.length ∧ ∀ r, 1 ≤ r → r < u.length → slt up u (u.drop r) = true := by
  unfold isLyn
  simp only [Bool.and_eq_true, List.all_eq_true, List.mem_range, Bool.not_eq_true']
  have h0 : (u.isEmpty = false) ↔ 1 ≤ u.length := by cases u <;> simp
  rw [h0]
  constructor
  · rintro ⟨h1, h2⟩
    refine ⟨h2, fun r r1 r2 => ?_⟩
    have := h1 (r - 1) (by omega)
    rw [show r - 1 + 1 = r by omega] at this
    unfold leS at this
    rw [Bool.or_eq_false_iff] at this
    rcases slt_total up_inj u (u.drop r) with h | h | h
    · rw [← h] at this; simp at this
    · exact h
    · rw [this.1] at h; cases h
  · rintro ⟨h1, h2⟩
    refine ⟨fun i hi => ?_, h1⟩
    have := h2 (i + 1) (by omega) (by omega)
    unfold leS
    rw [Bool.or_eq_false_iff]
    constructor
    · cases h : slt up (u.drop (i + 1)) u with
      | false => rfl
      | true => exact (slt_asymm this h).elim
    · rw [beq_eq_false_iff_ne]
      intro h
      rw [h, slt_irrefl] at this
      cases this

/-- Duval's state: s[:j] is a power of the word s[:j-k] and a beginning of it; the word is a Lyndon word -/
structure Duv (l : Str) (j k : Nat) : Prop where
  kj : k < j
  jn : j ≤ l.length
  per : ∀ i, j - k ≤ i → i < j → at' l i = at' l (i - (j - k))
  wor : ∀ r, 0 < r → r < j - k → ∃ m, r + m < j - k ∧ (∀ i, i < m → at' l (r + i) = at' l i) ∧ at' l m < at' l (r + m)
theorem Duv.start (l : Str) (h : 1 ≤ l.length) : Duv l 1 0 := ⟨by omega, h, fun i h1 h2 => by omega, fun r h1 h2 => by omega⟩
theorem Duv.eq {l : Str} {j k : Nat} (h : Duv l j k) (hj : j < l.length) (he : at' l k = at' l j) : Duv l (j + 1) (k + 1) := by
  have hk := h.kj
  refine ⟨by omega, hj, fun i h1 h2 => ?_, ?_⟩
  · rw [show j + 1 - (k + 1) = j - k by omega] at *
    by_cases hi : i = j
    · subst hi; rw [← he]; congr 1; omega
    · exact h.per i h1 (by omega)
  · rw [show j + 1 - (k + 1) = j - k by omega]
    exact h.wor
theorem Duv.perm {l : Str} {j k : Nat} (h : Duv l j k) : ∀ (a i : Nat), a * (j - k) + i < j → at' l (a * (j - k) + i) = at' l i := by
  intro a
  induction a with
  | zero => intro i _; rw [Nat.zero_mul, Nat.zero_add]
  | succ a ih =>
    intro i hi
    have hk := h.kj
    rw [Nat.succ_mul] at *
    rw [h.per _ (by omega) hi, ← ih i (by omega)]
    congr 1; omega
theorem Duv.lt {l : Str} {j k : Nat} (h : Duv l j k) (hj : j < l.length) (hlt : at' l k < at' l j) : Duv l (j + 1) 0 := by
  have hk := h.kj
  refine ⟨by omega, hj, fun i h1 h2 => by omega, fun r h1 h2 => ?_⟩
  have hdm := Nat.div_add_mod r (j - k)
  have hml := Nat.mod_lt r (show j - k > 0 by omega)
  rw [Nat.mul_comm] at hdm
  generalize r / (j - k) = a at *
  generalize r % (j - k) = r0 at *
  -- what stands at j - r, seen from the last word
  have hlast : ∀ m, r + m = j → 1 ≤ a → at' l k = at' l (r0 + m) := by
    intro m hm ha
    obtain ⟨b, rfl⟩ : ∃ b, a = b + 1 := ⟨a - 1, by omega⟩
    rw [Nat.succ_mul] at hdm
    rw [← h.perm b (r0 + m) (by omega)]
    congr 1; omega
  by_cases h0 : r0 = 0
  · subst h0
    have ha : 1 ≤ a := by
      rcases Nat.eq_zero_or_pos a with h | h
      · subst h; omega
      · exact h
    refine ⟨j - r, by omega, fun i hi => ?_, ?_⟩
    · rw [show r + i = a * (j - k) + i by omega]
      exact h.perm a i (by omega)
    · have := hlast (j - r) (by omega) ha
      rw [Nat.zero_add] at this
      rw [show r + (j - r) = j by omega, ← this]
      exact hlt
  · obtain ⟨m0, w1, w2, w3⟩ := h.wor r0 (by omega) hml
    by_cases hr : r + m0 < j
    · refine ⟨m0, by omega, fun i hi => ?_, ?_⟩
      · rw [show r + i = a * (j - k) + (r0 + i) by omega, h.perm a _ (by omega)]
        exact w2 i hi
      · rw [show r + m0 = a * (j - k) + (r0 + m0) by omega, h.perm a _ (by omega)]
        exact w3
    · have ha : 1 ≤ a := by
        rcases Nat.eq_zero_or_pos a with h | h
        · subst h; omega
        · exact h
      refine ⟨j - r, by omega, fun i hi => ?_, ?_⟩
      · rw [show r + i = a * (j - k) + (r0 + i) by omega, h.perm a _ (by omega)]
        exact w2 i (by omega)
      · have := hlast (j - r) (by omega) ha
        rw [show r + (j - r) = j by omega]
        by_cases hm : j - r = m0
        · have e1 : at' l (j - r) < at' l (r0 + (j - r)) := by rw [hm]; exact w3
          omega
        · have := w2 (j - r) (by omega); omega
/-- the state can go no further -/
def Duv.fin (l : Str) (j k : Nat) : Prop := j = l.length ∨ at' l j < at' l k
theorem Duv.len {l : Str} {j k : Nat} (h : Duv l j k) (hf : Duv.fin l j k) : lynLen l = j - k := by
  have hk := h.kj
  have hjn := h.jn
  refine lynDown_of l (j - k) ?_ (by omega) _ (by omega) ?_
  · rw [isLyn_iff]
    have hln : (l.take (j - k)).length = j - k := by rw [List.length_take]; omega
    rw [hln]
    refine ⟨by omega, fun r r1 r2 => ?_⟩
    obtain ⟨m, m1, m2, m3⟩ := h.wor r r1 r2
    refine slt_at _ _ m (fun i hi => ?_) (by omega) (by rw [List.length_drop]; omega) ?_
    · rw [at_drop, at_take _ _ _ (by omega), at_take _ _ _ (by omega), m2 i hi]
    · rw [at_drop, at_take _ _ _ (by omega), at_take _ _ _ (by omega)]; exact m3
  · intro n n1 n2
    cases hl : isLyn (l.take n) with
    | false => rfl
    | true =>
      exfalso
      rw [isLyn_iff] at hl
      have hln : (l.take n).length = n := by rw [List.length_take]; omega
      rw [hln] at hl
      have h1 := hl.2 (j - k) (by omega) n1
      refine slt_asymm h1 ?_
      by_cases hn : n ≤ j
      · refine slt_pre _ _ (by rw [List.length_drop]; omega) fun i hi => ?_
        rw [List.length_drop, hln] at hi
        rw [at_drop, at_take _ _ _ (by omega), at_take _ _ _ (by omega), h.per _ (by omega) (by omega)]
        congr 1; omega
      · have hjk : at' l j < at' l k := by
          rcases hf with h | h
          · omega
          · exact h
        refine slt_at _ _ k (fun i hi => ?_) (by rw [List.length_drop]; omega) (by omega) ?_
        · rw [at_drop, at_take _ _ _ (by omega), at_take _ _ _ (by omega), h.per _ (by omega) (by omega)]
          congr 1; omega
        · rw [at_drop, at_take _ _ _ (by omega), at_take _ _ _ (by omega), show j - k + k = j by omega]
          exact hjk
theorem Duv.next {l : Str} {j k : Nat} (h : Duv l j k) (hf : Duv.fin l j k) (hk : j - k ≤ k) : Duv (l.drop (j - k)) k (k - (j - k)) ∧ Duv.fin (l.drop (j - k)) k (k - (j - k)) := by
  have h1 := h.kj
  have h2 := h.jn
  have e : k - (k - (j - k)) = j - k := by omega
  refine ⟨⟨by omega, by rw [List.length_drop]; omega, fun i i1 i2 => ?_, fun r r1 r2 => ?_⟩, ?_⟩
  · rw [e] at *
    rw [at_drop, at_drop, h.per (j - k + i) (by omega) (by omega), show j - k + i - (j - k) = i by omega, show j - k + (i - (j - k)) = i by omega]
  · rw [e] at *
    obtain ⟨m, m1, m2, m3⟩ := h.wor r r1 r2
    have hp : ∀ x, x < j - k → at' (l.drop (j - k)) x = at' l x := fun x hx => by
      rw [at_drop, h.per _ (by omega) (by omega)]; congr 1; omega
    refine ⟨m, m1, fun i hi => ?_, ?_⟩
    · rw [hp _ (by omega), hp _ (by omega), m2 i hi]
    · rw [hp _ (by omega), hp _ (by omega)]; exact m3
  · rcases hf with h | hf
    · left; rw [List.length_drop]; omega
    · right
      rw [at_drop, at_drop, show j - k + k = j by omega, show j - k + (k - (j - k)) = k by omega]
      exact hf
theorem Duv.ex (l : Str) : ∀ (d j k : Nat), l.length - j ≤ d → Duv l j k → ∃ j k, Duv l j k ∧ Duv.fin l j k := by
  intro d
  induction d with
  | zero =>
    intro j k hd h
    exact ⟨j, k, h, .inl (by have := h.jn; omega)⟩
  | succ d ih =>
    intro j k hd h
    by_cases hj : j = l.length
    · exact ⟨j, k, h, .inl hj⟩
    · have hjn := h.jn
      rcases Nat.lt_trichotomy (at' l k) (at' l j) with h1 | h1 | h1
      · exact ih _ _ (by omega) (h.lt (by omega) h1)
      · exact ih _ _ (by omega) (h.eq (by omega) h1)
      · exact ⟨j, k, h, .inr h1⟩
/-- a word is not less than the next one -/
theorem lyn_next (l : Str) (h : 1 ≤ l.length) : slt up (l.take (lynLen l)) ((l.drop (lynLen l)).take (lynLen (l.drop (lynLen l)))) = false := by
  obtain ⟨j, k, hd, hf⟩ := Duv.ex l _ 1 0 (Nat.le_refl _) (Duv.start l h)
  have h1 := hd.kj
  have h2 := hd.jn
  rw [hd.len hf]
  have hle := lynLen_le (l.drop (j - k))
  rw [List.length_drop] at hle
  have hl1 : (l.take (j - k)).length = j - k := by rw [List.length_take]; omega
  by_cases hk : j - k ≤ k
  · obtain ⟨hd2, hf2⟩ := hd.next hf hk
    rw [hd2.len hf2, show k - (k - (j - k)) = j - k by omega]
    have : (l.drop (j - k)).take (j - k) = l.take (j - k) := by
      refine ext_at _ _ (by simp; omega) fun i hi => ?_
      rw [List.length_take, List.length_drop] at hi
      rw [at_take _ _ _ (by omega), at_drop, at_take _ _ _ (by omega), hd.per _ (by omega) (by omega)]
      congr 1; omega
    rw [this, slt_irrefl]
  · generalize lynLen (l.drop (j - k)) = n at *
    have hl2 : ((l.drop (j - k)).take n).length = n := by rw [List.length_take, List.length_drop]; omega
    have hlt : slt up ((l.drop (j - k)).take n) (l.take (j - k)) = true := by
      by_cases hn : n ≤ k
      · refine slt_pre _ _ (by omega) fun i hi => ?_
        rw [hl2] at hi
        rw [at_take _ _ _ (by omega), at_drop, at_take _ _ _ (by omega), hd.per _ (by omega) (by omega)]
        congr 1; omega
      · have hjk : at' l j < at' l k := by
          rcases hf with h | h
          · omega
          · exact h
        refine slt_at _ _ k (fun i hi => ?_) (by omega) (by omega) ?_
        · rw [at_take _ _ _ (by omega), at_drop, at_take _ _ _ (by omega), hd.per _ (by omega) (by omega)]
          congr 1; omega
        · rw [at_take _ _ _ (by omega), at_drop, at_take _ _ _ (by omega), show j - k + k = j by omega]
          exact hjk
    cases hx : slt up (l.take (j - k)) ((l.drop (j - k)).take n) with
    | false => rfl
    | true => exact (slt_asymm hlt hx).elim
end Go.Proofs.YtpoekblolicehaaDoor
