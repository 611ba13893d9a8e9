/-
  Plain: orders of strings; the theorem of the critical positions.
-/
import Derived.Test.YtpoekblolicehaaDoorPlainD
namespace Go.Proofs.YtpoekblolicehaaDoor

/-- the lexicographic order of strings, letters by a key; a proper beginning is less -/
def slt (f : UInt8 → Nat) : Str → Str → Bool
  | _, [] => false
  | [], _ :: _ => true
  | a :: as, b :: bs => if f a < f b then true else if f b < f a then false else slt f as bs

theorem slt_irrefl (f : UInt8 → Nat) : ∀ a : Str, slt f a a = false
  | [] => rfl
  | a :: as => by simp [slt, slt_irrefl f as]
theorem slt_trans {f : UInt8 → Nat} : ∀ {a b c : Str}, slt f a b = true → slt f b c = true → slt f a c = true
  | _, _, [], _, h2 => by simp [slt] at h2
  | _, [], _ :: _, h1, _ => by simp [slt] at h1
  | [], _ :: _, _ :: _, _, _ => rfl
  | a :: as, b :: bs, c :: cs, h1, h2 => by
    simp only [slt] at *
    by_cases hab : f a < f b
    · by_cases hbc : f b < f c
      · rw [if_pos (by omega)]
      · by_cases hcb : f c < f b
        · rw [if_neg hbc, if_pos hcb] at h2; cases h2
        · rw [if_pos (by omega)]
    · by_cases hba : f b < f a
      · rw [if_neg hab, if_pos hba] at h1; cases h1
      · rw [if_neg hab, if_neg hba] at h1
        by_cases hbc : f b < f c
        · rw [if_pos (by omega)]
        · by_cases hcb : f c < f b
          · rw [if_neg hbc, if_pos hcb] at h2; cases h2
          · rw [if_neg hbc, if_neg hcb] at h2
            rw [if_neg (by omega), if_neg (by omega)]
            exact slt_trans h1 h2
theorem slt_total {f : UInt8 → Nat} (hf : ∀ a b, f a = f b → a = b) : ∀ a b : Str, a = b ∨ slt f a b = true ∨ slt f b a = true
  | [], [] => .inl rfl
  | [], _ :: _ => .inr (.inl rfl)
  | _ :: _, [] => .inr (.inr rfl)
  | a :: as, b :: bs => by
    simp only [slt]
    by_cases h1 : f a < f b
    · simp [h1]
    · by_cases h2 : f b < f a
      · simp [h1, h2]
      · have : a = b := hf a b (by omega)
        subst this
        simp only [Nat.lt_irrefl, if_false]
        rcases slt_total hf as bs with h | h
        · left; rw [h]
        · right; exact h
theorem slt_asymm {f : UInt8 → Nat} {a b : Str} (h1 : slt f a b = true) (h2 : slt f b a = true) : False := by
  have := slt_trans h1 h2
  rw [slt_irrefl] at this
  cases this
theorem slt_append (f : UInt8 → Nat) (r a b : Str) : slt f (r ++ a) (r ++ b) = slt f a b := by
  induction r with
  | nil => rfl
  | cons c r ih => simp [slt, ih]
theorem slt_prefix (f : UInt8 → Nat) (a b : Str) (h : b ≠ []) : slt f a (a ++ b) = true := by
  have := slt_append f a [] b
  rw [List.append_nil] at this
  rw [this]
  cases b with
  | nil => exact absurd rfl h
  | cons => rfl
/-- not greater in one order, nor in the reversed one: a beginning -/
theorem slt_both {f g : UInt8 → Nat} (hfg : ∀ a b, f a < f b → g b < g a) (hf : ∀ a b, f a = f b → a = b) : ∀ {a b : Str}, slt f b a = false → slt g b a = false → a.length ≤ b.length → b.take a.length = a
  | [], _, _, _, _ => rfl
  | _ :: _, [], _, _, h => by simp at h
  | a :: as, b :: bs, h1, h2, h => by
    simp only [slt] at h1 h2
    by_cases hab : f a < f b
    · have hg := hfg a b hab
      rw [if_pos hg] at h2
      cases h2
    · by_cases hba : f b < f a
      · rw [if_pos hba] at h1; cases h1
      · have e : a = b := hf a b (by omega)
        subst e
        simp only [Nat.lt_irrefl, if_false] at h1 h2
        simp only [List.length_cons, List.take_succ_cons, List.cons.injEq, true_and]
        exact slt_both hfg hf h1 h2 (by simpa using h)

/-- of some strings that all differ, one is the greatest -/
theorem exists_max {f : UInt8 → Nat} (hf : ∀ a b, f a = f b → a = b) (g : Nat → Str) (n : Nat) (hg : ∀ i j, i < n → j < n → i ≠ j → g i ≠ g j) (lo : Nat) (hlo : lo < n) :
    ∃ m, lo ≤ m ∧ m < n ∧ ∀ j, lo ≤ j → j < n → j ≠ m → slt f (g j) (g m) = true := by
  have : ∀ k, lo + k < n → ∃ m, lo ≤ m ∧ m ≤ lo + k ∧ ∀ j, lo ≤ j → j ≤ lo + k → j ≠ m → slt f (g j) (g m) = true := by
    intro k
    induction k with
    | zero => intro _; exact ⟨lo, Nat.le_refl _, Nat.le_refl _, fun j h1 h2 h3 => absurd (by omega) h3⟩
    | succ k ih =>
      intro hk
      obtain ⟨m, h1, h2, h3⟩ := ih (by omega)
      rcases slt_total hf (g m) (g (lo + (k + 1))) with h | h | h
      · exact absurd h (hg _ _ (by omega) hk (by omega))
      · refine ⟨lo + (k + 1), by omega, Nat.le_refl _, fun j a b c => ?_⟩
        by_cases hj : j = m
        · subst hj; exact h
        · exact slt_trans (h3 j a (by omega) hj) h
      · refine ⟨m, h1, by omega, fun j a b c => ?_⟩
        by_cases hj : j = lo + (k + 1)
        · subst hj; exact h
        · exact h3 j a (by omega) c
  obtain ⟨m, h1, h2, h3⟩ := this (n - 1 - lo) (by omega)
  exact ⟨m, h1, by omega, fun j a b c => h3 j a (by omega) c⟩

/-- r fits at the position i of the first n values of w -/
def Lo {α : Type} (w : Nat → α) (n i r : Nat) : Prop := ∀ j, i ≤ j + r → j < i → j + r < n → w j = w (j + r)

theorem take_drop_eq (l : Str) (a b c : Nat) (h : ∀ i, i < c → l[a + i]? = l[b + i]?) : (l.drop a).take c = (l.drop b).take c := by
  apply List.ext_getElem?
  intro i
  simp only [List.getElem?_take, List.getElem?_drop]
  by_cases hi : i < c
  · rw [if_pos hi, if_pos hi, h i hi]
  · rw [if_neg hi, if_neg hi]
/-- two ends that begin alike are ordered as what follows -/
theorem slt_common (f : UInt8 → Nat) (l : Str) (a b c : Nat) (h : ∀ i, i < c → l[a + i]? = l[b + i]?) : slt f (l.drop a) (l.drop b) = slt f (l.drop (a + c)) (l.drop (b + c)) := by
  have e := take_drop_eq l a b c h
  rw [← List.take_append_drop c (l.drop a), ← List.take_append_drop c (l.drop b), e, slt_append, List.drop_drop, List.drop_drop]
theorem slt_nil (f : UInt8 → Nat) (l : Str) (h : l ≠ []) : slt f [] l = true := by
  cases l with
  | nil => exact absurd rfl h
  | cons => rfl

theorem c1_core {f g : UInt8 → Nat} (hfg : ∀ a b, f a < f b → g b < g a) (hf : ∀ a b, f a = f b → a = b) (l : Str) (k m : Nat) (hk1 : 1 ≤ k) (hkn : k < l.length) (hm1 : 1 ≤ m) (hmk : m ≤ k)
    (Hf : ∀ j, 1 ≤ j → j < l.length → j ≠ k → slt f (l.drop j) (l.drop k) = true)
    (Hg : ∀ j, 1 ≤ j → j < l.length → j ≠ m → slt g (l.drop j) (l.drop m) = true)
    (r : Nat) (h1 : 1 ≤ r) (hlo : Lo (fun i => l[i]?) l.length k r) : Pf (fun i => l[i]?) r l.length := by
  by_cases hrk : r < k
  · exfalso
    have hb := Hf (k - r) (by omega) (by omega) (by omega)
    refine slt_asymm hb ?_
    by_cases hc : k + r ≤ l.length
    · rw [slt_common f l k (k - r) r (fun i hi => by
        have := hlo (k - r + i) (by omega) (by omega) (by omega)
        simp only at this
        rw [this]; congr 1; omega)]
      rw [show k - r + r = k by omega]
      by_cases he : k + r = l.length
      · rw [List.drop_of_length_le (by omega)]
        refine slt_nil _ _ ?_
        intro h
        have := congrArg List.length h
        simp at this; omega
      · exact Hf (k + r) (by omega) (by omega) (by omega)
    · rw [slt_common f l k (k - r) (l.length - k) (fun i hi => by
        have := hlo (k - r + i) (by omega) (by omega) (by omega)
        simp only at this
        rw [this]; congr 1; omega)]
      rw [List.drop_of_length_le (show l.length ≤ k + (l.length - k) by omega)]
      refine slt_nil _ _ ?_
      intro h
      have := congrArg List.length h
      simp at this; omega
  · intro j hj
    show l[j]? = l[j + r]?
    by_cases hjk : j < k
    · exact hlo j (by omega) hjk hj
    · have a1 := Hf (k + r) (by omega) (by omega) (by omega)
      have a2 : slt g (l.drop (k + r)) (l.drop k) = true := by
        have := Hg (m + r) (by omega) (by omega) (by omega)
        rw [slt_common g l (m + r) m (k - m) (fun i hi => by
          have := hlo (m + i) (by omega) (by omega) (by omega)
          simp only at this
          rw [this]; congr 1; omega)] at this
        rwa [show m + r + (k - m) = k + r by omega, show m + (k - m) = k by omega] at this
      have b1 : slt f (l.drop k) (l.drop (k + r)) = false := by
        cases h : slt f (l.drop k) (l.drop (k + r)) with
        | false => rfl
        | true => exact (slt_asymm a1 h).elim
      have b2 : slt g (l.drop k) (l.drop (k + r)) = false := by
        cases h : slt g (l.drop k) (l.drop (k + r)) with
        | false => rfl
        | true => exact (slt_asymm a2 h).elim
      have hb := slt_both hfg hf b1 b2 (by simp; omega)
      have := congrArg (fun x : Str => x[j - k]?) hb
      simp only [List.getElem?_take, List.getElem?_drop, List.length_drop] at this
      rw [if_pos (by omega), show k + (j - k) = j by omega, show k + r + (j - k) = j + r by omega] at this
      exact this

def up (c : UInt8) : Nat := c.toNat
def dn (c : UInt8) : Nat := 255 - c.toNat
theorem up_dn (a b : UInt8) : up a < up b → dn b < dn a := by
  have := a.toNat_lt; have := b.toNat_lt; unfold up dn; omega
theorem dn_up (a b : UInt8) : dn a < dn b → up b < up a := by
  have := a.toNat_lt; have := b.toNat_lt; unfold up dn; omega
theorem up_inj (a b : UInt8) : up a = up b → a = b := fun h => UInt8.toNat_inj.1 h
theorem dn_inj (a b : UInt8) : dn a = dn b → a = b := fun h => UInt8.toNat_inj.1 (by
  have := a.toNat_lt; have := b.toNat_lt; unfold dn at h; omega)

theorem c1_le {f : UInt8 → Nat} (l : Str) (k p : Nat) (hkn : k < l.length) (hp : 1 ≤ p)
    (Hf : ∀ j, 1 ≤ j → j < l.length → j ≠ k → slt f (l.drop j) (l.drop k) = true) (hP : Pf (fun i => l[i]?) p l.length) : k ≤ p := by
  apply Nat.le_of_not_lt
  intro hpk
  have hb := Hf (k - p) (by omega) (by omega) (by omega)
  refine slt_asymm hb ?_
  rw [slt_common f l k (k - p) (l.length - k) (fun i hi => by
    have := hP (k - p + i) (by omega)
    simp only at this
    rw [this]; congr 1; omega)]
  rw [List.drop_of_length_le (show l.length ≤ k + (l.length - k) by omega)]
  refine slt_nil _ _ ?_
  intro h
  have := congrArg List.length h
  simp at this; omega

/-- p is the least period of the first n values -/
def Pm {α : Type} (w : Nat → α) (p n : Nat) : Prop := 1 ≤ p ∧ p ≤ n ∧ Pf w p n ∧ ∀ r, 1 ≤ r → r < p → ¬ Pf w r n

theorem c1 (l : Str) (p : Nat) (hn : 2 ≤ l.length) (hp : Pm (fun i => l[i]?) p l.length) :
    ∃ k, 1 ≤ k ∧ k < l.length ∧ k ≤ p ∧ ∀ r, 1 ≤ r → r < p → ¬ Lo (fun i => l[i]?) l.length k r := by
  obtain ⟨p1, p2, p3, p4⟩ := hp
  have hd : ∀ i j, i < l.length → j < l.length → i ≠ j → l.drop i ≠ l.drop j := by
    intro i j hi hj hij h
    have := congrArg List.length h
    simp at this; omega
  obtain ⟨a, a1, a2, a3⟩ := exists_max up_inj (fun j => l.drop j) l.length hd 1 (by omega)
  obtain ⟨b, b1, b2, b3⟩ := exists_max dn_inj (fun j => l.drop j) l.length hd 1 (by omega)
  by_cases hab : b ≤ a
  · exact ⟨a, a1, a2, c1_le l a p a2 p1 a3 p3, fun r r1 r2 hlo => p4 r r1 r2 (c1_core up_dn up_inj l a b a1 a2 b1 hab a3 b3 r r1 hlo)⟩
  · exact ⟨b, b1, b2, c1_le l b p b2 p1 b3 p3, fun r r1 r2 hlo => p4 r r1 r2 (c1_core dn_up dn_inj l b a b1 b2 a1 (by omega) b3 a3 r r1 hlo)⟩

theorem rev_at (l : Str) (j : Nat) (h : j < l.length) : l.reverse[j]? = l[l.length - 1 - j]? := List.getElem?_reverse h
theorem pf_rev {l : Str} {p : Nat} (h : Pf (fun i => l[i]?) p l.length) : Pf (fun i => l.reverse[i]?) p l.reverse.length := by
  intro i hi
  rw [List.length_reverse] at hi
  show l.reverse[i]? = l.reverse[i + p]?
  rw [rev_at l i (by omega), rev_at l (i + p) hi]
  have := h (l.length - 1 - (i + p)) (by omega)
  simp only at this
  rw [this]; congr 1; omega
theorem pm_rev {l : Str} {p : Nat} (h : Pm (fun i => l[i]?) p l.length) : Pm (fun i => l.reverse[i]?) p l.reverse.length := by
  obtain ⟨p1, p2, p3, p4⟩ := h
  refine ⟨p1, by simpa using p2, pf_rev p3, fun r r1 r2 hr => p4 r r1 r2 ?_⟩
  have := pf_rev hr
  simpa using this
theorem lo_rev {l : Str} {k r : Nat} (hk : k < l.length) (h : Lo (fun i => l[i]?) l.length (l.length - k) r) : Lo (fun i => l.reverse[i]?) l.reverse.length k r := by
  intro j h1 h2 h3
  rw [List.length_reverse] at h3
  show l.reverse[j]? = l.reverse[j + r]?
  rw [rev_at l j (by omega), rev_at l (j + r) h3]
  have := h (l.length - 1 - (j + r)) (by omega) (by omega) (by omega)
  simp only at this
  rw [this]; congr 1; omega

/-- each row of p positions contains a critical one -/
theorem window : ∀ (n : Nat) (l : Str) (p i : Nat), l.length = n → Pm (fun i => l[i]?) p l.length → 1 ≤ i → i + p ≤ l.length →
    ∃ k, i ≤ k ∧ k < i + p ∧ ∀ r, 1 ≤ r → r < p → ¬ Lo (fun i => l[i]?) l.length k r := by
  intro n
  induction n with
  | zero => intro l p i hl hp h1 h2; omega
  | succ n ih =>
    intro l p i hl hp h1 h2
    have hp1 := hp.1
    by_cases he : i + p = l.length
    · obtain ⟨k, k1, k2, k3, k4⟩ := c1 l.reverse p (by rw [List.length_reverse]; omega) (pm_rev hp)
      rw [List.length_reverse] at k2
      exact ⟨l.length - k, by omega, by omega, fun r r1 r2 hlo => k4 r r1 r2 (lo_rev k2 hlo)⟩
    · have hat : ∀ j, j < n → (l.take n)[j]? = l[j]? := fun j hj => by rw [List.getElem?_take, if_pos hj]
      have hln : (l.take n).length = n := by simp; omega
      by_cases hq : ∀ r, 1 ≤ r → r < p → ¬ Pf (fun i => (l.take n)[i]?) r n
      · obtain ⟨k, k1, k2, k3⟩ := ih (l.take n) p i hln (by
          rw [hln]
          refine ⟨hp1, by omega, fun j hj => ?_, hq⟩
          show (l.take n)[j]? = (l.take n)[j + p]?
          rw [hat _ (by omega), hat _ hj]
          exact hp.2.2.1 j (by omega)) h1 (by rw [hln]; omega)
        refine ⟨k, k1, k2, fun r r1 r2 hlo => k3 r r1 r2 ?_⟩
        rw [hln]
        intro j j1 j2 j3
        show (l.take n)[j]? = (l.take n)[j + r]?
        rw [hat _ (by omega), hat _ j3]
        exact hlo j j1 j2 (by omega)
      · obtain ⟨t, ht⟩ := Classical.not_forall.1 hq
        obtain ⟨t1, ht⟩ := Classical.not_imp.1 ht
        obtain ⟨t2, ht⟩ := Classical.not_imp.1 ht
        have ht := Classical.not_not.1 ht
        obtain ⟨k, k1, k2, k3, k4⟩ := c1 l p (by omega) hp
        refine ⟨k, ?_, by omega, k4⟩
        apply Nat.le_of_not_lt
        intro hki
        refine k4 t t1 t2 ?_
        intro j j1 j2 j3
        show l[j]? = l[j + t]?
        have := ht j (by omega)
        simp only at this
        rwa [hat _ (by omega), hat _ (by omega)] at this

theorem locOk_iff (l : Str) (i q : Nat) (hi : i ≤ l.length) : locOk l i q = true ↔ Lo (fun i => l[i]?) l.length i q := by
  unfold locOk
  rw [beq_iff_eq]
  constructor
  · intro h j h1 h2 h3
    have := congrArg (fun x : Str => x[j - (i - q)]?) h
    simp only [List.getElem?_take, List.getElem?_drop] at this
    rw [if_pos (by omega), if_pos (by omega), show i - q + (j - (i - q)) = j by omega, show i - q + q + (j - (i - q)) = j + q by omega] at this
    exact this
  · intro h
    refine take_drop_eq l _ _ _ fun x hx => ?_
    have := h (i - q + x) (by omega) (by omega) (by omega)
    simp only at this
    rw [this]; congr 1; omega

theorem least_pm (l : Str) (h : 1 ≤ l.length) : Pm (fun i => l[i]?) (least l) l.length := by
  obtain ⟨h1, h2, h3, h4⟩ := least_spec l h
  refine ⟨h1, h2, (period_iff l _ h2).1 h3, fun r r1 r2 hr => ?_⟩
  have := (period_iff l r (by omega)).2 hr
  rw [h4 r r1 r2] at this
  cases this
theorem loc_le_least (l : Str) (i : Nat) (h : 1 ≤ l.length) (hi : i ≤ l.length) : loc l i ≤ least l := by
  obtain ⟨h1, h2, h3, h4⟩ := firstPos_spec (locOk l i) l.length h (locOk_all l i)
  obtain ⟨p1, p2, p3, p4⟩ := least_pm l h
  apply Nat.le_of_not_lt
  intro hlt
  have := h4 (least l) p1 hlt
  rw [(locOk_iff l i _ hi).2 (fun j _ _ h => p3 j h)] at this
  cases this
/-- F3 as the statement asks it -/
theorem critical_row (l : Str) (i : Nat) (h : 1 ≤ l.length) (h1 : 1 ≤ i) (h2 : i + least l ≤ l.length) : ∃ k, i ≤ k ∧ k < i + least l ∧ loc l k = least l := by
  obtain ⟨k, k1, k2, k3⟩ := window _ l (least l) i rfl (least_pm l h) h1 h2
  refine ⟨k, k1, k2, ?_⟩
  obtain ⟨q1, q2, q3, q4⟩ := firstPos_spec (locOk l k) l.length h (locOk_all l k)
  have hle := loc_le_least l k h (by omega)
  apply Nat.le_antisymm hle
  apply Nat.le_of_not_lt
  intro hlt
  exact k3 _ q1 hlt ((locOk_iff l k _ (by omega)).1 q3)
end Go.Proofs.YtpoekblolicehaaDoor
