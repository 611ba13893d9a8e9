/-
  Chapter 12 in plain words: sets as lists, in lexicographic order; the core (A6); other names.
-/
import Derived.Test.YtaedbkdimpdngaaPlainC
namespace Go.Proofs.Ytaedbkdimpdngaa
/-- the lexicographic order -/
def ltL : List Nat → List Nat → Bool
  | [], [] => false
  | [], _ :: _ => true
  | _ :: _, [] => false
  | a :: l, b :: m => decide (a < b) || (a == b && ltL l m)
theorem ltL_irrefl : ∀ l, ltL l l = false
  | [] => rfl
  | a :: l => by simp [ltL, ltL_irrefl l]
theorem ltL_trans : ∀ {x y z : List Nat}, ltL x y = true → ltL y z = true → ltL x z = true
  | [], [], _, h, _ => by simp [ltL] at h
  | [], _ :: _, [], _, h => by simp [ltL] at h
  | [], _ :: _, _ :: _, _, _ => rfl
  | _ :: _, [], _, h, _ => by simp [ltL] at h
  | _ :: _, _ :: _, [], _, h => by simp [ltL] at h
  | a :: x, b :: y, c :: z, h1, h2 => by
    simp only [ltL, Bool.or_eq_true, decide_eq_true_eq, Bool.and_eq_true, beq_iff_eq] at *
    rcases h1 with h1 | ⟨rfl, h1⟩ <;> rcases h2 with h2 | ⟨rfl, h2⟩
    · exact .inl (by omega)
    · exact .inl h1
    · exact .inl h2
    · exact .inr ⟨rfl, ltL_trans h1 h2⟩
theorem ltL_total : ∀ {x y : List Nat}, ltL x y = false → ltL y x = false → x = y
  | [], [], _, _ => rfl
  | [], _ :: _, h, _ => by simp [ltL] at h
  | _ :: _, [], _, h => by simp [ltL] at h
  | a :: x, b :: y, h1, h2 => by
    simp only [ltL, Bool.or_eq_false_iff, decide_eq_false_iff_not, Bool.and_eq_false_iff, beq_eq_false_iff_ne, ne_eq] at h1 h2
    have : a = b := by omega
    subst this
    rcases h1.2 with h | h
    · exact absurd rfl h
    · rcases h2.2 with h' | h'
      · exact absurd rfl h'
      · rw [ltL_total h h']
def Srt (l : List (List Nat)) : Prop := l.Pairwise fun a b => ltL b a = false
/-- into a list, behind all that are less -/
def insL (x : List Nat) (l : List (List Nat)) : List (List Nat) := l.takeWhile (fun y => ltL y x) ++ x :: l.dropWhile (fun y => ltL y x)
theorem insL_perm (x : List Nat) (l : List (List Nat)) : (insL x l).Perm (x :: l) := by
  unfold insL
  refine List.perm_middle.trans ?_
  rw [List.takeWhile_append_dropWhile]
theorem insL_nil (x : List Nat) : insL x [] = [x] := rfl
theorem insL_cons (x y : List Nat) (l : List (List Nat)) : insL x (y :: l) = if ltL y x then y :: insL x l else x :: y :: l := by
  unfold insL
  cases e : ltL y x <;> simp [e]
theorem ltL_asymm {x y : List Nat} (h : ltL x y = true) : ltL y x = false := by
  cases e : ltL y x with
  | false => rfl
  | true => have := ltL_trans h e; rw [ltL_irrefl] at this; cases this
theorem ltL_le_trans {x y z : List Nat} (h1 : ltL x y = false) (h2 : ltL y z = false) : ltL x z = false := by
  cases e : ltL x z with
  | false => rfl
  | true =>
    cases e2 : ltL z y with
    | true => rw [ltL_trans e e2] at h1; cases h1
    | false => rw [ltL_total e2 h2, h1] at e; cases e
theorem insL_srt (x : List Nat) : ∀ l, Srt l → Srt (insL x l)
  | [], _ => by simp [insL_nil, Srt]
  | y :: l, h => by
    rw [insL_cons]
    unfold Srt at *
    rw [List.pairwise_cons] at h
    cases e : ltL y x with
    | true =>
      rw [if_pos rfl, List.pairwise_cons]
      refine ⟨fun z hz => ?_, insL_srt x l h.2⟩
      rw [(insL_perm x l).mem_iff, List.mem_cons] at hz
      rcases hz with rfl | hz
      · exact ltL_asymm e
      · exact h.1 z hz
    | false =>
      rw [if_neg (by decide), List.pairwise_cons]
      refine ⟨fun z hz => ?_, List.pairwise_cons.2 h⟩
      rw [List.mem_cons] at hz
      rcases hz with rfl | hz
      · exact e
      · exact ltL_le_trans (h.1 z hz) e
theorem srt_unique : ∀ {l m : List (List Nat)}, l.Perm m → Srt l → Srt m → l = m
  | [], m, h, _, _ => (List.Perm.nil_eq h)
  | x :: l, [], h, _, _ => absurd h.length_eq (by simp)
  | x :: l, y :: m, h, h1, h2 => by
    have e : x = y := by
      unfold Srt at h1 h2
      rw [List.pairwise_cons] at h1 h2
      have hx : x ∈ y :: m := h.mem_iff.1 (by simp)
      have hy : y ∈ x :: l := h.mem_iff.2 (by simp)
      rw [List.mem_cons] at hx hy
      rcases hx with hx | hx
      · exact hx
      · rcases hy with hy | hy
        · exact hy.symm
        · exact ltL_total (h2.1 x hx) (h1.1 y hy)
    subst e
    rw [srt_unique (List.perm_cons x |>.1 h) (List.pairwise_cons.1 h1).2 (List.pairwise_cons.1 h2).2]
/-- a set as a rising list -/
def elems (s : Nat) : List Nat := (List.range 16).filter fun i => s.testBit i
/-- sets as lists, in lexicographic order -/
def lists (l : List Nat) : List (List Nat) := l.foldl (fun out s => insL (elems s) out) []
theorem lists_gen : ∀ (l : List Nat) (out : List (List Nat)), Srt out → Srt (l.foldl (fun out s => insL (elems s) out) out) ∧ (l.foldl (fun out s => insL (elems s) out) out).Perm (l.map elems ++ out)
  | [], out, h => ⟨h, List.Perm.refl _⟩
  | s :: l, out, h => by
    obtain ⟨h1, h2⟩ := lists_gen l (insL (elems s) out) (insL_srt _ _ h)
    refine ⟨h1, h2.trans ?_⟩
    rw [List.map_cons]
    refine ((List.Perm.refl _).append (insL_perm _ _)).trans ?_
    exact List.perm_middle
theorem lists_srt (l : List Nat) : Srt (lists l) := (lists_gen l [] List.Pairwise.nil).1
theorem lists_perm (l : List Nat) : (lists l).Perm (l.map elems) := by
  have := (lists_gen l [] List.Pairwise.nil).2
  rwa [List.append_nil] at this
theorem lists_of {l : List Nat} {m : List (List Nat)} (h : m.Perm (l.map elems)) (hs : Srt m) : m = lists l := srt_unique (h.trans (lists_perm l).symm) hs (lists_srt l)
theorem lists_eq {l m : List Nat} (h : l.Perm m) : lists l = lists m := lists_of ((lists_perm l).trans (h.map _)) (lists_srt l)
theorem mem_elems (s i : Nat) : i ∈ elems s ↔ i < 16 ∧ s.testBit i = true := by
  unfold elems; rw [List.mem_filter, List.mem_range]
theorem elems_inj {s t : Nat} (hs : s < 2 ^ 16) (ht : t < 2 ^ 16) (h : elems s = elems t) : s = t := by
  refine Nat.eq_of_testBit_eq fun i => ?_
  have h1 := mem_elems s i
  have h2 := mem_elems t i
  rw [h] at h1
  by_cases hi : i < 16
  · rw [Bool.eq_iff_iff]
    exact ⟨fun h3 => (h2.1 (h1.2 ⟨hi, h3⟩)).2, fun h3 => (h1.1 (h2.2 ⟨hi, h3⟩)).2⟩
  · rw [Nat.testBit_lt_two_pow (Nat.lt_of_lt_of_le hs (Nat.pow_le_pow_right (by omega) (by omega))), Nat.testBit_lt_two_pow (Nat.lt_of_lt_of_le ht (Nat.pow_le_pow_right (by omega) (by omega)))]

section
variable (d : Dsp)
/-- the core -/
def Dsp.core : Dsp := ⟨d.n, fun a b => d.att a b && !(a != b && d.att a a && (d.att b a || d.att b b))⟩
def Dsp.plus (q : Nat → Nat → Bool) : Dsp := ⟨d.n, fun a b => d.att a b || q a b⟩
theorem Dsp.core_loop (a : Nat) : d.core.att a a = d.att a a := by simp [Dsp.core]
theorem Dsp.core_le {a b : Nat} (h : d.core.att a b = true) : d.att a b = true := by
  unfold Dsp.core at h
  rw [Bool.and_eq_true] at h
  exact h.1
theorem Dsp.core_out {a b : Nat} (h : d.att a b = true) (h2 : d.core.att a b = false) : a ≠ b ∧ d.att a a = true ∧ (d.att b a = true ∨ d.att b b = true) := by
  unfold Dsp.core at h2
  simp only [h, Bool.true_and, Bool.not_eq_false', Bool.and_eq_true, bne_iff_ne, ne_eq, Bool.or_eq_true] at h2
  exact ⟨h2.1.1, h2.1.2, h2.2⟩
theorem Dsp.core_core : d.core.core = d.core := by
  have : d.core.core.att = d.core.att := by
    funext a b
    cases h : d.core.att a b with
    | false =>
      cases h2 : d.core.core.att a b with
      | false => rfl
      | true => have := d.core.core_le h2; rw [h] at this; cases this
    | true =>
      cases h2 : d.core.core.att a b with
      | true => rfl
      | false =>
        obtain ⟨h3, h4, h5⟩ := d.core.core_out h h2
        rw [d.core_loop] at h4
        rw [d.core_loop] at h5
        have h6 : d.att b a = true ∨ d.att b b = true := h5.elim (fun h => .inl (d.core_le h)) .inr
        unfold Dsp.core at h
        simp only [Bool.and_eq_true, Bool.not_eq_true', Bool.and_eq_false_iff, bne_eq_false_iff_eq, Bool.or_eq_false_iff] at h
        rcases h.2 with (h7 | h7) | h7
        · exact absurd h7 h3
        · rw [h4] at h7; cases h7
        · rcases h6 with h8 | h8
          · rw [h8] at h7; cases h7.1
          · rw [h8] at h7; cases h7.2
  show (⟨d.n, d.core.core.att⟩ : Dsp) = ⟨d.n, d.core.att⟩
  rw [this]
variable (q : Nat → Nat → Bool)
theorem Dsp.plus_core_le {a b : Nat} (h : (d.core.plus q).att a b = true) : (d.plus q).att a b = true := by
  unfold Dsp.plus at h ⊢
  simp only [Bool.or_eq_true] at h ⊢
  exact h.imp (d.core_le) id
theorem Dsp.plus_core_out {a b : Nat} (h : (d.plus q).att a b = true) (h2 : (d.core.plus q).att a b = false) : a ≠ b ∧ d.att a a = true ∧ (d.att b a = true ∨ d.att b b = true) := by
  unfold Dsp.plus at h h2
  simp only [Bool.or_eq_true, Bool.or_eq_false_iff] at h h2
  refine d.core_out (h.resolve_right ?_) h2.1
  rw [h2.2]; decide
theorem Dsp.plus_core_loop {a : Nat} (h : d.att a a = true) : (d.core.plus q).att a a = true := by
  show (d.core.att a a || q a a) = true
  rw [d.core_loop, h]; rfl
theorem Dsp.core_cf (s : Nat) : (d.core.plus q).cf s = (d.plus q).cf s := by
  rw [Bool.eq_iff_iff, Dsp.cf_iff, Dsp.cf_iff]
  constructor
  · intro h i hi
    cases e : ((d.plus q).hit s).testBit i with
    | false => rfl
    | true =>
      obtain ⟨h1, a, h2, h3, h4⟩ := ((d.plus q).hit_iff s i).1 e
      cases e2 : (d.core.plus q).att a i with
      | true =>
        have := ((d.core.plus q).hit_iff s i).2 ⟨h1, a, h2, h3, e2⟩
        rw [h i hi] at this; cases this
      | false =>
        obtain ⟨_, h5, _⟩ := d.plus_core_out q h4 e2
        have := ((d.core.plus q).hit_iff s a).2 ⟨h2, a, h2, h3, d.plus_core_loop q h5⟩
        rw [h a h3] at this; cases this
  · intro h i hi
    cases e : ((d.core.plus q).hit s).testBit i with
    | false => rfl
    | true =>
      obtain ⟨h1, a, h2, h3, h4⟩ := ((d.core.plus q).hit_iff s i).1 e
      have := ((d.plus q).hit_iff s i).2 ⟨h1, a, h2, h3, d.plus_core_le q h4⟩
      rw [h i hi] at this; cases this
/-- A6: a dispute and its core have the same admissible sets, whatever is added to both -/
theorem Dsp.core_adm (s : Nat) : (d.core.plus q).adm s = (d.plus q).adm s := by
  by_cases hs : s < 2 ^ d.n
  · rw [Bool.eq_iff_iff, Dsp.adm_iff, Dsp.adm_iff, d.core_cf q s]
    refine and_congr_right fun hc => ?_
    rw [sub_iff, sub_iff]
    have hc' := ((d.plus q).cf_iff s).1 hc
    have loop : ∀ a, a < d.n → s.testBit a = true → d.att a a = true → False := fun a ha h1 h2 => by
      have h3 : (d.plus q).att a a = true := by show (d.att a a || q a a) = true; rw [h2]; rfl
      have := ((d.plus q).hit_iff s a).2 ⟨ha, a, ha, h1, h3⟩
      rw [hc' a h1] at this; cases this
    constructor
    · intro h i hi
      have h1 := ((d.core.plus q).dfd_iff s i).1 (h i hi)
      refine ((d.plus q).dfd_iff s i).2 ⟨h1.1, fun j hj hji => ?_⟩
      cases e : (d.core.plus q).att j i with
      | true =>
        obtain ⟨h2, a, h3, h4, h5⟩ := ((d.core.plus q).hit_iff s j).1 (h1.2 j hj e)
        exact ((d.plus q).hit_iff s j).2 ⟨h2, a, h3, h4, d.plus_core_le q h5⟩
      | false =>
        obtain ⟨_, _, h6⟩ := d.plus_core_out q hji e
        rcases h6 with h6 | h6
        · refine ((d.plus q).hit_iff s j).2 ⟨hj, i, h1.1, hi, ?_⟩
          show (d.att i j || q i j) = true
          rw [h6]; rfl
        · exact (loop i h1.1 hi h6).elim
    · intro h i hi
      have h1 := ((d.plus q).dfd_iff s i).1 (h i hi)
      refine ((d.core.plus q).dfd_iff s i).2 ⟨h1.1, fun j hj hji => ?_⟩
      obtain ⟨h2, a, h3, h4, h5⟩ := ((d.plus q).hit_iff s j).1 (h1.2 j hj (d.plus_core_le q hji))
      refine ((d.core.plus q).hit_iff s j).2 ⟨h2, a, h3, h4, ?_⟩
      cases e : (d.core.plus q).att a j with
      | true => rfl
      | false =>
        obtain ⟨_, h6, _⟩ := d.plus_core_out q h5 e
        exact (loop a h3 h4 h6).elim
  · cases e : (d.core.plus q).adm s with
    | true => exact absurd ((d.core.plus q).adm_lt e) hs
    | false =>
      cases e2 : (d.plus q).adm s with
      | true => exact absurd ((d.plus q).adm_lt e2) hs
      | false => rfl
theorem alls_of {d e : Dsp} (hn : d.n = e.n) {t u : Nat → Bool} (h : ∀ s, t s = u s) : d.alls t = e.alls u := by
  have : t = u := funext h
  unfold Dsp.alls
  rw [this, hn]
theorem pref_of {d e : Dsp} (hn : d.n = e.n) (h : ∀ s, d.adm s = e.adm s) : d.pref = e.pref := by
  unfold Dsp.pref
  rw [alls_of hn h]
theorem ideal_of {d e : Dsp} (hn : d.n = e.n) (h : ∀ s, d.adm s = e.adm s) : d.ideal = e.ideal := by
  unfold Dsp.ideal Dsp.common Dsp.full
  rw [alls_of hn h, pref_of hn h, hn]
theorem Dsp.core_pref : (d.core.plus q).pref = (d.plus q).pref := pref_of rfl (d.core_adm q)
theorem Dsp.core_ideal : (d.core.plus q).ideal = (d.plus q).ideal := ideal_of rfl (d.core_adm q)
end
/-- a part without repetitions is not longer -/
theorem nodup_len {α : Type} [DecidableEq α] : ∀ {l m : List α}, l.Nodup → (∀ x, x ∈ l → x ∈ m) → l.length ≤ m.length
  | [], m, _, _ => Nat.zero_le _
  | x :: l, m, h, hs => by
    have hx := hs x (by simp)
    rw [List.nodup_cons] at h
    have := nodup_len (l := l) (m := m.erase x) h.2 fun y hy => by
      have hne : y ≠ x := fun e => h.1 (e ▸ hy)
      exact (List.mem_erase_of_ne hne).2 (hs y (List.mem_cons_of_mem _ hy))
    rw [List.length_erase_of_mem hx] at this
    have h2 : 0 < m.length := List.length_pos_of_mem hx
    simp only [List.length_cons]
    omega
end Go.Proofs.Ytaedbkdimpdngaa
