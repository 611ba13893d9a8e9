/-
  Plain: the least rotation and its Lyndon words.
-/
import Derived.Test.YtpoekblolicehaaDoorPlainI
namespace Go.Proofs.YtpoekblolicehaaDoor

theorem turnTo_min (l : Str) : ∀ k i, i < k → slt up (rot l i) (rot l (turnTo l k)) = false
  | 0, i, h => by omega
  | k + 1, i, h => by
    cases hs : slt up (rot l k) (rot l (turnTo l k)) with
    | true =>
      rw [turnTo_yes l k hs]
      by_cases hi : i = k
      · subst hi; exact slt_irrefl _ _
      · have := turnTo_min l k i (by omega)
        cases hx : slt up (rot l i) (rot l k) with
        | false => rfl
        | true => rw [slt_trans hx hs] at this; cases this
    | false =>
      rw [turnTo_no l k hs]
      by_cases hi : i = k
      · subst hi; exact hs
      · exact turnTo_min l k i (by omega)
theorem turn_lt (l : Str) (h : 1 ≤ l.length) : turn l < l.length := by
  have := turnTo_le l l.length
  unfold turn; omega
theorem at_rot (l : Str) (i x : Nat) (hi : i ≤ l.length) (hx : x < l.length) : at' (rot l i) x = at' l (if i + x < l.length then i + x else i + x - l.length) := by
  unfold at' rot
  rw [List.getD_eq_getElem?_getD, List.getElem?_append, List.length_drop]
  by_cases h : x < l.length - i
  · rw [if_pos h, if_pos (by omega), List.getElem?_drop, ← List.getD_eq_getElem?_getD]
  · rw [if_neg h, if_neg (by omega), List.getElem?_take, if_pos (by omega), ← List.getD_eq_getElem?_getD]
    congr 2; omega
theorem rot_rot (l : Str) (i j : Nat) (hi : i ≤ l.length) (hj : j < l.length) : ∃ m, m < l.length ∧ rot (rot l i) j = rot l m := by
  have hm : (if i + j < l.length then i + j else i + j - l.length) < l.length := by split <;> omega
  refine ⟨_, hm, ?_⟩
  refine ext_at _ _ (by rw [rot_length, rot_length, rot_length]) fun x hx => ?_
  rw [rot_length, rot_length] at hx
  rw [at_rot (rot l i) j x (by rw [rot_length]; omega) (by rw [rot_length]; exact hx), rot_length, at_rot l i _ hi (by split <;> omega), at_rot l _ x (by omega) hx]
  congr 1
  split <;> split <;> split <;> (try split) <;> omega
theorem rot_back (l : Str) (i : Nat) (hi : i ≤ l.length) (j : Nat) (hj : j < l.length) : ∃ m, m < l.length ∧ rot l j = rot (rot l i) m := by
  have hm : (if i ≤ j then j - i else j + l.length - i) < l.length := by split <;> omega
  refine ⟨_, hm, ?_⟩
  refine ext_at _ _ (by rw [rot_length, rot_length, rot_length]) fun x hx => ?_
  rw [rot_length] at hx
  rw [at_rot (rot l i) _ x (by rw [rot_length]; omega) (by rw [rot_length]; exact hx), rot_length, at_rot l i _ hi (by split <;> split <;> omega), at_rot l j x (by omega) hx]
  congr 1
  split <;> split <;> split <;> (try split) <;> omega
/-- F8: all rotations have the same least one -/
theorem turn_rot (l : Str) (k : Nat) (hk : k < l.length) : rot l (turn l) = rot (rot l k) (turn (rot l k)) := by
  have h1 := turn_lt l (by omega)
  have h2 := turn_lt (rot l k) (by rw [rot_length]; omega)
  rw [rot_length] at h2
  obtain ⟨m, hm, em⟩ := rot_rot l k (turn (rot l k)) (by omega) h2
  obtain ⟨m', hm', em'⟩ := rot_back l k (by omega) (turn l) h1
  have a := turnTo_min l l.length m hm
  rw [← em] at a
  have b := turnTo_min (rot l k) (rot l k).length m' (by rw [rot_length]; exact hm')
  rw [← em'] at b
  rcases slt_total up_inj (rot l (turn l)) (rot (rot l k) (turn (rot l k))) with h | h | h
  · exact h
  · have : slt up (rot l (turn l)) (rot (rot l k) (turn (rot l k))) = false := b
    rw [h] at this; cases this
  · have : slt up (rot (rot l k) (turn (rot l k))) (rot l (turn l)) = false := a
    rw [h] at this; cases this

/-- a rotation that is not greater than any other -/
def Low (u : Str) : Prop := ∀ i, i < u.length → slt up (rot u i) u = false
theorem low_turn (l : Str) (h : 1 ≤ l.length) : Low (rot l (turn l)) := by
  intro i hi
  rw [rot_length] at hi
  have h1 := turn_lt l h
  obtain ⟨m, hm, em⟩ := rot_rot l (turn l) i (by omega) hi
  rw [em]
  exact turnTo_min l l.length m hm
theorem rot_zero (l : Str) : rot l 0 = l := by simp [rot]
theorem low_turn0 (u : Str) (h : Low u) : turn u = 0 := by
  have : ∀ k, k ≤ u.length → turnTo u k = 0 := by
    intro k
    induction k with
    | zero => intro _; rfl
    | succ k ih =>
      intro hk
      have h0 := ih (by omega)
      rw [turnTo_no u k (by rw [h0, rot_zero]; exact h k (by omega)), h0]
  exact this _ (Nat.le_refl _)
/-- Duval's state at the end of a least rotation: whole words -/
theorem low_duv (u : Str) (hu : Low u) (j k : Nat) (hd : Duv u j k) (hf : Duv.fin u j k) : j = u.length ∧ j % (j - k) = 0 := by
  have h1 := hd.kj
  have h2 := hd.jn
  have hj : j = u.length := by
    by_cases hjl : j = u.length
    · exact hjl
    exfalso
    rcases hf with h | h
    · exact hjl h
    · have hx := hu (j - k) (by omega)
      have : slt up (rot u (j - k)) u = true := by
        refine slt_at _ _ k (fun i hi => ?_) (by rw [rot_length]; omega) (by omega) ?_
        · rw [at_rot _ _ _ (by omega) (by omega), if_pos (by omega), hd.per _ (by omega) (by omega)]
          congr 1; omega
        · rw [at_rot _ _ _ (by omega) (by omega), if_pos (by omega), show j - k + k = j by omega]
          exact h
      rw [this] at hx; cases hx
  refine ⟨hj, ?_⟩
  apply Nat.eq_zero_of_not_pos
  intro hr
  have hdm := Nat.div_add_mod j (j - k)
  have hml := Nat.mod_lt j (show j - k > 0 by omega)
  rw [Nat.mul_comm] at hdm
  generalize j / (j - k) = q at *
  generalize j % (j - k) = r at *
  obtain ⟨m, w1, w2, w3⟩ := hd.wor r hr hml
  have hx := hu (q * (j - k)) (by omega)
  have : slt up (rot u (q * (j - k))) u = true := by
    refine slt_at _ _ (r + m) (fun i hi => ?_) (by rw [rot_length]; omega) (by omega) ?_
    · rw [at_rot _ _ _ (by omega) (by omega)]
      by_cases hir : i < r
      · rw [if_pos (by omega)]
        exact hd.perm q i (by omega)
      · rw [if_neg (by omega), show q * (j - k) + i - u.length = i - r by omega, ← w2 (i - r) (by omega)]
        congr 1; omega
    · rw [at_rot _ _ _ (by omega) (by omega), if_neg (by omega), show q * (j - k) + (r + m) - u.length = m by omega]
      exact w3
  rw [this] at hx; cases hx
theorem duv_same : ∀ (n : Nat) (u : Str) (j k : Nat), u.length ≤ n → Duv u j k → j = u.length → j % (j - k) = 0 → ∀ x ∈ lyn u, x = u.take (j - k) := by
  intro n
  induction n with
  | zero => intro u j k h hd; have := hd.kj; have := hd.jn; omega
  | succ n ih =>
    intro u j k hn hd hj hm x hx
    have h1 := hd.kj
    have hf : Duv.fin u j k := .inl hj
    have hl := hd.len hf
    rw [lyn_cons u (by omega), hl] at hx
    rcases List.mem_cons.1 hx with h | h
    · exact h
    · by_cases hk : j - k ≤ k
      · obtain ⟨hd2, hf2⟩ := hd.next hf hk
        have e : k - (k - (j - k)) = j - k := by omega
        have := ih (u.drop (j - k)) k (k - (j - k)) (by rw [List.length_drop]; omega) hd2 (by rw [List.length_drop]; omega) (by
          rw [e]
          have := Nat.add_mod_right k (j - k)
          rw [show k + (j - k) = j by omega] at this
          rw [← this]; exact hm) x h
        rw [e] at this
        rw [this]
        refine ext_at _ _ (by simp; omega) fun i hi => ?_
        rw [List.length_take, List.length_drop] at hi
        rw [at_take _ _ _ (by omega), at_take _ _ _ (by omega), at_drop, hd.per _ (by omega) (by omega)]
        congr 1; omega
      · exfalso
        have hk0 : k = 0 := by
          have := Nat.add_mod_right k (j - k)
          rw [show k + (j - k) = j by omega, hm, Nat.mod_eq_of_lt (by omega)] at this
          exact this.symm
        rw [List.drop_of_length_le (by omega)] at h
        cases h
/-- the words of a least rotation are all the same one -/
theorem low_same (u : Str) (hu : Low u) (h : 1 ≤ u.length) : ∀ i, i < (lyn u).length → (lyn u).getD i [] = (lyn u).getD 0 [] := by
  obtain ⟨j, k, hd, hf⟩ := Duv.ex u _ 1 0 (Nat.le_refl _) (Duv.start u h)
  obtain ⟨hj, hm⟩ := low_duv u hu j k hd hf
  have hs := duv_same _ u j k (Nat.le_refl _) hd hj hm
  have : ∀ i, i < (lyn u).length → (lyn u).getD i [] = u.take (j - k) := by
    intro i hi
    rw [List.getD_eq_getElem?_getD, List.getElem?_eq_getElem hi]
    exact hs _ (List.getElem_mem hi)
  intro i hi
  rw [this i hi, this 0 (by omega)]
theorem chk_rot (l : Str) (i : Nat) (h : chk l = 0) : chk (rot l i) = 0 := by
  obtain ⟨h1, h2, h3⟩ := chk_ok h
  have hp := chk_pos h
  have hl := rot_length l i
  unfold chk
  rw [if_neg (by omega), if_neg]
  rw [Bool.or_eq_true, not_or]
  constructor
  · intro he
    rw [List.isEmpty_iff.1 he] at hl
    simp at hl; omega
  · rw [rot, List.all_append, Bool.not_eq_true']
    have a : (l.drop i).all letter = true := by
      rw [List.all_eq_true] at *
      exact fun c hc => h3 c (List.mem_of_mem_drop hc)
    have b : (l.take i).all letter = true := by
      rw [List.all_eq_true] at *
      exact fun c hc => h3 c (List.mem_of_mem_take hc)
    rw [a, b]; decide
end Go.Proofs.YtpoekblolicehaaDoor
