/-
  Plain: the words of Lyndon.
-/
import Derived.Test.YtpoekblolicehaaDoorPlainH
namespace Go.Proofs.YtpoekblolicehaaDoor

theorem lyn_self (u : Str) (h : isLyn u = true) : lyn u = [u] := by
  have h1 := ((isLyn_iff u).1 h).1
  have hl : lynLen u = u.length := lynDown_of u u.length (by rw [List.take_length]; exact h) h1 _ (Nat.le_refl _) (fun m a b => by omega)
  rw [lyn_cons u h1, hl, List.take_length, List.drop_length]
  rfl
theorem lyn_all : ∀ (n : Nat) (l : Str), l.length ≤ n → ∀ x ∈ lyn l, isLyn x = true ∧ x.length ≤ l.length ∧ (∀ p : UInt8 → Bool, l.all p = true → x.all p = true) := by
  intro n
  induction n with
  | zero => intro l h; cases l with | nil => intro x hx; cases hx | cons => simp at h
  | succ n ih =>
    intro l h x hx
    by_cases h1 : 1 ≤ l.length
    · have h2 := lynLen_pos l h1
      rw [lyn_cons l h1] at hx
      rcases List.mem_cons.1 hx with rfl | hx
      · refine ⟨lynDown_isLyn l h1 _ h1, by rw [List.length_take]; omega, fun p hp => ?_⟩
        rw [List.all_eq_true] at *
        exact fun c hc => hp c (List.mem_of_mem_take hc)
      · obtain ⟨a, b, c⟩ := ih _ (by rw [List.length_drop]; omega) x hx
        refine ⟨a, by rw [List.length_drop] at b; omega, fun p hp => c p ?_⟩
        rw [List.all_eq_true] at *
        exact fun c hc => hp c (List.mem_of_mem_drop hc)
    · cases l with | nil => cases hx | cons => simp at h1
theorem lyn_order : ∀ (n : Nat) (l : Str), l.length ≤ n → ∀ i, i + 1 < (lyn l).length → slt up ((lyn l).getD i []) ((lyn l).getD (i + 1) []) = false := by
  intro n
  induction n with
  | zero => intro l h; cases l with | nil => intro i hi; simp [lyn_nil] at hi | cons => simp at h
  | succ n ih =>
    intro l h i hi
    by_cases h1 : 1 ≤ l.length
    · have h2 := lynLen_pos l h1
      have hnx := lyn_next l h1
      rw [lyn_cons l h1] at hi ⊢
      have hr := ih (l.drop (lynLen l)) (by rw [List.length_drop]; omega)
      generalize hd : l.drop (lynLen l) = d at *
      cases i with
      | zero =>
        have hd1 : 1 ≤ d.length := by
          apply Nat.le_of_not_lt
          intro h0
          have : d = [] := List.eq_nil_of_length_eq_zero (by omega)
          rw [this, lyn_nil] at hi
          simp at hi
        rw [lyn_cons d hd1]
        exact hnx
      | succ i =>
        simp only [List.getD_cons_succ]
        exact hr i (by simpa using hi)
    · cases l with | nil => simp [lyn_nil] at hi | cons => simp at h1
theorem lyn_pos (l : Str) (h : 1 ≤ l.length) : 1 ≤ (lyn l).length := by
  rw [lyn_cons l h]; simp
end Go.Proofs.YtpoekblolicehaaDoor
