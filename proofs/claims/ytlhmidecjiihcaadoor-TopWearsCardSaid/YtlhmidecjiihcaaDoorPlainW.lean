/-
  The word of the renewals: its periods, its run.
-/
import Derived.Test.YtlhmidecjiihcaaDoorRhyA
namespace Go.Proofs.YtlhmidecjiihcaaDoor
open Go.RowKit
/-- the word of the renewals -/
def wrd (m k : Nat) : Str := (List.range k).map fun i => if i % m = 0 then 97 else 98
def sz (m t : Nat) : Nat := min (m * (t + 2)) 41
theorem wrd_len (m k : Nat) : (wrd m k).length = k := by simp [wrd]
theorem wrd_snoc (m k : Nat) : wrd m (k + 1) = wrd m k ++ [if k % m = 0 then 97 else 98] := by
  unfold wrd
  rw [List.range_succ, List.map_append]; rfl
theorem wrd_all (m k : Nat) : (wrd m k).all ([97, 98, 99, 100].contains ·) = true := by
  rw [List.all_eq_true]
  intro x hx
  unfold wrd at hx
  obtain ⟨i, _, rfl⟩ := List.mem_map.1 hx
  split <;> decide
theorem wrd_letter (m k : Nat) : (wrd m k).all letter = true := by
  rw [List.all_eq_true]
  intro x hx
  unfold wrd at hx
  obtain ⟨i, _, rfl⟩ := List.mem_map.1 hx
  split <;> decide
theorem wrd_pers : ∀ m < 13, ∀ t < 4, 1 ≤ m → (pers (wrd m (sz m t)) (sz m t)).getD 0 0 = m ∧ (pers (wrd m (sz m t)) (sz m t)).getD ((pers (wrd m (sz m t)) (sz m t)).length - 1) 0 = sz m t ∧ 1 ≤ (pers (wrd m (sz m t)) (sz m t)).length := by decide +kernel
theorem wrd_run : ∀ m < 13, ∀ t < 4, 1 ≤ m → isRun (wrd m (sz m t)) 0 (sz m t) = true ∧ lst (wrd m (sz m t)) 0 (sz m t) = m := by decide +kernel
theorem sz_le (m t : Nat) : sz m t ≤ 41 := Nat.min_le_right _ _
theorem sz_two {m t : Nat} (h : m ≤ 12) : 2 * m ≤ sz m t := by
  unfold sz
  have : m * 2 ≤ m * (t + 2) := Nat.mul_le_mul_left m (by omega)
  omega
theorem run_mem {m t : Nat} (h1 : 1 ≤ m) (h : m ≤ 12) (ht : t < 4) : (0, sz m t, m) ∈ runs (wrd m (sz m t)) := by
  have h2 := sz_two (t := t) h
  obtain ⟨hr, hl⟩ := wrd_run m (by omega) t ht h1
  unfold runs runsTo
  rw [List.mem_flatMap]
  refine ⟨0, List.mem_range.2 (by rw [wrd_len]; omega), ?_⟩
  unfold runsAt runsIn
  rw [List.mem_map]
  refine ⟨sz m t - 2, List.mem_filter.2 ⟨List.mem_range.2 (by rw [wrd_len]; omega), ?_⟩, ?_⟩
  · rw [show 0 + 2 + (sz m t - 2) = sz m t by omega]; exact hr
  · rw [show 0 + 2 + (sz m t - 2) = sz m t by omega, hl]
end Go.Proofs.YtlhmidecjiihcaaDoor
