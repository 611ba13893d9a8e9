/-
  The braid of two strands: its least genus, for each number of crossings (by computation).
-/
import Derived.Test.YtppkgilpmmhpoaaDoorPlainA
namespace Go.Proofs.YtppkgilpmmhpoaaDoor
open Go.RowKit
theorem okB_low : ∀ n, n < 9 → okB (n + 1) = true := by decide +kernel
theorem okB_ten : okB 10 = true := by decide +kernel
theorem okB_all {n : Nat} (h1 : 1 ≤ n) (h2 : n ≤ 10) : okB n = true := by
  by_cases h : n = 10
  · rw [h]; exact okB_ten
  · have := okB_low (n - 1) (by omega)
    have e : n - 1 + 1 = n := by omega
    rw [e] at this
    exact this
end Go.Proofs.YtppkgilpmmhpoaaDoor
