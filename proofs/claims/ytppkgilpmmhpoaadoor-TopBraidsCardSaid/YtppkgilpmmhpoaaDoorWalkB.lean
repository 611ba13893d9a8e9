/-
  The order of the ends at a crossing (46); the place of a number in a list (47).
-/
import Derived.Test.YtppkgilpmmhpoaaDoorWalkA
namespace Go.Proofs.YtppkgilpmmhpoaaDoor
open Go.RowKit
theorem around_any (s : Int) (w : World) : Calls Tryd.prog 46 #[.int .i64 s] w fun e w' => e = .returned (if s = 1 then .agg #[.int .i64 0, .int .i64 2, .int .i64 1, .int .i64 3] else .agg #[.int .i64 0, .int .i64 3, .int .i64 1, .int .i64 2]) ∧ Below w.heap.size w w' := by
  by_cases h : s = 1
  · subst h
    rw [if_pos rfl]
    go_enter Tryd.func46, Tryd.ntmps46
    go_wp2_with fail
    refine bodyPost_ret (v := .agg #[.int .i64 0, .int .i64 2, .int .i64 1, .int .i64 3]) (by simp [results, Tryd.results46, go_sem]) rfl ⟨rfl, ba w _⟩
  · have hb : (s == 1) = false := beq_eq_false_iff_ne.2 h
    rw [if_neg h]
    go_enter Tryd.func46, Tryd.ntmps46
    go_wp2_with fail
    refine bodyPost_ret (v := .agg #[.int .i64 0, .int .i64 3, .int .i64 1, .int .i64 2]) (by simp [results, Tryd.results46, go_sem]) rfl ⟨rfl, ba w _⟩
theorem index_any (g n c k : Nat) (z : Nat → Int) (x : Int) (w : World) (hk : k < n) (hn : n ≤ 1000000) (hc : ∀ j, j < n → w.cell? ⟨g, j, none⟩ = some (.int .i64 (z j))) (h1 : z k = x) (h2 : ∀ j, j < k → z j ≠ x) :
    Calls Tryd.prog 47 #[.slice (some ⟨g, 0, none⟩) n c, .int .i64 x] w fun e w' => e = .returned (.int .i64 (k : Int)) ∧ Below w.heap.size w w' := by
  have HC := hid hc
  have H2 := hid h2
  have H1 := hid h1
  clear hc h1 h2
  go_enter Tryd.func47, Tryd.ntmps47
  go_wp2_with fail
  go_loopw [8] (fun iv wr => ∃ i : Nat, iv = .int .i64 i ∧ i ≤ k ∧ Hid (Below w.heap.size w wr)) (fun iv _ => n - (intOf iv).toNat)
  case atStart => exact ⟨0, rfl, Nat.zero_le _, Below.refl _ _⟩
  case round =>
    obtain ⟨i, rfl, hi, HBr⟩ := hrel
    rename World => wr
    have hin : i < n := by omega
    have c0 := (HBr.out.cell (World.block_lt_of_cell? w _ (HC.out i hin))).trans (HC.out i hin)
    by_cases he : i = k
    · subst he
      rw [H1.out] at c0
      go_wp2_with fail
      go_ret
      exact ⟨rfl, HBr.out⟩
    · have hne : z i ≠ x := H2.out i (by omega)
      have hb : (x == z i) = false := beq_eq_false_iff_ne.2 (fun e => hne e.symm)
      generalize z i = y at *
      go_wp2_with fail
      go_roundw
      case rel => exact ⟨i + 1, by go_num, by omega, HBr⟩
      case measure => simp [intOf]; omega
end Go.Proofs.YtppkgilpmmhpoaaDoor
