/-
  Walks over chapter 6: the program returns the results of the document's examples.
-/
import Derived.Test.YtjonbhimbhidpaaDoorWalkU
namespace Go.Proofs.YtjonbhimbhidpaaDoor
open Go.RowKit

def ovA : Ov := rowOv [46, 46, 46] [(1, 0), (-1, 0)]
def ovB : Ov := rowOv [46, 46, 46] [(0, 0)]
theorem numA : ovA.Num := by
  refine ⟨?_, ?_, ?_⟩
  · intro m hm
    simp [ovA, rowOv] at hm
    rcases hm with rfl | rfl <;> (unfold I64; simp)
  · intro m hm
    simp [ovA, rowOv] at hm
    rcases hm with rfl | rfl <;> (unfold I64; simp)
  · intro q hq s hs
    simp [ovA, rowOv] at hq
    subst hq
    simp at hs
    subst hs
    simp
theorem numB : ovB.Num := by
  refine ⟨?_, ?_, ?_⟩
  · intro m hm
    simp [ovB, rowOv] at hm
    rcases hm with rfl | rfl <;> (unfold I64; simp)
  · intro m hm
    simp [ovB, rowOv] at hm
    subst hm; (unfold I64; simp)
  · intro q hq s hs
    simp [ovB, rowOv] at hq
    subst hq
    simp at hs
    subst hs
    simp
theorem validA : ovA.valid = true := by decide +kernel
theorem gridA : ovA.gridOf ovA.KK = [[[46, 35, 46]]] := by decide +kernel
theorem lostA : lostV ovA (0, 1, 0) = .tuple #[.int .i64 1, .int .i64 0] := by
  have h1 : (ovA.valid && ovA.ex (0, 1, 0)) = true := by decide +kernel
  have h2 : ovA.LL (0, 1, 0) = some 1 := by decide +kernel
  unfold lostV
  rw [if_pos h1, h2]; rfl
theorem chooseB : chooseV ovB (0, 2, 0) = .tuple #[.int .i64 1, .int .i64 0] := by
  have h1 : (ovB.valid && ovB.ex (0, 2, 0)) = true := by decide +kernel
  have h2 : ovB.KK (0, 2, 0) = true := by decide +kernel
  have h3 : ovB.move ovB.KK (0, 2, 0) = 1 := by decide +kernel
  unfold chooseV
  rw [if_pos h1, if_pos h2, h3]
theorem kernelA (vs vm vj : Value) (w : World) (ho : IsOv w vs vm vj ovA) : Calls Tryd.prog 25 #[.agg #[vs, vm, vj]] w fun e w' => ∃ v, e = .returned (.tuple #[v, .int .i64 0]) ∧ IsGrid w' v [[[46, 35, 46]]] ∧ Below w.heap.size w w' := by
  refine (kernelP_any vs vm vj ovA w ho numA).mono ?_
  rintro e w' ⟨hb, h⟩
  rw [if_pos validA, gridA] at h
  obtain ⟨v, h1, h2⟩ := h
  exact ⟨v, h1, ownG_isGrid h2 (by simp) (by simp), hb⟩

theorem lostA_any (vs vm vj : Value) (w : World) (ho : IsOv w vs vm vj ovA) : Calls Tryd.prog 16 #[.agg #[vs, vm, vj], .agg #[.int .i64 0, .int .i64 1, .int .i64 0]] w fun e w' => e = .returned (.tuple #[.int .i64 1, .int .i64 0]) ∧ Below w.heap.size w w' := by
  have h := lost_any vs vm vj ovA (0, 1, 0) w ho numA
  rw [lostA] at h
  exact h
theorem chooseB_any (vs vm vj : Value) (w : World) (ho : IsOv w vs vm vj ovB) : Calls Tryd.prog 15 #[.agg #[vs, vm, vj], .agg #[.int .i64 0, .int .i64 2, .int .i64 0]] w fun e w' => e = .returned (.tuple #[.int .i64 1, .int .i64 0]) ∧ Below w.heap.size w w' := by
  have h := choose_any vs vm vj ovB (0, 2, 0) w ho numB
  rw [chooseB] at h
  exact h
theorem below_then {w a b : World} (h : Below w.heap.size w a) (k : Below a.heap.size a b) : Below w.heap.size w b := h.trans (k.mono h.size)
theorem row_any' (s : Str) (aj : Option Addr) (nj cj : Nat) (js : List (Int × Int)) (w : World) (hj : IsJl w (.slice aj nj cj) js) :
    Calls Tryd.prog 49 #[.string (strB s), .slice aj nj cj] w fun e w' => ∃ a1 c1 a2 c2, e = .returned (.agg #[.slice a1 1 c1, .slice a2 2 c2, .slice aj nj cj]) ∧ IsOv w' (.slice a1 1 c1) (.slice a2 2 c2) (.slice aj nj cj) (rowOv s js) ∧ Below w.heap.size w w' := by
  refine (row_any s aj nj cj js w hj).mono ?_
  rintro e w' ⟨vs, vm, rfl, ho, hb⟩
  obtain ⟨a1, c1, e1, _⟩ := ho.safe
  obtain ⟨a2, c2, e2, _⟩ := ho.moves
  subst e1 e2
  exact ⟨a1, c1, a2, c2, rfl, ho, hb⟩

set_option maxHeartbeats 4000000 in
set_option maxRecDepth 100000 in
theorem lives_any (w : World) : Calls Tryd.prog 19 #[] w fun e w' => e = .returned (.bool true) ∧ Below w.heap.size w w' := by
  have hj1 : Hid (IsJl (w.alloc (.cells #[.int .i64 1, .int .i64 0, .int .i64 (-1), .int .i64 0] 55)) (.slice (some ⟨w.heap.size, 0, none⟩) 2 2) [(1, 0), (-1, 0)]) := jl_lit2 (heap_alloc_new w _)
  have HB0 : Hid (Below w.heap.size w (w.alloc (.cells #[.int .i64 1, .int .i64 0, .int .i64 (-1), .int .i64 0] 55))) := (Below.refl _ _).alloc (Nat.le_refl _) _
  go_enter Tryd.func19, Tryd.ntmps19
  go_wp2_with (first
    | (go_at_call 49; first
      | (refine (row_any' [46, 46, 46] _ 1 1 [(0, 0)] _ hj5.out).mono ?_; rintro e w6 ⟨a3, c3, a4, c4, rfl, ho6, hb6⟩; have HO6 : Hid (IsOv w6 (.slice a3 1 c3) (.slice a4 2 c4) (.slice (some ⟨w5.heap.size, 0, none⟩) 1 1) ovB) := ho6; have HG6 := hid (isGrid_below HG5.out (((Below.refl _ _).alloc (Nat.le_refl _) _).trans (hb6.mono (by simp)))); have HB6 := hid hb6; clear ho6 hb6)
      | (refine (row_any' [46, 46, 46] _ 2 2 [(1, 0), (-1, 0)] _ hj1.out).mono ?_; rintro e w3 ⟨a1, c1, a2, c2, rfl, ho3, hb3⟩; have HO3 : Hid (IsOv (w3.alloc (.cells #[.slice a1 1 c1, .slice a2 2 c2, .slice (some ⟨w.heap.size, 0, none⟩) 2 2] 26)) (.slice a1 1 c1) (.slice a2 2 c2) (.slice (some ⟨w.heap.size, 0, none⟩) 2 2) ovA) := isOv_below ho3 ((Below.refl _ _).alloc (Nat.le_refl _) _); have HB3 := hid (HB0.out.trans (hb3.mono HB0.out.size)); clear ho3 hb3))
    | (go_at_call 25; refine (kernelA _ _ _ _ HO3.out).mono ?_; rintro e w4 ⟨vk, rfl, hg4, hb4⟩; have HG4 := hid hg4; have HO4 := hid (isOv_below HO3.out hb4); obtain ⟨z0, z1, z2⟩ := cells3_of ((hb4.block w3.heap.size (by simp)).trans (heap_alloc_new w3 _)); have l4 : w3.heap.size < w4.heap.size := (by have := hb4.size; simp at this; omega); have HB4 := hid hb4; clear hg4 hb4)
    | (go_at_call 16; refine (lostA_any _ _ _ _ HO4.out).mono ?_; rintro e w5 ⟨rfl, hb5⟩; have hj5 : Hid (IsJl (w5.alloc (.cells #[.int .i64 0, .int .i64 0] 55)) (.slice (some ⟨w5.heap.size, 0, none⟩) 1 1) [(0, 0)]) := jl_lit1 (heap_alloc_new w5 _); have HG5 := hid (isGrid_below HG4.out hb5); have HB5 := hid hb5; clear hb5)
    | (go_at_call 15; refine (chooseB_any _ _ _ _ HO6.out).mono ?_; rintro e w7 ⟨rfl, hb7⟩; have HG7 := hid (isGrid_below HG6.out hb7); have HB7 := hid hb7; have hs7 : Hid (IsGrid ((w7.alloc (.cells #[.string (strB [46, 35, 46])] 9)).alloc (.cells #[.slice (some ⟨w7.heap.size, 0, none⟩) 1 1] 71)) (.slice (some ⟨w7.heap.size + 1, 0, none⟩) 1 1) [[[46, 35, 46]]]) := grid_lit (alloc2 w7 _ _).2.2.1 (alloc2 w7 _ _).2.2.2; clear hb7)
    | (go_at_call 31; refine (rSame_any _ _ [[[46, 35, 46]]] [[[46, 35, 46]]] _ (isGrid_below HG7.out (alloc2 w7 _ _).1) hs7.out).mono ?_; rw [decide_eq_true (rfl : ([[[46, 35, 46]]] : Grid) = [[[46, 35, 46]]])]; rintro e w8 ⟨rfl, hb8⟩; have HB8 := hid hb8; clear hb8)
    | fail)
  go_ret
  refine ⟨rfl, ?_⟩
  have b3 := HB3.out
  have b4 := below_then (b3.alloc b3.size _) HB4.out
  have b5 := below_then b4 HB5.out
  have b6 := below_then (b5.alloc b5.size _) HB6.out
  have b7 := below_then b6 HB7.out
  have b8 := b7.alloc b7.size (.cells #[.string (strB [46, 35, 46])] 9)
  exact below_then (b8.alloc b8.size _) HB8.out
end Go.Proofs.YtjonbhimbhidpaaDoor
