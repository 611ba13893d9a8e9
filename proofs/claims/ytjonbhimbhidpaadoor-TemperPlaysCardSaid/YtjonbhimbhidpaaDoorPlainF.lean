/-
  Plain facts of chapter 6: how many cells a set has.
-/
import Derived.Test.YtjonbhimbhidpaaDoorWalkY
namespace Go.Proofs.YtjonbhimbhidpaaDoor
theorem countP_mul (a b : Nat) (q : Nat → Bool) : (List.range (a * b)).countP q = ((List.range a).map fun i => (List.range b).countP fun j => q (i * b + j)).sum := by
  induction a with
  | zero => simp
  | succ a ih =>
    rw [Nat.succ_mul, List.range_add, List.countP_append, ih, List.range_succ, List.map_append, List.sum_append, List.countP_map]
    simp [Function.comp_def]
theorem letterB_46 (b : Bool) : (letterB b == 46) = b := by cases b <;> rfl
theorem cntG_gridOf (o : Ov) (S : Sp → Bool) : cntG (o.gridOf S) = (o.cells.filter S).length := by
  rw [← List.countP_eq_length_filter]
  unfold Ov.cells Ov.N
  rw [List.countP_map, countP_mul]
  unfold cntG Ov.gridOf
  rw [List.map_map]
  refine congrArg List.sum (List.map_congr_left fun p hp => ?_)
  rw [List.mem_range] at hp
  rw [countP_mul]
  show cntP (o.phG S p) = _
  unfold cntP Ov.phG
  rw [List.map_map]
  refine congrArg List.sum (List.map_congr_left fun y hy => ?_)
  rw [List.mem_range] at hy
  show cntS (o.rowG S p y) = _
  unfold cntS Ov.rowG
  rw [List.countP_map]
  refine List.countP_congr fun x hx => ?_
  rw [List.mem_range] at hx
  have e : p * (o.R * o.C) + (y * o.C + x) = o.at' p x y := by
    unfold Ov.at'
    rw [Nat.add_mul, Nat.mul_assoc, Nat.add_assoc]
  simp only [Function.comp]
  rw [e, cellAt_at o p x y hx hy, letterB_46]
theorem cntG_form (o : Ov) (g : Grid) (h : formB o.P o.R o.C g = true) : cntG g = (o.cells.filter (inG g)).length := by
  have := cntG_gridOf o (inG g)
  rwa [grid_eq o g h] at this
theorem short_form {P R C : Nat} {g : Grid} (h : formB P R C g = true) (hC : C ≤ 16) : ShortG g := by
  intro p hp s hs
  unfold formB at h
  simp only [Bool.and_eq_true, decide_eq_true_eq, List.all_eq_true] at h
  have h2 := h.2 p hp
  unfold phaseOk rowsOk at h2
  simp only [Bool.and_eq_true, decide_eq_true_eq, List.all_eq_true] at h2
  have h3 := h2.2 s hs
  unfold rowOk at h3
  simp only [Bool.and_eq_true, decide_eq_true_eq] at h3
  omega
end Go.Proofs.YtjonbhimbhidpaaDoor
