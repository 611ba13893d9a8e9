/-
  Words for the walks over chapter 6: the region in which a cell moves on, operation by operation.
-/
import Derived.Test.YtjonbhimbhidpaaDoorBaseL
namespace Go.Proofs.YtjonbhimbhidpaaDoor
open Go.RowKit
section
variable {md : Region.Mode} {ops : Array Oper} {Q : Exit → Act → World → Prop} {S : World → Prop} {fuel : Nat} {listed : Array Bool} {a : Act} {w : World} {i : Nat} {o : Oper} {rs : List Nat}
theorem node_load87 (d k X : Nat) (x y z : Value) (hi : ops[i]? = some o) (hgd : o.guard = none) (ho : o.op = .load 87 (.tmp k)) (hd : o.dst = some d)
    (hp : a.tmps[k]?.getD undef = .pointer (some ⟨X, 0, none⟩)) (hh : w.heap[X]? = some (.cells #[x, y, z] 87)) (hS : S w)
    (h : wpAnyH Tryd.prog md ops Q S fuel (listed.setIfInBounds i true) (a.put (some d) (.agg #[x, y, z])) w)
    (hs : AllReadyH Tryd.prog md ops Q S fuel listed a w rs) : AllReadyH Tryd.prog md ops Q S fuel listed a w (i :: rs) := by
  refine AllReadyH.cons hi (fun K hK => ?_) hs
  have hw : Region.wanted o (yielded ops a.tmps) = true := by simp [Region.wanted, hgd]
  rw [if_pos hw]
  obtain ⟨k0, k1, k2⟩ := cells3_of hh
  have hk := hK.out _ _ hS (fun _ => h)
  unfold Oper.wp execOp
  simp [ho, go_sem, hp, k0, k1, k2]
  rw [hd]
  exact hk
theorem node_store87 (k j X : Nat) (x y z : Value) (x' y' z' : Int) (hi : ops[i]? = some o) (hgd : o.guard = none) (ho : o.op = .store 87 (.tmp k) (.tmp j)) (hd : o.dst = none)
    (hp : a.tmps[k]?.getD undef = .pointer (some ⟨X, 0, none⟩)) (hv : a.tmps[j]?.getD undef = .agg #[.int .i64 x', .int .i64 y', .int .i64 z'])
    (hh : w.heap[X]? = some (.cells #[x, y, z] 87)) (hS : S (((w.setCell ⟨X, 0, none⟩ (.int .i64 x')).setCell ⟨X, 1, none⟩ (.int .i64 y')).setCell ⟨X, 2, none⟩ (.int .i64 z')))
    (h : wpAnyH Tryd.prog md ops Q S fuel (listed.setIfInBounds i true) a (((w.setCell ⟨X, 0, none⟩ (.int .i64 x')).setCell ⟨X, 1, none⟩ (.int .i64 y')).setCell ⟨X, 2, none⟩ (.int .i64 z')))
    (hs : AllReadyH Tryd.prog md ops Q S fuel listed a w rs) : AllReadyH Tryd.prog md ops Q S fuel listed a w (i :: rs) := by
  refine AllReadyH.cons hi (fun K hK => ?_) hs
  have hw : Region.wanted o (yielded ops a.tmps) = true := by simp [Region.wanted, hgd]
  rw [if_pos hw]
  obtain ⟨k0, k1, k2⟩ := cells3_of hh
  obtain ⟨f0, f1, f2⟩ := free3_of hh
  have hk := hK.out _ _ hS (fun _ => h)
  unfold Oper.wp execOp
  simp [ho, go_sem, hp, hv, k0, k1, k2, f0, f1, f2]
  rw [hd]
  exact hk
theorem node_call46 (d k1 k2 k3 : Nat) (v1 v2 v3 : Value) (hi : ops[i]? = some o) (hgd : o.guard = none) (ho : o.op = .call { callee := .value (.func 46), args := #[.tmp k1, .tmp k2, .tmp k3], argTypes := #[85, 87, 95] }) (hd : o.dst = some d)
    (hp1 : a.tmps[k1]?.getD undef = v1) (hp2 : a.tmps[k2]?.getD undef = v2) (hp3 : a.tmps[k3]?.getD undef = v3)
    (h : Calls Tryd.prog 46 #[v1, v2, v3] w fun e w' => ∃ u, e = .returned u ∧ S w' ∧ wpAnyH Tryd.prog md ops Q S fuel (listed.setIfInBounds i true) (a.put (some d) u) w')
    (hs : AllReadyH Tryd.prog md ops Q S fuel listed a w rs) : AllReadyH Tryd.prog md ops Q S fuel listed a w (i :: rs) := by
  refine AllReadyH.cons hi (fun K hK => ?_) hs
  have hw : Region.wanted o (yielded ops a.tmps) = true := by simp [Region.wanted, hgd]
  rw [if_pos hw]
  unfold Oper.wp execOp
  simp [ho, go_sem, hp1, hp2, hp3]
  refine h.mono ?_
  rintro e w' ⟨u, rfl, h1, h2⟩
  have hk := hK.out _ _ h1 (fun _ => h2)
  rw [hd]
  exact hk
theorem node_call58 (d k1 k2 k3 k4 : Nat) (v1 v2 v3 v4 : Value) (hi : ops[i]? = some o) (hgd : o.guard = none) (ho : o.op = .call { callee := .value (.func 58), args := #[.tmp k1, .tmp k2, .tmp k3, .tmp k4], argTypes := #[85, 87, 3, 3] }) (hd : o.dst = some d)
    (hp1 : a.tmps[k1]?.getD undef = v1) (hp2 : a.tmps[k2]?.getD undef = v2) (hp3 : a.tmps[k3]?.getD undef = v3) (hp4 : a.tmps[k4]?.getD undef = v4)
    (h : Calls Tryd.prog 58 #[v1, v2, v3, v4] w fun e w' => ∃ u, e = .returned u ∧ S w' ∧ wpAnyH Tryd.prog md ops Q S fuel (listed.setIfInBounds i true) (a.put (some d) u) w')
    (hs : AllReadyH Tryd.prog md ops Q S fuel listed a w rs) : AllReadyH Tryd.prog md ops Q S fuel listed a w (i :: rs) := by
  refine AllReadyH.cons hi (fun K hK => ?_) hs
  have hw : Region.wanted o (yielded ops a.tmps) = true := by simp [Region.wanted, hgd]
  rw [if_pos hw]
  unfold Oper.wp execOp
  simp [ho, go_sem, hp1, hp2, hp3, hp4]
  refine h.mono ?_
  rintro e w' ⟨u, rfl, h1, h2⟩
  have hk := hK.out _ _ h1 (fun _ => h2)
  rw [hd]
  exact hk
end
theorem below_grown {w w' : World} (h : Below w.heap.size w w') : w.grownBy w' none := ⟨h.os, h.tape, h.output, h.size, fun k hk _ => h.block k hk⟩
theorem grown_below {a b c : World} {row : Option Nat} (h : a.grownBy b row) (k : Below a.heap.size b c) : a.grownBy c row :=
  ⟨k.os.trans h.os, k.tape.trans h.tape, k.output.trans h.output, Nat.le_trans h.size k.size, fun j hj hn => (k.block j hj).trans (h.block j hj hn)⟩
theorem grown_store3 {a b : World} {x : Nat} (h : a.grownBy b (some x)) (u v z : Value) : a.grownBy (((b.setCell ⟨x, 0, none⟩ u).setCell ⟨x, 1, none⟩ v).setCell ⟨x, 2, none⟩ z) (some x) :=
  ((h.trans (grown_set _ ⟨x, 0, none⟩ u)).trans (grown_set _ ⟨x, 1, none⟩ v)).trans (grown_set _ ⟨x, 2, none⟩ z)
theorem ovAt_far {a b : World} {x xb : Nat} {vs vm vj : Value} {o : Ov} (h : a.grownBy b (some x)) (ho : OvAt a xb vs vm vj o) (hne : xb ≠ x) (hov : IsOv b vs vm vj o) : OvAt b xb vs vm vj o := by
  have hlt := ovAt_lt ho
  have e := h.block xb hlt (fun e => hne (Option.some.inj e))
  exact ⟨hov, (cell_of_heap e 0).trans ho.c0, (cell_of_heap e 1).trans ho.c1, (cell_of_heap e 2).trans ho.c2, (cell_of_heap e 3).trans ho.c3, (cell_of_heap e 4).trans ho.c4⟩
end Go.Proofs.YtjonbhimbhidpaaDoor
