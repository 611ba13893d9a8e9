/-
  Nodes of the regions of the gears.
-/
import Derived.Test.YtlhmidecjiihcaaDoorGearB
namespace Go.Proofs.YtlhmidecjiihcaaDoor
open Go.RowKit
section
variable {md : Region.Mode} {ops : Array Oper} {Q : Exit → Act → World → Prop} {S : World → Prop} {fuel : Nat} {listed : Array Bool} {a : Act} {w : World} {i : Nat} {o : Oper} {rs : List Nat}
theorem node_make46 (d k n : Nat) (cs : Array Value) (hi : ops[i]? = some o) (hgd : o.guard = none) (ho : o.op = .makeSlice 46 (.tmp k) (.tmp k)) (hd : o.dst = some d)
    (hp : a.tmps[k]?.getD undef = .int .i64 (n : Int)) (hmk : ∀ w, (Instr.makeSlice 46 (.int .i64 (n : Int)) (.int .i64 (n : Int))).run Tryd.prog w = .ok (.slice (some ⟨w.heap.size, 0, none⟩) n n) (w.alloc (.cells cs 54)))
    (hS : S (w.alloc (.cells cs 54)))
    (h : S (w.alloc (.cells cs 54)) → wpAnyH Tryd.prog md ops Q S fuel (listed.setIfInBounds i true) (a.put (some d) (.slice (some ⟨w.heap.size, 0, none⟩) n n)) (w.alloc (.cells cs 54)))
    (hs : AllReadyH Tryd.prog md ops Q S fuel listed a w rs) : AllReadyH Tryd.prog md ops Q S fuel listed a w (i :: rs) := by
  refine AllReadyH.cons hi (fun K hK => ?_) hs
  have hw : Region.wanted o (yielded ops a.tmps) = true := by simp [Region.wanted, hgd]
  rw [if_pos hw]
  have hk := hK.out _ _ hS h
  unfold Oper.wp execOp
  simp [ho, go_sem, hp, hmk]
  rw [hd]
  exact hk
theorem node_bs30 (d : Nat) (hi : ops[i]? = some o) (hgd : o.guard = none) (ho : o.op = .buildSlice 30 1 #[(0, .const (.int .i64 (-1)))]) (hd : o.dst = some d)
    (hS : S (w.alloc (.cells #[.int .i64 (-1)] 3)))
    (h : S (w.alloc (.cells #[.int .i64 (-1)] 3)) → wpAnyH Tryd.prog md ops Q S fuel (listed.setIfInBounds i true) (a.put (some d) (.slice (some ⟨w.heap.size, 0, none⟩) 1 1)) (w.alloc (.cells #[.int .i64 (-1)] 3)))
    (hs : AllReadyH Tryd.prog md ops Q S fuel listed a w rs) : AllReadyH Tryd.prog md ops Q S fuel listed a w (i :: rs) := by
  refine AllReadyH.cons hi (fun K hK => ?_) hs
  have hw : Region.wanted o (yielded ops a.tmps) = true := by simp [Region.wanted, hgd]
  rw [if_pos hw]
  have hk := hK.out _ _ hS h
  unfold Oper.wp execOp
  simp [ho, go_sem]
  rw [hd]
  exact hk
theorem node_f41 (d : Nat) (k1 k2 : Nat) (v1 v2 : Value) (hi : ops[i]? = some o) (hgd : Region.wanted o (yielded ops a.tmps) = true) (ho : o.op = .call { callee := .value (.func 41), args := #[.tmp k1, .tmp k2], argTypes := #[30, 3] }) (hd : o.dst = some d)
    (hp1 : a.tmps[k1]?.getD undef = v1)
    (hp2 : a.tmps[k2]?.getD undef = v2)
    (h : Calls Tryd.prog 41 #[v1, v2] w fun e w' => ∃ u, e = .returned u ∧ S w' ∧ wpAnyH Tryd.prog md ops Q S fuel (listed.setIfInBounds i true) (a.put (some d) u) w')
    (hs : AllReadyH Tryd.prog md ops Q S fuel listed a w rs) : AllReadyH Tryd.prog md ops Q S fuel listed a w (i :: rs) := by
  refine AllReadyH.cons hi (fun K hK => ?_) hs
  rw [if_pos hgd]
  unfold Oper.wp execOp
  simp [ho, go_sem, hp1, hp2]
  refine h.mono ?_
  rintro e w' ⟨u, rfl, h1, h2⟩
  have hk := hK.out _ _ h1 (fun _ => h2)
  rw [hd]
  exact hk
theorem node_f40 (d : Nat) (k1 : Nat) (v1 : Value) (hi : ops[i]? = some o) (hgd : Region.wanted o (yielded ops a.tmps) = true) (ho : o.op = .call { callee := .value (.func 40), args := #[.tmp k1], argTypes := #[39] }) (hd : o.dst = some d)
    (hp1 : a.tmps[k1]?.getD undef = v1)
    (h : Calls Tryd.prog 40 #[v1] w fun e w' => ∃ u, e = .returned u ∧ S w' ∧ wpAnyH Tryd.prog md ops Q S fuel (listed.setIfInBounds i true) (a.put (some d) u) w')
    (hs : AllReadyH Tryd.prog md ops Q S fuel listed a w rs) : AllReadyH Tryd.prog md ops Q S fuel listed a w (i :: rs) := by
  refine AllReadyH.cons hi (fun K hK => ?_) hs
  rw [if_pos hgd]
  unfold Oper.wp execOp
  simp [ho, go_sem, hp1]
  refine h.mono ?_
  rintro e w' ⟨u, rfl, h1, h2⟩
  have hk := hK.out _ _ h1 (fun _ => h2)
  rw [hd]
  exact hk
theorem node_f39 (d : Nat) (k1 k2 : Nat) (v1 v2 : Value) (hi : ops[i]? = some o) (hgd : Region.wanted o (yielded ops a.tmps) = true) (ho : o.op = .call { callee := .value (.func 39), args := #[.tmp k1, .tmp k2], argTypes := #[54, 54] }) (hd : o.dst = some d)
    (hp1 : a.tmps[k1]?.getD undef = v1)
    (hp2 : a.tmps[k2]?.getD undef = v2)
    (h : Calls Tryd.prog 39 #[v1, v2] w fun e w' => ∃ u, e = .returned u ∧ S w' ∧ wpAnyH Tryd.prog md ops Q S fuel (listed.setIfInBounds i true) (a.put (some d) u) w')
    (hs : AllReadyH Tryd.prog md ops Q S fuel listed a w rs) : AllReadyH Tryd.prog md ops Q S fuel listed a w (i :: rs) := by
  refine AllReadyH.cons hi (fun K hK => ?_) hs
  rw [if_pos hgd]
  unfold Oper.wp execOp
  simp [ho, go_sem, hp1, hp2]
  refine h.mono ?_
  rintro e w' ⟨u, rfl, h1, h2⟩
  have hk := hK.out _ _ h1 (fun _ => h2)
  rw [hd]
  exact hk
theorem node_store3 (k j g off : Nat) (x : Value) (z : Int) (hi : ops[i]? = some o) (hgd : o.guard = none) (ho : o.op = .store 3 (.tmp k) (.tmp j)) (hd : o.dst = none)
    (hp : a.tmps[k]?.getD undef = .pointer (some ⟨g, off, none⟩)) (hv : a.tmps[j]?.getD undef = .int .i64 z)
    (hc : w.cell? ⟨g, off, none⟩ = some x) (hf : w.frozen? ⟨g, off, none⟩ = false) (hS : S (w.setCell ⟨g, off, none⟩ (.int .i64 z)))
    (h : wpAnyH Tryd.prog md ops Q S fuel (listed.setIfInBounds i true) a (w.setCell ⟨g, off, none⟩ (.int .i64 z)))
    (hs : AllReadyH Tryd.prog md ops Q S fuel listed a w rs) : AllReadyH Tryd.prog md ops Q S fuel listed a w (i :: rs) := by
  refine AllReadyH.cons hi (fun K hK => ?_) hs
  have hw : Region.wanted o (yielded ops a.tmps) = true := by simp [Region.wanted, hgd]
  rw [if_pos hw]
  have hk := hK.out _ _ hS (fun _ => h)
  unfold Oper.wp execOp
  simp [ho, go_sem, hp, hv, hc, hf]
  rw [hd]
  exact hk
theorem node_storeAt (k j G off : Nat) (x0 x1 x2 x3 : Value) (b e : Bool) (p q : Option Addr) (n c m d : Nat) (hi : ops[i]? = some o) (hgd : o.guard = none) (ho : o.op = .store 54 (.tmp k) (.tmp j)) (hd : o.dst = none)
    (hp : a.tmps[k]?.getD undef = .pointer (some ⟨G, off, none⟩)) (hv : a.tmps[j]?.getD undef = .agg #[.bool b, .slice p n c, .bool e, .slice q m d])
    (hc0 : w.cell? ⟨G, off, none⟩ = some x0) (hc1 : w.cell? ⟨G, off + 1, none⟩ = some x1) (hc2 : w.cell? ⟨G, off + 2, none⟩ = some x2) (hc3 : w.cell? ⟨G, off + 3, none⟩ = some x3) (hf : ∀ i, w.frozen? ⟨G, i, none⟩ = false) (hS : S (putAt w G off b p n c e q m d))
    (h : wpAnyH Tryd.prog md ops Q S fuel (listed.setIfInBounds i true) a (putAt w G off b p n c e q m d))
    (hs : AllReadyH Tryd.prog md ops Q S fuel listed a w rs) : AllReadyH Tryd.prog md ops Q S fuel listed a w (i :: rs) := by
  refine AllReadyH.cons hi (fun K hK => ?_) hs
  have hw : Region.wanted o (yielded ops a.tmps) = true := by simp [Region.wanted, hgd]
  rw [if_pos hw]
  have hk := hK.out _ _ hS (fun _ => h)
  have hf0 := hf off
  have hf1 := hf (off + 1)
  have hf2 := hf (off + 2)
  have hf3 := hf (off + 3)
  unfold Oper.wp execOp
  simp [ho, go_sem, hp, hv, hc0, hf0, hc1, hf1, hc2, hf2, hc3, hf3]
  rw [hd]
  exact hk
end
end Go.Proofs.YtlhmidecjiihcaaDoor
