/-
  Words for the walks over chapter 6: the region in which a statement moves a cell on, operation by operation.
-/
import Derived.Test.YtjonbhimbhidpaaDoorBaseN
import Derived.Test.YtjonbhimbhidpaaDoorWalkAB
namespace Go.Proofs.YtjonbhimbhidpaaDoor
open Go.RowKit
section
variable {md : Region.Mode} {ops : Array Oper} {Q : Exit → Act → World → Prop} {S : World → Prop} {fuel : Nat} {listed : Array Bool} {a : Act} {w : World} {i : Nat} {o : Oper} {rs : List Nat}
theorem node_load28 (d k X : Nat) (x y z : Value) (hi : ops[i]? = some o) (hgd : o.guard = none) (ho : o.op = .load 28 (.tmp k)) (hd : o.dst = some d)
    (hp : a.tmps[k]?.getD undef = .pointer (some ⟨X, 0, none⟩)) (hh : w.heap[X]? = some (.cells #[x, y, z] 28)) (hS : S w)
    (h : wpAnyH Tryd.prog md ops Q S fuel (listed.setIfInBounds i true) (a.put (some d) (.agg #[x, y, z])) w)
    (hs : AllReadyH Tryd.prog md ops Q S fuel listed a w rs) : AllReadyH Tryd.prog md ops Q S fuel listed a w (i :: rs) := by
  refine AllReadyH.cons hi (fun K hK => ?_) hs
  have hw : Region.wanted o (yielded ops a.tmps) = true := by simp [Region.wanted, hgd]
  rw [if_pos hw]
  obtain ⟨k0, k1, k2⟩ := cells3_of hh
  have hk := hK.out _ _ hS (fun _ => h)
  unfold Oper.wp execOp
  simp [ho, go_sem, hp, k0, k1, k2]
  rw [hd]
  exact hk
theorem node_store28 (k j X : Nat) (x y z : Value) (x' y' z' : Int) (hi : ops[i]? = some o) (hgd : o.guard = none) (ho : o.op = .store 28 (.tmp k) (.tmp j)) (hd : o.dst = none)
    (hp : a.tmps[k]?.getD undef = .pointer (some ⟨X, 0, none⟩)) (hv : a.tmps[j]?.getD undef = .agg #[.int .i64 x', .int .i64 y', .int .i64 z'])
    (hh : w.heap[X]? = some (.cells #[x, y, z] 28)) (hS : S (((w.setCell ⟨X, 0, none⟩ (.int .i64 x')).setCell ⟨X, 1, none⟩ (.int .i64 y')).setCell ⟨X, 2, none⟩ (.int .i64 z')))
    (h : wpAnyH Tryd.prog md ops Q S fuel (listed.setIfInBounds i true) a (((w.setCell ⟨X, 0, none⟩ (.int .i64 x')).setCell ⟨X, 1, none⟩ (.int .i64 y')).setCell ⟨X, 2, none⟩ (.int .i64 z')))
    (hs : AllReadyH Tryd.prog md ops Q S fuel listed a w rs) : AllReadyH Tryd.prog md ops Q S fuel listed a w (i :: rs) := by
  refine AllReadyH.cons hi (fun K hK => ?_) hs
  have hw : Region.wanted o (yielded ops a.tmps) = true := by simp [Region.wanted, hgd]
  rw [if_pos hw]
  obtain ⟨k0, k1, k2⟩ := cells3_of hh
  obtain ⟨f0, f1, f2⟩ := free3_of hh
  have hk := hK.out _ _ hS (fun _ => h)
  unfold Oper.wp execOp
  simp [ho, go_sem, hp, hv, k0, k1, k2, f0, f1, f2]
  rw [hd]
  exact hk
theorem node_call30 (d k1 k2 k3 k4 : Nat) (v1 v2 v3 v4 : Value) (hi : ops[i]? = some o) (hgd : o.guard = none) (ho : o.op = .call { callee := .value (.func 30), args := #[.tmp k1, .tmp k2, .tmp k3, .tmp k4], argTypes := #[26, 28, 53, 55] }) (hd : o.dst = some d)
    (hp1 : a.tmps[k1]?.getD undef = v1) (hp2 : a.tmps[k2]?.getD undef = v2) (hp3 : a.tmps[k3]?.getD undef = v3) (hp4 : a.tmps[k4]?.getD undef = v4)
    (h : Calls Tryd.prog 30 #[v1, v2, v3, v4] w fun e w' => ∃ u, e = .returned u ∧ S w' ∧ wpAnyH Tryd.prog md ops Q S fuel (listed.setIfInBounds i true) (a.put (some d) u) w')
    (hs : AllReadyH Tryd.prog md ops Q S fuel listed a w rs) : AllReadyH Tryd.prog md ops Q S fuel listed a w (i :: rs) := by
  refine AllReadyH.cons hi (fun K hK => ?_) hs
  have hw : Region.wanted o (yielded ops a.tmps) = true := by simp [Region.wanted, hgd]
  rw [if_pos hw]
  unfold Oper.wp execOp
  simp [ho, go_sem, hp1, hp2, hp3, hp4]
  refine h.mono ?_
  rintro e w' ⟨u, rfl, h1, h2⟩
  have hk := hK.out _ _ h1 (fun _ => h2)
  rw [hd]
  exact hk
end
/-- a row of numbers that came in, as an argument -/
theorem argInts_row {w : World} {x : Addr} {len cap : Nat} {zs : List Int} (hl : len ≤ cap) (hm : cap ≤ maxLen) (hz : zs.length = cap) (hc : ∀ i, i < zs.length → w.cell? (x.add i) = some (.int .i64 (zs.getD i 0))) : ∃ xs, ArgInts w (.slice (some x) len cap) xs := by
  have e : (zs.take len).length = len := by rw [List.length_take]; omega
  refine ⟨zs.take len, some x, cap, by rw [e], by rw [e]; exact hl, hm, .inr ⟨x, rfl, fun h0 => ?_, fun j u hj => ?_⟩⟩
  · have := World.block_lt_of_cell? w _ (hc 0 (by rw [e] at h0; omega))
    rwa [add_block] at this
  · unfold ints at hj
    rw [List.getElem?_map, List.getElem?_take] at hj
    split at hj
    · have hjz : j < zs.length := by omega
      rw [List.getElem?_eq_getElem hjz] at hj
      rw [hc j hjz, List.getD_eq_getElem?_getD, List.getElem?_eq_getElem hjz]
      exact hj
    · cases hj
theorem row_far {w w' : World} {B n size x : Nat} {e : TypeId} {v : Value} {xs : List Value} (h : w.ownsRow B e size v n xs) (hg : w.grownBy w' (some x)) (hx : x < B) : w'.ownsRow B e size v n xs := by
  have hlt := h.lt
  refine World.ownsRow.kept h hg ?_
  cases hk : v.ownBlock with
  | none => exact .inl rfl
  | some k =>
    refine .inr fun e2 => ?_
    have := (hlt k hk).1
    cases e2
    omega
theorem ownG_far {w w' : World} {B x : Nat} {v : Value} {g : Grid} (h : OwnG w B v g) (hg : w.grownBy w' (some x)) (hx : x < B) : OwnG w' B v g := by
  obtain ⟨us, h1, h2, h3⟩ := h
  exact ⟨us, row_far h1 hg hx, h2, fun i hi => row_far (h3 i hi) hg hx⟩
theorem OwnOv.far {w w' : World} {B x : Nat} {v vm vj : Value} {o : Ov} (h : OwnOv w B v vm vj o) (hg : w.grownBy w' (some x)) (hx : x < B) : OwnOv w' B v vm vj o :=
  ⟨ownG_far h.g hg hx, row_far h.mv hg hx, row_far h.jl hg hx⟩
end Go.Proofs.YtjonbhimbhidpaaDoor
