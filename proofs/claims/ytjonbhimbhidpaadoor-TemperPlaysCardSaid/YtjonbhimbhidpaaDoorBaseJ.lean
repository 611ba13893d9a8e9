/-
  Words for the walks over chapter 6: the region in which the cut appends a row, operation by operation.
-/
import Derived.Test.YtjonbhimbhidpaaDoorBaseI
namespace Go.Proofs.YtjonbhimbhidpaaDoor
open Go.RowKit
section
variable {md : Region.Mode} {ops : Array Oper} {Q : Exit → Act → World → Prop} {S : World → Prop} {fuel : Nat} {listed : Array Bool} {a : Act} {w : World} {i : Nat} {o : Oper} {rs : List Nat}
theorem node_load22 (d k : Nat) (ad : Addr) (v : Value) (hi : ops[i]? = some o) (hgd : o.guard = none) (ho : o.op = .load 22 (.tmp k)) (hd : o.dst = some d)
    (hp : a.tmps[k]?.getD undef = .pointer (some ad)) (hc : w.cell? ad = some v) (hS : S w)
    (h : wpAnyH Tryd.prog md ops Q S fuel (listed.setIfInBounds i true) (a.put (some d) v) w)
    (hs : AllReadyH Tryd.prog md ops Q S fuel listed a w rs) : AllReadyH Tryd.prog md ops Q S fuel listed a w (i :: rs) := by
  refine AllReadyH.cons hi (fun K hK => ?_) hs
  have hw : Region.wanted o (yielded ops a.tmps) = true := by simp [Region.wanted, hgd]
  rw [if_pos hw]
  have hk := hK.out _ _ hS (fun _ => h)
  unfold Oper.wp execOp
  simp [ho, go_sem, hp, hc]
  rw [hd]
  exact hk
theorem node_build1 (d k : Nat) (b : Option Addr) (n c : Nat) (hi : ops[i]? = some o) (hgd : o.guard = none) (ho : o.op = .buildSlice 22 1 #[(0, .tmp k)]) (hd : o.dst = some d)
    (hp : a.tmps[k]?.getD undef = .slice b n c) (hS : S (w.alloc (.cells #[.slice b n c] 71)))
    (h : S (w.alloc (.cells #[.slice b n c] 71)) → wpAnyH Tryd.prog md ops Q S fuel (listed.setIfInBounds i true) (a.put (some d) (.slice (some ⟨w.heap.size, 0, none⟩) 1 1)) (w.alloc (.cells #[.slice b n c] 71)))
    (hs : AllReadyH Tryd.prog md ops Q S fuel listed a w rs) : AllReadyH Tryd.prog md ops Q S fuel listed a w (i :: rs) := by
  refine AllReadyH.cons hi (fun K hK => ?_) hs
  have hw : Region.wanted o (yielded ops a.tmps) = true := by simp [Region.wanted, hgd]
  rw [if_pos hw]
  have hk := hK.out _ _ hS h
  unfold Oper.wp execOp
  simp [ho, go_sem, hp]
  rw [hd]
  exact hk
theorem node_call43 (d k : Nat) (v : Value) (hi : ops[i]? = some o) (hgd : o.guard = none) (ho : o.op = .call { callee := .value (.func 43), args := #[.tmp k], argTypes := #[71] }) (hd : o.dst = some d)
    (hp : a.tmps[k]?.getD undef = v)
    (h : Calls Tryd.prog 43 #[v] w fun e w' => ∃ u, e = .returned u ∧ S w' ∧ wpAnyH Tryd.prog md ops Q S fuel (listed.setIfInBounds i true) (a.put (some d) u) w')
    (hs : AllReadyH Tryd.prog md ops Q S fuel listed a w rs) : AllReadyH Tryd.prog md ops Q S fuel listed a w (i :: rs) := by
  refine AllReadyH.cons hi (fun K hK => ?_) hs
  have hw : Region.wanted o (yielded ops a.tmps) = true := by simp [Region.wanted, hgd]
  rw [if_pos hw]
  unfold Oper.wp execOp
  simp [ho, go_sem, hp]
  refine h.mono ?_
  rintro e w' ⟨u, rfl, h1, h2⟩
  have hk := hK.out _ _ h1 (fun _ => h2)
  rw [hd]
  exact hk
theorem node_store22 (k j : Nat) (X : Nat) (x y z : Value) (b : Option Addr) (n c : Nat)
    (hi : ops[i]? = some o) (hgd : o.guard = none) (ho : o.op = .store 22 (.tmp k) (.tmp j)) (hd : o.dst = none)
    (hp : a.tmps[k]?.getD undef = .pointer (some ⟨X, 0, none⟩)) (hv : a.tmps[j]?.getD undef = .slice b n c)
    (hh : w.heap[X]? = some (.cells #[x, y, z] 26)) (hS : S (w.setCell ⟨X, 0, none⟩ (.slice b n c)))
    (h : wpAnyH Tryd.prog md ops Q S fuel (listed.setIfInBounds i true) a (w.setCell ⟨X, 0, none⟩ (.slice b n c)))
    (hs : AllReadyH Tryd.prog md ops Q S fuel listed a w rs) : AllReadyH Tryd.prog md ops Q S fuel listed a w (i :: rs) := by
  refine AllReadyH.cons hi (fun K hK => ?_) hs
  have hw : Region.wanted o (yielded ops a.tmps) = true := by simp [Region.wanted, hgd]
  rw [if_pos hw]
  obtain ⟨k0, k1, k2⟩ := cells3_of hh
  obtain ⟨f0, f1, f2⟩ := free3_of hh
  have hk := hK.out _ _ hS (fun _ => h)
  unfold Oper.wp execOp
  simp [ho, go_sem, hp, hv, k0, f0]
  rw [hd]
  exact hk
theorem node_app_row (d : Nat) (s x : Operand) (v : Value) (B : Nat) (g : Grid) (gb : Nat) (u : Value) (z : List Str)
    (hi : ops[i]? = some o) (hgd : o.guard = none) (ho : o.op = .call { callee := .builtin .append, args := #[s, x], argTypes := #[22, 22] }) (hd : o.dst = some d)
    (hs' : a.eval s = v) (hx : a.eval x = .slice (some ⟨gb, 0, none⟩) 1 1) (hz : w.heap[gb]? = some (.cells #[u] 71 (0, 0)))
    (hown : OwnG w B v g) (hu : OwnT w B u z) (hlen : g.length < 1000000) (hB : B ≤ w.heap.size)
    (h : ∀ sa sn sc w', OwnG w' B (.slice sa sn sc) (g ++ [z]) → w.grownBy w' v.ownBlock → S w' ∧ wpAnyH Tryd.prog md ops Q S fuel (listed.setIfInBounds i true) (a.put (some d) (.slice sa sn sc)) w')
    (hs : AllReadyH Tryd.prog md ops Q S fuel listed a w rs) : AllReadyH Tryd.prog md ops Q S fuel listed a w (i :: rs) :=
  AllReadyH.cons hi (fun K hK => step_app_row s x v B g gb u z hgd ho hs' hx hz hown hu hlen hB (fun sa sn sc w' h1 h2 => by
    rw [hd]; exact hK.out _ _ (h sa sn sc w' h1 h2).1 (fun _ => (h sa sn sc w' h1 h2).2))) hs
end
end Go.Proofs.YtjonbhimbhidpaaDoor
