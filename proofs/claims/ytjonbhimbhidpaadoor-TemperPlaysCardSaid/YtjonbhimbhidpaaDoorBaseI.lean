/-
  Words for the walks over chapter 6: the region in which the cut makes its new oven, operation by operation.
-/
import Derived.Test.YtjonbhimbhidpaaDoorBaseH
import Derived.Deep.RegionHeld3
namespace Go.Proofs.YtjonbhimbhidpaaDoor
open Go.RowKit
section
variable {ops : Array Oper} {o : Oper} {a : Act} {K : Act → World → Prop} {Q : Exit → Act → World → Prop} {E : Prop} {W : World}
/-- an empty slice is made, at a step of a region that draws its order -/
theorem step_build0 (t e : TypeId) (sz : Nat) (ht : Tryd.prog.underlying t = some (.slice e)) (hz : ∀ w, (sizeOf e).run Tryd.prog w = .ok sz w)
    (hgd : o.guard = none) (ho : o.op = .buildSlice t 0 #[])
    (h : K (a.put o.dst (.slice (some ⟨W.heap.size, 0, none⟩) 0 0)) (W.alloc (.cells #[] e))) :
    if Region.wanted o (yielded ops a.tmps) = true then Oper.wp Tryd.prog o a W K Q else E := by
  have hw : Region.wanted o (yielded ops a.tmps) = true := by simp [Region.wanted, hgd]
  rw [if_pos hw]
  unfold Oper.wp execOp
  simp [ho, go_sem, run_underlying ht, hz]
  exact h
theorem step_alloc26 (hgd : o.guard = none) (ho : o.op = .alloc 26)
    (h : K (a.put o.dst (.pointer (some ⟨W.heap.size, 0, none⟩))) (W.alloc (.cells #[.slice none 0 0, .slice none 0 0, .slice none 0 0] 26))) :
    if Region.wanted o (yielded ops a.tmps) = true then Oper.wp Tryd.prog o a W K Q else E := by
  have hw : Region.wanted o (yielded ops a.tmps) = true := by simp [Region.wanted, hgd]
  rw [if_pos hw]
  unfold Oper.wp execOp
  simp [ho, go_sem]
  exact h
theorem step_store26 (i j : Nat) (X : Nat) (x y z : Value) (a1 a2 a3 : Option Addr) (n1 n2 n3 c1 c2 c3 : Nat) (hgd : o.guard = none) (ho : o.op = .store 26 (.tmp i) (.tmp j))
    (hp : a.tmps[i]?.getD undef = .pointer (some ⟨X, 0, none⟩)) (hv : a.tmps[j]?.getD undef = .agg #[.slice a1 n1 c1, .slice a2 n2 c2, .slice a3 n3 c3])
    (hh : W.heap[X]? = some (.cells #[x, y, z] 26))
    (h : K (a.put o.dst undef) (((W.setCell ⟨X, 0, none⟩ (.slice a1 n1 c1)).setCell ⟨X, 1, none⟩ (.slice a2 n2 c2)).setCell ⟨X, 2, none⟩ (.slice a3 n3 c3))) :
    if Region.wanted o (yielded ops a.tmps) = true then Oper.wp Tryd.prog o a W K Q else E := by
  have hw : Region.wanted o (yielded ops a.tmps) = true := by simp [Region.wanted, hgd]
  rw [if_pos hw]
  obtain ⟨k0, k1, k2⟩ := cells3_of hh
  obtain ⟨f0, f1, f2⟩ := free3_of hh
  unfold Oper.wp execOp
  simp [ho, go_sem, hp, hv, k0, k1, k2, f0, f1, f2]
  exact h
end

section
variable {md : Region.Mode} {ops : Array Oper} {Q : Exit → Act → World → Prop} {S : World → Prop} {fuel : Nat} {listed : Array Bool} {a : Act} {w : World} {i : Nat} {o : Oper} {rs : List Nat}
theorem take_at {v : Value} (d : Nat) (hi : ops[i]? = some o) (hs : Region.noSelect ops = true) (hf : Region.free md ops listed i = true) (hr : (Region.ready md ops listed).contains i = true)
    (hd : o.dst = some d) (hQ : ∀ c a w, Q (.panic c) (a.put (some d) v) w → Q (.panic c) a w) (hw : Region.wanted o (yielded ops a.tmps) = true) (hy : ∀ w, S w → (execOp a.eval o).run Tryd.prog w = .ok (.value v) w) (hS : S w)
    (h : wpAnyH Tryd.prog md ops Q S fuel (listed.setIfInBounds i true) (a.put (some d) v) w) : wpAnyH Tryd.prog md ops Q S (fuel + 1) listed a w :=
  wpAnyH_take hi hs hf hr (by rw [hd]; exact hQ) (.inl ⟨hw, hy⟩) hS (by rw [hd]; exact h)
theorem node_build0 (t e : TypeId) (sz d : Nat) (ht : Tryd.prog.underlying t = some (.slice e)) (hz : ∀ w, (sizeOf e).run Tryd.prog w = .ok sz w)
    (hi : ops[i]? = some o) (hgd : o.guard = none) (ho : o.op = .buildSlice t 0 #[]) (hd : o.dst = some d) (hS : S (w.alloc (.cells #[] e)))
    (h : S (w.alloc (.cells #[] e)) → wpAnyH Tryd.prog md ops Q S fuel (listed.setIfInBounds i true) (a.put (some d) (.slice (some ⟨w.heap.size, 0, none⟩) 0 0)) (w.alloc (.cells #[] e)))
    (hs : AllReadyH Tryd.prog md ops Q S fuel listed a w rs) : AllReadyH Tryd.prog md ops Q S fuel listed a w (i :: rs) :=
  AllReadyH.cons hi (fun K hK => step_build0 t e sz ht hz hgd ho (by rw [hd]; exact hK.out _ _ hS h)) hs
theorem node_alloc26 (d : Nat) (hi : ops[i]? = some o) (hgd : o.guard = none) (ho : o.op = .alloc 26) (hd : o.dst = some d) (hS : S (w.alloc (.cells #[.slice none 0 0, .slice none 0 0, .slice none 0 0] 26)))
    (h : S (w.alloc (.cells #[.slice none 0 0, .slice none 0 0, .slice none 0 0] 26)) → wpAnyH Tryd.prog md ops Q S fuel (listed.setIfInBounds i true) (a.put (some d) (.pointer (some ⟨w.heap.size, 0, none⟩))) (w.alloc (.cells #[.slice none 0 0, .slice none 0 0, .slice none 0 0] 26)))
    (hs : AllReadyH Tryd.prog md ops Q S fuel listed a w rs) : AllReadyH Tryd.prog md ops Q S fuel listed a w (i :: rs) :=
  AllReadyH.cons hi (fun K hK => step_alloc26 hgd ho (by rw [hd]; exact hK.out _ _ hS h)) hs
theorem node_app (d B : Nat) (s x : Operand) (t e : TypeId) (z : Value) (size bytes : Nat) (hinf : (Tryd.prog.info? e).map (fun i => (i.zero, i.size, i.bytes)) = some (some z, size, bytes)) (hz : z.cells.size = size) (hsz : 0 < size)
    (ht : Tryd.prog.underlying t = some (.slice e)) (g m : Nat) (us : List Value) (src : Value)
    (hi : ops[i]? = some o) (hgd : o.guard = none) (ho : o.op = .call { callee := .builtin .append, args := #[s, x], argTypes := #[t, t] }) (hd : o.dst = some d)
    (hs' : a.eval s = .slice (some ⟨g, 0, none⟩) 0 0) (hx : a.eval x = src) (hsrc : Rd w src m size us) (hg : w.heap[g]? = some (.cells #[] e)) (hB : B ≤ g)
    (hlen : m * bytes ≤ 100000000 ∧ m ≤ 1000000)
    (h : ∀ sa sn sc w', Hid (w'.ownsRow B e size (.slice sa sn sc) m us) → Hid (w.grownBy w' (some g)) → S w' ∧ wpAnyH Tryd.prog md ops Q S fuel (listed.setIfInBounds i true) (a.put (some d) (.slice sa sn sc)) w')
    (hs : AllReadyH Tryd.prog md ops Q S fuel listed a w rs) : AllReadyH Tryd.prog md ops Q S fuel listed a w (i :: rs) :=
  AllReadyH.cons hi (fun K hK => step_app B s x t e z size bytes hinf hz hsz ht g m us src hgd ho hs' hx hsrc hg hB hlen (fun sa sn sc w' h1 h2 => by
    rw [hd]; exact hK.out _ _ (h sa sn sc w' h1 h2).1 (fun _ => (h sa sn sc w' h1 h2).2))) hs
theorem node_store26 (k j : Nat) (X : Nat) (x y z : Value) (a1 a2 a3 : Option Addr) (n1 n2 n3 c1 c2 c3 : Nat)
    (hi : ops[i]? = some o) (hgd : o.guard = none) (ho : o.op = .store 26 (.tmp k) (.tmp j)) (hd : o.dst = none)
    (hp : a.tmps[k]?.getD undef = .pointer (some ⟨X, 0, none⟩)) (hv : a.tmps[j]?.getD undef = .agg #[.slice a1 n1 c1, .slice a2 n2 c2, .slice a3 n3 c3])
    (hh : w.heap[X]? = some (.cells #[x, y, z] 26))
    (hS : S (((w.setCell ⟨X, 0, none⟩ (.slice a1 n1 c1)).setCell ⟨X, 1, none⟩ (.slice a2 n2 c2)).setCell ⟨X, 2, none⟩ (.slice a3 n3 c3)))
    (h : wpAnyH Tryd.prog md ops Q S fuel (listed.setIfInBounds i true) a (((w.setCell ⟨X, 0, none⟩ (.slice a1 n1 c1)).setCell ⟨X, 1, none⟩ (.slice a2 n2 c2)).setCell ⟨X, 2, none⟩ (.slice a3 n3 c3)))
    (hs : AllReadyH Tryd.prog md ops Q S fuel listed a w rs) : AllReadyH Tryd.prog md ops Q S fuel listed a w (i :: rs) :=
  AllReadyH.cons hi (fun K hK => step_store26 k j X x y z a1 a2 a3 n1 n2 n3 c1 c2 c3 hgd ho hp hv hh (by rw [hd]; exact hK.out _ _ hS (fun _ => h))) hs
end

/-- the region's state: blocks of empty slices not yet appended to, the new box, the rows that are there -/
structure R1 (W : World) (km kj : Nat) (us uj : List Value) (w : World) (e5 e14 x3 : Option Nat) (m j : Option Value) : Prop where
  below : Below W.heap.size W w
  h5 : ∀ g, e5 = some g → W.heap.size ≤ g ∧ w.heap[g]? = some (.cells #[] 53)
  h14 : ∀ g, e14 = some g → W.heap.size ≤ g ∧ w.heap[g]? = some (.cells #[] 55)
  h3 : ∀ g, x3 = some g → W.heap.size ≤ g ∧ w.heap[g]? = some (.cells #[.slice none 0 0, .slice none 0 0, .slice none 0 0] 26)
  hm : ∀ v, m = some v → w.ownsRow W.heap.size 53 4 v km us
  hj : ∀ v, j = some v → w.ownsRow W.heap.size 55 2 v kj uj
section
variable {W w w' : World} {km kj : Nat} {us uj : List Value} {e5 e14 x3 : Option Nat} {m j : Option Value}
theorem R1.start (W : World) : R1 W km kj us uj W.drew none none none none none :=
  ⟨(Below.refl _ _).drew, fun _ h => (nomatch h), fun _ h => (nomatch h), fun _ h => (nomatch h), fun _ h => (nomatch h), fun _ h => (nomatch h)⟩
theorem R1.alloc (h : R1 W km kj us uj w e5 e14 x3 m j) (o : Obj) : R1 W km kj us uj (w.alloc o) e5 e14 x3 m j := by
  have ha : ∀ (g : Nat) (c : Obj), w.heap[g]? = some c → (w.alloc o).heap[g]? = some c := fun g c e => (Below.heap_alloc _ _ _ (heap_lt e)).trans e
  exact ⟨h.below.alloc h.below.size _, fun g e => ⟨(h.h5 g e).1, ha _ _ (h.h5 g e).2⟩, fun g e => ⟨(h.h14 g e).1, ha _ _ (h.h14 g e).2⟩, fun g e => ⟨(h.h3 g e).1, ha _ _ (h.h3 g e).2⟩,
    fun v e => row_below (h.hm v e) ((Below.refl _ _).alloc (Nat.le_refl _) _), fun v e => row_below (h.hj v e) ((Below.refl _ _).alloc (Nat.le_refl _) _)⟩
theorem R1.a5 (h : R1 W km kj us uj w none e14 x3 m j) : R1 W km kj us uj (w.alloc (.cells #[] 53)) (some w.heap.size) e14 x3 m j :=
  let h2 := h.alloc (.cells #[] 53)
  ⟨h2.below, fun g e => by cases e; exact ⟨h.below.size, heap_alloc_new _ _⟩, h2.h14, h2.h3, h2.hm, h2.hj⟩
theorem R1.a14 (h : R1 W km kj us uj w e5 none x3 m j) : R1 W km kj us uj (w.alloc (.cells #[] 55)) e5 (some w.heap.size) x3 m j :=
  let h2 := h.alloc (.cells #[] 55)
  ⟨h2.below, h2.h5, fun g e => by cases e; exact ⟨h.below.size, heap_alloc_new _ _⟩, h2.h3, h2.hm, h2.hj⟩
theorem R1.a3 (h : R1 W km kj us uj w e5 e14 none m j) : R1 W km kj us uj (w.alloc (.cells #[.slice none 0 0, .slice none 0 0, .slice none 0 0] 26)) e5 e14 (some w.heap.size) m j :=
  let h2 := h.alloc (.cells #[.slice none 0 0, .slice none 0 0, .slice none 0 0] 26)
  ⟨h2.below, h2.h5, h2.h14, fun g e => by cases e; exact ⟨h.below.size, heap_alloc_new _ _⟩, h2.hm, h2.hj⟩
theorem block_ne {w : World} {g g' : Nat} {cs cs' : Array Value} {t t' : TypeId} (h : w.heap[g]? = some (.cells cs t)) (h' : w.heap[g']? = some (.cells cs' t')) (ht : t ≠ t') : g ≠ g' := by
  rintro rfl
  rw [h] at h'
  simp only [Option.some.injEq, Obj.cells.injEq] at h'
  exact ht h'.2.1
theorem R1.app13 {g : Nat} {v : Value} (h : R1 W km kj us uj w (some g) e14 x3 none j) (hg : w.grownBy w' (some g)) (ho : w'.ownsRow W.heap.size 53 4 v km us) : R1 W km kj us uj w' none e14 x3 (some v) j := by
  obtain ⟨hB, hh⟩ := h.h5 g rfl
  have kp : ∀ (g' : Nat) (cs : Array Value) (t : TypeId), t ≠ 53 → w.heap[g']? = some (.cells cs t) → w'.heap[g']? = some (.cells cs t) := fun g' cs t ht e => (hg.block g' (heap_lt e) (fun e2 => block_ne e hh ht (Option.some.inj e2))).trans e
  refine ⟨h.below.grown hg h.below.size (fun k hk => by cases hk; exact hB), fun _ e => (nomatch e), fun g' e => ⟨(h.h14 g' e).1, kp _ _ _ (by decide) (h.h14 g' e).2⟩, fun g' e => ⟨(h.h3 g' e).1, kp _ _ _ (by decide) (h.h3 g' e).2⟩, fun v' e => by cases e; exact ho, fun v' e => row_other (h.hj v' e) hg (fun k hk => by cases hk; exact ⟨_, hh⟩) (by decide)⟩
theorem R1.app22 {g : Nat} {v : Value} (h : R1 W km kj us uj w e5 (some g) x3 m none) (hg : w.grownBy w' (some g)) (ho : w'.ownsRow W.heap.size 55 2 v kj uj) : R1 W km kj us uj w' e5 none x3 m (some v) := by
  obtain ⟨hB, hh⟩ := h.h14 g rfl
  have kp : ∀ (g' : Nat) (cs : Array Value) (t : TypeId), t ≠ 55 → w.heap[g']? = some (.cells cs t) → w'.heap[g']? = some (.cells cs t) := fun g' cs t ht e => (hg.block g' (heap_lt e) (fun e2 => block_ne e hh ht (Option.some.inj e2))).trans e
  refine ⟨h.below.grown hg h.below.size (fun k hk => by cases hk; exact hB), fun g' e => ⟨(h.h5 g' e).1, kp _ _ _ (by decide) (h.h5 g' e).2⟩, fun _ e => (nomatch e), fun g' e => ⟨(h.h3 g' e).1, kp _ _ _ (by decide) (h.h3 g' e).2⟩, fun v' e => row_other (h.hm v' e) hg (fun k hk => by cases hk; exact ⟨_, hh⟩) (by decide), fun v' e => by cases e; exact ho⟩
/-- the box is filled: the region's end -/
theorem R1.fin {X : Nat} {v1 v2 : Value} (h : R1 W km kj us uj w none none (some X) (some v1) (some v2)) :
    W.heap.size ≤ X ∧ (((w.setCell ⟨X, 0, none⟩ (.slice none 0 0)).setCell ⟨X, 1, none⟩ v1).setCell ⟨X, 2, none⟩ v2).heap[X]? = some (.cells #[.slice none 0 0, v1, v2] 26) ∧
      Hid ((((w.setCell ⟨X, 0, none⟩ (.slice none 0 0)).setCell ⟨X, 1, none⟩ v1).setCell ⟨X, 2, none⟩ v2).ownsRow W.heap.size 53 4 v1 km us) ∧
      Hid ((((w.setCell ⟨X, 0, none⟩ (.slice none 0 0)).setCell ⟨X, 1, none⟩ v1).setCell ⟨X, 2, none⟩ v2).ownsRow W.heap.size 55 2 v2 kj uj) ∧
      Hid (Below W.heap.size W (((w.setCell ⟨X, 0, none⟩ (.slice none 0 0)).setCell ⟨X, 1, none⟩ v1).setCell ⟨X, 2, none⟩ v2)) := by
  obtain ⟨hB, hh⟩ := h.h3 X rfl
  have hs := ((grown_set w ⟨X, 0, none⟩ (.slice none 0 0)).trans (grown_set _ ⟨X, 1, none⟩ v1)).trans (grown_set _ ⟨X, 2, none⟩ v2)
  have ht : ∀ k, some X = some k → ∃ cs, w.heap[k]? = some (.cells cs 26) := by intro k hk; cases hk; exact ⟨_, hh⟩
  exact ⟨hB, store3 hh, row_other (h.hm v1 rfl) hs ht (by decide), row_other (h.hj v2 rfl) hs ht (by decide), below_store3 h.below hB⟩
end
end Go.Proofs.YtjonbhimbhidpaaDoor
