/-
  Words for the walks over chapter 6: does a set hold; the region in which its maps are made, operation by operation.
-/
import Derived.Test.YtjonbhimbhidpaaDoorBaseJ
import Derived.Test.YtjonbhimbhidpaaDoorBaseK
namespace Go.Proofs.YtjonbhimbhidpaaDoor
open Go.RowKit
section
variable {md : Region.Mode} {ops : Array Oper} {Q : Exit → Act → World → Prop} {S : World → Prop} {fuel : Nat} {listed : Array Bool} {a : Act} {w : World} {i : Nat} {o : Oper} {rs : List Nat}
theorem node_call54 (d k1 k2 : Nat) (v1 v2 : Value) (hi : ops[i]? = some o) (hgd : o.guard = none) (ho : o.op = .call { callee := .value (.func 54), args := #[.tmp k1, .tmp k2], argTypes := #[85, 22] }) (hd : o.dst = some d)
    (hp1 : a.tmps[k1]?.getD undef = v1) (hp2 : a.tmps[k2]?.getD undef = v2)
    (h : Calls Tryd.prog 54 #[v1, v2] w fun e w' => ∃ u, e = .returned u ∧ S w' ∧ wpAnyH Tryd.prog md ops Q S fuel (listed.setIfInBounds i true) (a.put (some d) u) w')
    (hs : AllReadyH Tryd.prog md ops Q S fuel listed a w rs) : AllReadyH Tryd.prog md ops Q S fuel listed a w (i :: rs) := by
  refine AllReadyH.cons hi (fun K hK => ?_) hs
  have hw : Region.wanted o (yielded ops a.tmps) = true := by simp [Region.wanted, hgd]
  rw [if_pos hw]
  unfold Oper.wp execOp
  simp [ho, go_sem, hp1, hp2]
  refine h.mono ?_
  rintro e w' ⟨u, rfl, h1, h2⟩
  have hk := hK.out _ _ h1 (fun _ => h2)
  rw [hd]
  exact hk
theorem node_alloc90 (d : Nat) (hi : ops[i]? = some o) (hgd : o.guard = none) (ho : o.op = .alloc 90) (hd : o.dst = some d) (hS : S (w.alloc (.cells #[.map none] 90)))
    (h : S (w.alloc (.cells #[.map none] 90)) → wpAnyH Tryd.prog md ops Q S fuel (listed.setIfInBounds i true) (a.put (some d) (.pointer (some ⟨w.heap.size, 0, none⟩))) (w.alloc (.cells #[.map none] 90)))
    (hs : AllReadyH Tryd.prog md ops Q S fuel listed a w rs) : AllReadyH Tryd.prog md ops Q S fuel listed a w (i :: rs) := by
  refine AllReadyH.cons hi (fun K hK => ?_) hs
  have hw : Region.wanted o (yielded ops a.tmps) = true := by simp [Region.wanted, hgd]
  rw [if_pos hw]
  have hk := hK.out _ _ hS h
  unfold Oper.wp execOp
  simp [ho, go_sem]
  rw [hd]
  exact hk
theorem node_store90 (k j : Nat) (X : Nat) (m : Nat) (hi : ops[i]? = some o) (hgd : o.guard = none) (ho : o.op = .store 90 (.tmp k) (.tmp j)) (hd : o.dst = none)
    (hp : a.tmps[k]?.getD undef = .pointer (some ⟨X, 0, none⟩)) (hv : a.tmps[j]?.getD undef = .map (some m))
    (hh : w.heap[X]? = some (.cells #[.map none] 90)) (hS : S (w.setCell ⟨X, 0, none⟩ (.map (some m))))
    (h : wpAnyH Tryd.prog md ops Q S fuel (listed.setIfInBounds i true) a (w.setCell ⟨X, 0, none⟩ (.map (some m))))
    (hs : AllReadyH Tryd.prog md ops Q S fuel listed a w rs) : AllReadyH Tryd.prog md ops Q S fuel listed a w (i :: rs) := by
  refine AllReadyH.cons hi (fun K hK => ?_) hs
  have hw : Region.wanted o (yielded ops a.tmps) = true := by simp [Region.wanted, hgd]
  rw [if_pos hw]
  have k0 : w.cell? ⟨X, 0, none⟩ = some (.map none) := by simp [World.cell?, hh]
  have f0 : w.frozen? ⟨X, 0, none⟩ = false := by simp [World.frozen?, hh]
  have hk := hK.out _ _ hS (fun _ => h)
  unfold Oper.wp execOp
  simp [ho, go_sem, hp, hv, k0, f0]
  rw [hd]
  exact hk
end
theorem setW_obj {W : World} {b : Nat} {L : List Sp} (h : SetW W b L) : ∃ es clock, W.heap[b]? = some (.map es clock) := by
  obtain ⟨D, ⟨es, clock, hb, _⟩, _⟩ := h
  exact ⟨es, clock, hb⟩
theorem setW_set {W : World} {b X : Nat} {L : List Sp} {cs : Array Value} {t : TypeId} (h : SetW W b L) (hX : W.heap[X]? = some (.cells cs t)) (u : Value) : SetW (W.setCell ⟨X, 0, none⟩ u) b L := by
  refine setW_kept h (grown_set W ⟨X, 0, none⟩ u) ?_
  intro e
  obtain ⟨es, clock, hb⟩ := setW_obj h
  cases e
  rw [hb] at hX
  cases hX
theorem RangeS.below {W W' : World} {b r : Nat} {L T : List Sp} (h : RangeS W b r L T) (hb : Below W.heap.size W W') : RangeS W' b r L T ∧ W'.rangeLeft b r = W.rangeLeft b r := by
  obtain ⟨h1, h2, _⟩ := h.lt
  refine ⟨?_, left_same (hb.block b h2) (hb.block r h1)⟩
  obtain ⟨D, left, cnt, ⟨es, clock, since, seen, c0, q1, q2, q3, q4, q5, q6⟩, hD⟩ := h
  exact ⟨D, left, cnt, ⟨es, clock, since, seen, c0, (hb.block b h2).trans q1, q2, q3, q4, (hb.block r h1).trans q5, q6⟩, hD⟩
theorem dec_in (o : Ov) (f : Sp → Bool) : (fun d => decide (d ∈ o.cells.filter f)) = fun d => o.ex d && f d := by
  funext d
  rw [Bool.eq_iff_iff, decide_eq_true_eq, List.mem_filter, mem_cells, Bool.and_eq_true]
/-- a cell of a set is as a set that holds wants it -/
def Ov.good (o : Ov) (g : Grid) (c : Sp) : Bool := inG o.safe c && o.canM (fun d => o.ex d && inG g d) c
/-- a set holds -/
def Ov.holds (o : Ov) (g : Grid) : Bool := (o.cells.filter (inG g)).all (o.good g)
/-- what Holds returns -/
def holdsV (o : Ov) (g : Grid) : Value := if o.valid = true then (if formB o.P o.R o.C g = true then .tuple #[.bool (o.holds g), .int .i64 0] else .tuple #[.bool false, .int .i64 2]) else .tuple #[.bool false, .int .i64 1]
theorem wpl_next_set3 {w : World} {ops : Array Oper} {rest : List Oper} {o : Oper} {a : Act} {Q : Exit → Act → World → Prop} (hg : o.guard = none) (it : Operand) (hop : o.op = Op.next it false) (b r : Nat) (L T : List Sp) (hit : a.eval it = .pointer (some ⟨r, 0, none⟩)) (h : RangeS w b r L T)
    (hDone : T = [] → wpList Tryd.prog ops Q rest (a.put o.dst (.tuple #[.bool false])) w)
    (hMore : ∀ (p x y : Int) (v : Value) (w' : World), (p, x, y) ∈ T → (p, x, y) ∈ L → InR (p, x, y) → RangeS w' b r L (T.erase (p, x, y)) → w'.rangeLeft b r < w.rangeLeft b r → w.grownBy w' (some r) → w'.heap.size = w.heap.size →
      (Instr.entry (.pointer (some ⟨r, 0, none⟩))).run Tryd.prog w' = .ok (.tuple #[.agg #[.int .i64 p, .int .i64 x, .int .i64 y], v]) w' → wpList Tryd.prog ops Q rest (a.put o.dst (.tuple #[.bool true, .agg #[.int .i64 p, .int .i64 x, .int .i64 y], v])) w') :
    wpList Tryd.prog ops Q (o :: rest) a w :=
  wpl_next_set hg it hop b r L T hit h hDone (fun c v w' h1 h2 h3 h4 h5 h6 h7 h8 => hMore c.1 c.2.1 c.2.2 v w' h1 h2 h3 h4 h5 h6 h7 h8)
/-- the region's state: the box for the set, the two sets -/
structure R2 (W : World) (L1 L2 : List Sp) (w : World) (x m1 m2 : Option Nat) : Prop where
  below : Below W.heap.size W w
  hx : ∀ g, x = some g → W.heap.size ≤ g ∧ w.heap[g]? = some (.cells #[.map none] 90)
  h1 : ∀ m, m1 = some m → SetW w m L1
  h2 : ∀ m, m2 = some m → SetW w m L2
section
variable {W w w' : World} {L1 L2 : List Sp} {x m1 m2 : Option Nat}
theorem R2.start (W : World) (L1 L2 : List Sp) : R2 W L1 L2 W.drew none none none := ⟨(Below.refl _ _).drew, fun _ h => (nomatch h), fun _ h => (nomatch h), fun _ h => (nomatch h)⟩
theorem R2.step (h : R2 W L1 L2 w x m1 m2) (hb : Below w.heap.size w w') : R2 W L1 L2 w' x m1 m2 :=
  ⟨h.below.trans (hb.mono h.below.size), fun g e => ⟨(h.hx g e).1, (hb.block g (heap_lt (h.hx g e).2)).trans (h.hx g e).2⟩, fun m e => setW_below (h.h1 m e) hb (setW_lt (h.h1 m e)), fun m e => setW_below (h.h2 m e) hb (setW_lt (h.h2 m e))⟩
theorem R2.call1 {m : Nat} (h : R2 W L1 L2 w x none m2) (hb : Below w.heap.size w w') (hs : SetW w' m L1) : R2 W L1 L2 w' x (some m) m2 :=
  let h2 := h.step hb
  ⟨h2.below, h2.hx, fun _ e => by cases e; exact hs, h2.h2⟩
theorem R2.call2 {m : Nat} (h : R2 W L1 L2 w x m1 none) (hb : Below w.heap.size w w') (hs : SetW w' m L2) : R2 W L1 L2 w' x m1 (some m) :=
  let h2 := h.step hb
  ⟨h2.below, h2.hx, h2.h1, fun _ e => by cases e; exact hs⟩
theorem R2.box (h : R2 W L1 L2 w none m1 m2) : R2 W L1 L2 (w.alloc (.cells #[.map none] 90)) (some w.heap.size) m1 m2 :=
  let h2 := h.step ((Below.refl _ _).alloc (Nat.le_refl _) (.cells #[.map none] 90))
  ⟨h2.below, fun _ e => by cases e; exact ⟨h.below.size, heap_alloc_new _ _⟩, h2.h1, h2.h2⟩
theorem R2.fin {X a b : Nat} (h : R2 W L1 L2 w (some X) (some a) (some b)) : W.heap.size ≤ X ∧ (w.setCell ⟨X, 0, none⟩ (.map (some a))).heap[X]? = some (.cells #[.map (some a)] 90) ∧
    Hid (SetW (w.setCell ⟨X, 0, none⟩ (.map (some a))) a L1) ∧ Hid (SetW (w.setCell ⟨X, 0, none⟩ (.map (some a))) b L2) ∧ Hid (Below W.heap.size W (w.setCell ⟨X, 0, none⟩ (.map (some a)))) := by
  obtain ⟨hB, hh⟩ := h.hx X rfl
  exact ⟨hB, heap_setCell1 hh, setW_set (h.h1 a rfl) hh _, setW_set (h.h2 b rfl) hh _, h.below.setCell (p := ⟨X, 0, none⟩) hB _⟩
end
theorem good_step {o : Ov} {g : Grid} {L T : List Sp} {c : Sp} (hn : T.Nodup) (hT : ∀ d ∈ L, d ∉ T → o.good g d = true) (hc : o.good g c = true) : ∀ d ∈ L, d ∉ T.erase c → o.good g d = true := by
  intro d hd hn2
  by_cases e : d = c
  · exact e ▸ hc
  · exact hT d hd (fun h => hn2 ((hn.mem_erase_iff).2 ⟨e, h⟩))
theorem RangeS.nodup {W : World} {b r : Nat} {L T : List Sp} (h : RangeS W b r L T) : T.Nodup := by
  obtain ⟨_, _, _, _, _, _, _, h, _⟩ := h
  exact h
theorem holds_true {o : Ov} {g : Grid} (h : ∀ d ∈ o.cells.filter (inG g), d ∉ ([] : List Sp) → o.good g d = true) : o.holds g = true := by
  unfold Ov.holds
  rw [List.all_eq_true]
  exact fun d hd => h d hd (by simp)
theorem holds_false {o : Ov} {g : Grid} {c : Sp} (hc : c ∈ o.cells.filter (inG g)) (h : o.good g c = false) : o.holds g = false := by
  unfold Ov.holds
  rw [List.all_eq_false]
  exact ⟨c, hc, by rw [h]; decide⟩
end Go.Proofs.YtjonbhimbhidpaaDoor
