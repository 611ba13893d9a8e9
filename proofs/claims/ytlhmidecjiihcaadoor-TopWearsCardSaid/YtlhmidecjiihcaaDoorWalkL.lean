/-
  Greatest common divisor with 1 (62); rationals: words.
-/
import Derived.Test.YtlhmidecjiihcaaDoorWalkK
namespace Go.Proofs.YtlhmidecjiihcaaDoor
open Go.RowKit
theorem cells4_of {W : World} {g : Nat} {a b c d : Value} {t : TypeId} (h : W.heap[g]? = some (.cells #[a, b, c, d] t)) : W.cell? ⟨g, 0, none⟩ = some a ∧ W.cell? ⟨g, 1, none⟩ = some b ∧ W.cell? ⟨g, 2, none⟩ = some c ∧ W.cell? ⟨g, 3, none⟩ = some d := by
  refine ⟨?_, ?_, ?_, ?_⟩ <;> simp [World.cell?, h]
/-- a rational is stored in its box -/
def put4 (w : World) (X : Nat) (b : Bool) (p : Option Addr) (n c : Nat) (e : Bool) (q : Option Addr) (m d : Nat) : World := (((w.setCell ⟨X, 0, none⟩ (.bool b)).setCell ⟨X, 1, none⟩ (.slice p n c)).setCell ⟨X, 2, none⟩ (.bool e)).setCell ⟨X, 3, none⟩ (.slice q m d)
theorem put4_off {w : World} {X : Nat} {b : Bool} {p : Option Addr} {n c : Nat} {e : Bool} {q : Option Addr} {m d : Nat} : ∀ k, k ≠ X → (put4 w X b p n c e q m d).heap[k]? = w.heap[k]? := off4
theorem put4_below {B : Nat} {w0 w : World} {X : Nat} {b : Bool} {p : Option Addr} {n c : Nat} {e : Bool} {q : Option Addr} {m d : Nat} (h : Below B w0 w) (hX : B ≤ X) : Below B w0 (put4 w X b p n c e q m d) := below_set (below_set (below_set (below_set h hX) hX) hX) hX
/-- a whole number as a rational: its value -/
def RatZ (w : World) (v : Value) (z : Int) : Prop := ∃ a n c g d, v = .agg #[.bool (decide (z < 0)), .slice a n c, .bool false, .slice (some ⟨g, 0, none⟩) 1 d] ∧ IntZ w (.agg #[.bool (decide (z < 0)), .slice a n c]) z ∧ IntZ w (.agg #[.bool false, .slice (some ⟨g, 0, none⟩) 1 d]) 1
theorem RatZ.below {w w' : World} {v : Value} {z : Int} (h : RatZ w v z) (hb : Below w.heap.size w w') : RatZ w' v z := by
  obtain ⟨a, n, c, g, d, rfl, h1, h2⟩ := h
  exact ⟨a, n, c, g, d, rfl, h1.below hb, h2.below hb⟩
theorem RatZ.off {w w' : World} {X : Nat} {v : Value} {z : Int} (h : RatZ w v z) (hX : ∀ z, w.cell? ⟨X, 0, none⟩ ≠ some (.int .u32 z)) (hb : ∀ b, b ≠ X → w'.heap[b]? = w.heap[b]?) : RatZ w' v z := by
  obtain ⟨a, n, c, g, d, rfl, h1, h2⟩ := h
  exact ⟨a, n, c, g, d, rfl, h1.off hX hb, h2.off hX hb⟩
theorem IntZ.one {w : World} {v : Value} (h : IntZ w v 1) : ∃ g d, v = .agg #[.bool false, .slice (some ⟨g, 0, none⟩) 1 d] ∧ 1 ≤ d ∧ w.cell? ⟨g, 0, none⟩ = some (.int .u32 1) := by
  obtain ⟨s, rfl, h⟩ := h
  obtain ⟨g, d, rfl, h1, _, h3⟩ := h.p (by decide)
  exact ⟨g, d, rfl, h1, h3⟩
theorem IntZ.lb {w : World} {b : Bool} {s : Value} {z : Int} (h : IntZ w (.agg #[.bool b, s]) z) : Lb w s z.natAbs := by
  obtain ⟨s', e, h⟩ := h
  cases e
  exact h
section
variable {md : Region.Mode} {ops : Array Oper} {Q : Exit → Act → World → Prop} {S : World → Prop} {fuel : Nat} {listed : Array Bool} {a : Act} {w : World} {i : Nat} {o : Oper} {rs : List Nat}
theorem node_f43 (d : Nat) (k1 k2 : Nat) (v1 v2 : Value) (hi : ops[i]? = some o) (hgd : Region.wanted o (yielded ops a.tmps) = true) (ho : o.op = .call { callee := .value (.func 43), args := #[.tmp k1, .tmp k2], argTypes := #[52, 52] }) (hd : o.dst = some d)
    (hp1 : a.tmps[k1]?.getD undef = v1)
    (hp2 : a.tmps[k2]?.getD undef = v2)
    (h : Calls Tryd.prog 43 #[v1, v2] w fun e w' => ∃ u, e = .returned u ∧ S w' ∧ wpAnyH Tryd.prog md ops Q S fuel (listed.setIfInBounds i true) (a.put (some d) u) w')
    (hs : AllReadyH Tryd.prog md ops Q S fuel listed a w rs) : AllReadyH Tryd.prog md ops Q S fuel listed a w (i :: rs) := by
  refine AllReadyH.cons hi (fun K hK => ?_) hs
  rw [if_pos hgd]
  unfold Oper.wp execOp
  simp [ho, go_sem, hp1, hp2]
  refine h.mono ?_
  rintro e w' ⟨u, rfl, h1, h2⟩
  have hk := hK.out _ _ h1 (fun _ => h2)
  rw [hd]
  exact hk
theorem node_f46 (d : Nat) (k1 k2 : Nat) (v1 v2 : Value) (hi : ops[i]? = some o) (hgd : Region.wanted o (yielded ops a.tmps) = true) (ho : o.op = .call { callee := .value (.func 46), args := #[.tmp k1, .tmp k2], argTypes := #[52, 52] }) (hd : o.dst = some d)
    (hp1 : a.tmps[k1]?.getD undef = v1)
    (hp2 : a.tmps[k2]?.getD undef = v2)
    (h : Calls Tryd.prog 46 #[v1, v2] w fun e w' => ∃ u, e = .returned u ∧ S w' ∧ wpAnyH Tryd.prog md ops Q S fuel (listed.setIfInBounds i true) (a.put (some d) u) w')
    (hs : AllReadyH Tryd.prog md ops Q S fuel listed a w rs) : AllReadyH Tryd.prog md ops Q S fuel listed a w (i :: rs) := by
  refine AllReadyH.cons hi (fun K hK => ?_) hs
  rw [if_pos hgd]
  unfold Oper.wp execOp
  simp [ho, go_sem, hp1, hp2]
  refine h.mono ?_
  rintro e w' ⟨u, rfl, h1, h2⟩
  have hk := hK.out _ _ h1 (fun _ => h2)
  rw [hd]
  exact hk
theorem node_f42 (d : Nat) (k1 k2 : Nat) (v1 v2 : Value) (hi : ops[i]? = some o) (hgd : Region.wanted o (yielded ops a.tmps) = true) (ho : o.op = .call { callee := .value (.func 42), args := #[.tmp k1, .tmp k2], argTypes := #[52, 52] }) (hd : o.dst = some d)
    (hp1 : a.tmps[k1]?.getD undef = v1)
    (hp2 : a.tmps[k2]?.getD undef = v2)
    (h : Calls Tryd.prog 42 #[v1, v2] w fun e w' => ∃ u, e = .returned u ∧ S w' ∧ wpAnyH Tryd.prog md ops Q S fuel (listed.setIfInBounds i true) (a.put (some d) u) w')
    (hs : AllReadyH Tryd.prog md ops Q S fuel listed a w rs) : AllReadyH Tryd.prog md ops Q S fuel listed a w (i :: rs) := by
  refine AllReadyH.cons hi (fun K hK => ?_) hs
  rw [if_pos hgd]
  unfold Oper.wp execOp
  simp [ho, go_sem, hp1, hp2]
  refine h.mono ?_
  rintro e w' ⟨u, rfl, h1, h2⟩
  have hk := hK.out _ _ h1 (fun _ => h2)
  rw [hd]
  exact hk
theorem node_f71 (d : Nat) (k1 : Nat) (v1 : Value) (hi : ops[i]? = some o) (hgd : Region.wanted o (yielded ops a.tmps) = true) (ho : o.op = .call { callee := .value (.func 71), args := #[.tmp k1], argTypes := #[54] }) (hd : o.dst = some d)
    (hp1 : a.tmps[k1]?.getD undef = v1)
    (h : Calls Tryd.prog 71 #[v1] w fun e w' => ∃ u, e = .returned u ∧ S w' ∧ wpAnyH Tryd.prog md ops Q S fuel (listed.setIfInBounds i true) (a.put (some d) u) w')
    (hs : AllReadyH Tryd.prog md ops Q S fuel listed a w rs) : AllReadyH Tryd.prog md ops Q S fuel listed a w (i :: rs) := by
  refine AllReadyH.cons hi (fun K hK => ?_) hs
  rw [if_pos hgd]
  unfold Oper.wp execOp
  simp [ho, go_sem, hp1]
  refine h.mono ?_
  rintro e w' ⟨u, rfl, h1, h2⟩
  have hk := hK.out _ _ h1 (fun _ => h2)
  rw [hd]
  exact hk
theorem node_f45 (d : Nat) (k1 k2 : Nat) (v1 v2 : Value) (hi : ops[i]? = some o) (hgd : Region.wanted o (yielded ops a.tmps) = true) (ho : o.op = .call { callee := .value (.func 45), args := #[.tmp k1, .tmp k2], argTypes := #[54, 54] }) (hd : o.dst = some d)
    (hp1 : a.tmps[k1]?.getD undef = v1)
    (hp2 : a.tmps[k2]?.getD undef = v2)
    (h : Calls Tryd.prog 45 #[v1, v2] w fun e w' => ∃ u, e = .returned u ∧ S w' ∧ wpAnyH Tryd.prog md ops Q S fuel (listed.setIfInBounds i true) (a.put (some d) u) w')
    (hs : AllReadyH Tryd.prog md ops Q S fuel listed a w rs) : AllReadyH Tryd.prog md ops Q S fuel listed a w (i :: rs) := by
  refine AllReadyH.cons hi (fun K hK => ?_) hs
  rw [if_pos hgd]
  unfold Oper.wp execOp
  simp [ho, go_sem, hp1, hp2]
  refine h.mono ?_
  rintro e w' ⟨u, rfl, h1, h2⟩
  have hk := hK.out _ _ h1 (fun _ => h2)
  rw [hd]
  exact hk
theorem node_f13 (d : Nat) (k1 : Nat) (v1 : Value) (hi : ops[i]? = some o) (hgd : Region.wanted o (yielded ops a.tmps) = true) (ho : o.op = .call { callee := .value (.func 13), args := #[.tmp k1], argTypes := #[3] }) (hd : o.dst = some d)
    (hp1 : a.tmps[k1]?.getD undef = v1)
    (h : Calls Tryd.prog 13 #[v1] w fun e w' => ∃ u, e = .returned u ∧ S w' ∧ wpAnyH Tryd.prog md ops Q S fuel (listed.setIfInBounds i true) (a.put (some d) u) w')
    (hs : AllReadyH Tryd.prog md ops Q S fuel listed a w rs) : AllReadyH Tryd.prog md ops Q S fuel listed a w (i :: rs) := by
  refine AllReadyH.cons hi (fun K hK => ?_) hs
  rw [if_pos hgd]
  unfold Oper.wp execOp
  simp [ho, go_sem, hp1]
  refine h.mono ?_
  rintro e w' ⟨u, rfl, h1, h2⟩
  have hk := hK.out _ _ h1 (fun _ => h2)
  rw [hd]
  exact hk
theorem node_f28 (d : Nat) (k1 k2 : Nat) (v1 v2 : Value) (hi : ops[i]? = some o) (hgd : Region.wanted o (yielded ops a.tmps) = true) (ho : o.op = .call { callee := .value (.func 28), args := #[.tmp k1, .tmp k2], argTypes := #[54, 54] }) (hd : o.dst = some d)
    (hp1 : a.tmps[k1]?.getD undef = v1)
    (hp2 : a.tmps[k2]?.getD undef = v2)
    (h : Calls Tryd.prog 28 #[v1, v2] w fun e w' => ∃ u, e = .returned u ∧ S w' ∧ wpAnyH Tryd.prog md ops Q S fuel (listed.setIfInBounds i true) (a.put (some d) u) w')
    (hs : AllReadyH Tryd.prog md ops Q S fuel listed a w rs) : AllReadyH Tryd.prog md ops Q S fuel listed a w (i :: rs) := by
  refine AllReadyH.cons hi (fun K hK => ?_) hs
  rw [if_pos hgd]
  unfold Oper.wp execOp
  simp [ho, go_sem, hp1, hp2]
  refine h.mono ?_
  rintro e w' ⟨u, rfl, h1, h2⟩
  have hk := hK.out _ _ h1 (fun _ => h2)
  rw [hd]
  exact hk
theorem node_f33c (d : Nat) (hi : ops[i]? = some o) (hgd : Region.wanted o (yielded ops a.tmps) = true) (ho : o.op = .call { callee := .value (.func 33), args := #[.const (.int .i64 1)], argTypes := #[3] }) (hd : o.dst = some d)
    (h : Calls Tryd.prog 33 #[.int .i64 1] w fun e w' => ∃ u, e = .returned u ∧ S w' ∧ wpAnyH Tryd.prog md ops Q S fuel (listed.setIfInBounds i true) (a.put (some d) u) w')
    (hs : AllReadyH Tryd.prog md ops Q S fuel listed a w rs) : AllReadyH Tryd.prog md ops Q S fuel listed a w (i :: rs) := by
  refine AllReadyH.cons hi (fun K hK => ?_) hs
  rw [if_pos hgd]
  unfold Oper.wp execOp
  simp [ho, go_sem]
  refine h.mono ?_
  rintro e w' ⟨u, rfl, h1, h2⟩
  have hk := hK.out _ _ h1 (fun _ => h2)
  rw [hd]
  exact hk
theorem node_store54 (k j X : Nat) (x0 x1 x2 x3 : Value) (b e : Bool) (p q : Option Addr) (n c m d : Nat) (hi : ops[i]? = some o) (hgd : o.guard = none) (ho : o.op = .store 54 (.tmp k) (.tmp j)) (hd : o.dst = none)
    (hp : a.tmps[k]?.getD undef = .pointer (some ⟨X, 0, none⟩)) (hv : a.tmps[j]?.getD undef = .agg #[.bool b, .slice p n c, .bool e, .slice q m d])
    (hh : w.heap[X]? = some (.cells #[x0, x1, x2, x3] 54)) (hS : S (put4 w X b p n c e q m d))
    (h : wpAnyH Tryd.prog md ops Q S fuel (listed.setIfInBounds i true) a (put4 w X b p n c e q m d))
    (hs : AllReadyH Tryd.prog md ops Q S fuel listed a w rs) : AllReadyH Tryd.prog md ops Q S fuel listed a w (i :: rs) := by
  refine AllReadyH.cons hi (fun K hK => ?_) hs
  have hw : Region.wanted o (yielded ops a.tmps) = true := by simp [Region.wanted, hgd]
  rw [if_pos hw]
  have hk := hK.out _ _ hS (fun _ => h)
  obtain ⟨hc0, hc1, hc2, hc3⟩ := cells4_of hh
  have hf0 := free_box hh 0
  have hf1 := free_box hh 1
  have hf2 := free_box hh 2
  have hf3 := free_box hh 3
  unfold Oper.wp execOp
  simp [ho, go_sem, hp, hv, hc0, hf0, hc1, hf1, hc2, hf2, hc3, hf3]
  rw [hd]
  exact hk
end
set_option maxRecDepth 100000 in
set_option maxHeartbeats 2000000 in
theorem gcd1_any (u v : Value) (k : Nat) (w : World) (hu : IntZ w u k) (hv : IntZ w v 1) (hk : 1 ≤ k) :
    Calls Tryd.prog 62 #[u, v] w fun e w' => ∃ x, e = .returned x ∧ IntZ w' x 1 ∧ Below w.heap.size w w' := by
  obtain ⟨a1, n1, c1, rfl, hl1⟩ := hu.sh
  obtain ⟨g2, d2, rfl, hd2, hc2⟩ := hv.one
  have hl2 := hv.lb
  rw [show decide ((k : Int) < 0) = false from decide_eq_false (by omega)] at *
  rw [Int.natAbs_natCast] at hl1
  obtain ⟨X, Y, R, w1, hw1, hX, hY, hR, HX, HY, HR, HB1, HRW, HXR, HYR⟩ := boxes3 w #[.bool false, .slice a1 n1 c1] #[.bool false, .slice (some ⟨g2, 0, none⟩) 1 d2] #[.bool false, .slice none 0 0] 52 52 52
  have HL1 := hid (hl1.below HB1.out)
  have HL2 : Hid (Lb w1 (.slice (some ⟨g2, 0, none⟩) 1 d2) 1) := hid (hl2.below HB1.out)
  have HW1 := hid hw1
  have HXE := hid hX
  have HYE := hid hY
  have HRE := hid hR
  clear hu hv hl1 hl2 hw1 hX hY hR hc2
  go_enter Tryd.func62, Tryd.ntmps62
  go_upto_region 1 with fail
  rw [HW1.out, ← HRE.out, ← HYE.out, ← HXE.out]
  clear HW1 HXE HYE HRE
  obtain ⟨x0, x1⟩ := cells2_of HX.out
  obtain ⟨y0, y1⟩ := cells2_of HY.out
  go_quiet (fail)
  rename_i nq
  have HQB : Hid (Below w1.heap.size w1 (w1.drewN nq)) := hid (below_drewN_r (Below.refl _ _) _)
  have HB2 : Hid (Below w.heap.size w (w1.drewN nq)) := hid (below_step HB1.out HQB.out)
  have HR2 := hid (cells_box HR.out HQB.out)
  have HL1b := hid (HL1.out.below HQB.out)
  have HL2b := hid (HL2.out.below HQB.out)
  clear HX HY HR HB1 HL1 HL2 HQB x0 x1 y0 y1
  generalize w1.drewN nq = w2 at *
  go_wp2_with fail
  go_loopw [5, 6] (fun xv yv wr => (xv = .slice a1 n1 c1 ∧ yv = .slice (some ⟨g2, 0, none⟩) 1 d2 ∧ wr = w2) ∨ (xv = .slice (some ⟨g2, 0, none⟩) 1 d2 ∧ (∃ p c, yv = .slice p 0 c) ∧ Hid (Below w2.heap.size w2 wr))) (fun _ yv _ => lenOf yv)
  case atStart => exact .inl ⟨rfl, rfl, rfl⟩
  case round =>
    rcases hrel with ⟨rfl, rfl, rfl⟩ | ⟨rfl, ⟨p, c, rfl⟩, HBr⟩
    · rename World => wr
      have PC := hid (part_any _ _ k 1 wr HL1b.out HL2b.out (by decide) hk)
      rw [Nat.mod_one] at PC
      go_wp2_with (first | (go_at_call 78; refine PC.out.mono ?_; rintro e w3 ⟨x3, y3, rfl, -, hy3, hb3⟩; have HB3 := hid hb3; obtain ⟨yp, yc, rfl⟩ := hy3.z; clear hy3 hb3) | fail)
      go_roundw
      case rel => exact .inr ⟨rfl, ⟨_, _, rfl⟩, HB3⟩
      case measure => simp [lenOf]
    · rename World => wr
      have HL3 := hid (HL2b.out.below HBr.out)
      have HR3 := hid (cells_box HR2.out HBr.out)
      have HB3 := hid (below_step HB2.out HBr.out)
      have MC := hid (made_any false _ 1 wr HL3.out)
      go_wp2_with (first
        | (go_at_call 47; refine MC.out.mono ?_; rintro e w4 ⟨rfl, hb4⟩; have HR4 := hid (cells_box HR3.out hb4); have HB4 := hid (below_step HB3.out hb4); have HL4 := hid (HL3.out.below hb4); obtain ⟨r0, r1⟩ := cells2_of HR4.out; have f0 := free_box HR4.out 0; have f1 := free_box HR4.out 1; clear hb4)
        | fail)
      exact bodyPost_ret (v := .agg #[.bool false, .slice (some ⟨g2, 0, none⟩) 1 d2]) (by simp [results, Tryd.results62, go_sem, r0, r1]) rfl
        ⟨_, rfl, ⟨_, rfl, HL4.out.off (off_bool r0) off2⟩, below_set (below_set HB4.out HRW.out) HRW.out⟩
end Go.Proofs.YtlhmidecjiihcaaDoor
