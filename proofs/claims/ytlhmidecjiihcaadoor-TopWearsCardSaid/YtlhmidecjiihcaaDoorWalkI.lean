/-
  Integers are multiplied (43).
-/
import Derived.Test.YtlhmidecjiihcaaDoorWalkH
namespace Go.Proofs.YtlhmidecjiihcaaDoor
open Go.RowKit
section
variable {md : Region.Mode} {ops : Array Oper} {Q : Exit → Act → World → Prop} {S : World → Prop} {fuel : Nat} {listed : Array Bool} {a : Act} {w : World} {i : Nat} {o : Oper} {rs : List Nat}
theorem node_f64 (d : Nat) (k1 k2 : Nat) (v1 v2 : Value) (hi : ops[i]? = some o) (hgd : Region.wanted o (yielded ops a.tmps) = true) (ho : o.op = .call { callee := .value (.func 64), args := #[.tmp k1, .tmp k2], argTypes := #[50, 50] }) (hd : o.dst = some d)
    (hp1 : a.tmps[k1]?.getD undef = v1)
    (hp2 : a.tmps[k2]?.getD undef = v2)
    (h : Calls Tryd.prog 64 #[v1, v2] w fun e w' => ∃ u, e = .returned u ∧ S w' ∧ wpAnyH Tryd.prog md ops Q S fuel (listed.setIfInBounds i true) (a.put (some d) u) w')
    (hs : AllReadyH Tryd.prog md ops Q S fuel listed a w rs) : AllReadyH Tryd.prog md ops Q S fuel listed a w (i :: rs) := by
  refine AllReadyH.cons hi (fun K hK => ?_) hs
  rw [if_pos hgd]
  unfold Oper.wp execOp
  simp [ho, go_sem, hp1, hp2]
  refine h.mono ?_
  rintro e w' ⟨u, rfl, h1, h2⟩
  have hk := hK.out _ _ h1 (fun _ => h2)
  rw [hd]
  exact hk
theorem node_f47 (d : Nat) (k1 k2 : Nat) (v1 v2 : Value) (hi : ops[i]? = some o) (hgd : Region.wanted o (yielded ops a.tmps) = true) (ho : o.op = .call { callee := .value (.func 47), args := #[.tmp k1, .tmp k2], argTypes := #[4, 50] }) (hd : o.dst = some d)
    (hp1 : a.tmps[k1]?.getD undef = v1)
    (hp2 : a.tmps[k2]?.getD undef = v2)
    (h : Calls Tryd.prog 47 #[v1, v2] w fun e w' => ∃ u, e = .returned u ∧ S w' ∧ wpAnyH Tryd.prog md ops Q S fuel (listed.setIfInBounds i true) (a.put (some d) u) w')
    (hs : AllReadyH Tryd.prog md ops Q S fuel listed a w rs) : AllReadyH Tryd.prog md ops Q S fuel listed a w (i :: rs) := by
  refine AllReadyH.cons hi (fun K hK => ?_) hs
  rw [if_pos hgd]
  unfold Oper.wp execOp
  simp [ho, go_sem, hp1, hp2]
  refine h.mono ?_
  rintro e w' ⟨u, rfl, h1, h2⟩
  have hk := hK.out _ _ h1 (fun _ => h2)
  rw [hd]
  exact hk
theorem node_f81 (d : Nat) (k1 k2 : Nat) (v1 v2 : Value) (hi : ops[i]? = some o) (hgd : Region.wanted o (yielded ops a.tmps) = true) (ho : o.op = .call { callee := .value (.func 81), args := #[.tmp k1, .tmp k2], argTypes := #[50, 50] }) (hd : o.dst = some d)
    (hp1 : a.tmps[k1]?.getD undef = v1)
    (hp2 : a.tmps[k2]?.getD undef = v2)
    (h : Calls Tryd.prog 81 #[v1, v2] w fun e w' => ∃ u, e = .returned u ∧ S w' ∧ wpAnyH Tryd.prog md ops Q S fuel (listed.setIfInBounds i true) (a.put (some d) u) w')
    (hs : AllReadyH Tryd.prog md ops Q S fuel listed a w rs) : AllReadyH Tryd.prog md ops Q S fuel listed a w (i :: rs) := by
  refine AllReadyH.cons hi (fun K hK => ?_) hs
  rw [if_pos hgd]
  unfold Oper.wp execOp
  simp [ho, go_sem, hp1, hp2]
  refine h.mono ?_
  rintro e w' ⟨u, rfl, h1, h2⟩
  have hk := hK.out _ _ h1 (fun _ => h2)
  rw [hd]
  exact hk
theorem node_f82 (d : Nat) (k1 k2 : Nat) (v1 v2 : Value) (hi : ops[i]? = some o) (hgd : Region.wanted o (yielded ops a.tmps) = true) (ho : o.op = .call { callee := .value (.func 82), args := #[.tmp k1, .tmp k2], argTypes := #[50, 50] }) (hd : o.dst = some d)
    (hp1 : a.tmps[k1]?.getD undef = v1)
    (hp2 : a.tmps[k2]?.getD undef = v2)
    (h : Calls Tryd.prog 82 #[v1, v2] w fun e w' => ∃ u, e = .returned u ∧ S w' ∧ wpAnyH Tryd.prog md ops Q S fuel (listed.setIfInBounds i true) (a.put (some d) u) w')
    (hs : AllReadyH Tryd.prog md ops Q S fuel listed a w rs) : AllReadyH Tryd.prog md ops Q S fuel listed a w (i :: rs) := by
  refine AllReadyH.cons hi (fun K hK => ?_) hs
  rw [if_pos hgd]
  unfold Oper.wp execOp
  simp [ho, go_sem, hp1, hp2]
  refine h.mono ?_
  rintro e w' ⟨u, rfl, h1, h2⟩
  have hk := hK.out _ _ h1 (fun _ => h2)
  rw [hd]
  exact hk
theorem node_f61 (d : Nat) (k1 : Nat) (v1 : Value) (hi : ops[i]? = some o) (hgd : Region.wanted o (yielded ops a.tmps) = true) (ho : o.op = .call { callee := .value (.func 61), args := #[.tmp k1], argTypes := #[52] }) (hd : o.dst = some d)
    (hp1 : a.tmps[k1]?.getD undef = v1)
    (h : Calls Tryd.prog 61 #[v1] w fun e w' => ∃ u, e = .returned u ∧ S w' ∧ wpAnyH Tryd.prog md ops Q S fuel (listed.setIfInBounds i true) (a.put (some d) u) w')
    (hs : AllReadyH Tryd.prog md ops Q S fuel listed a w rs) : AllReadyH Tryd.prog md ops Q S fuel listed a w (i :: rs) := by
  refine AllReadyH.cons hi (fun K hK => ?_) hs
  rw [if_pos hgd]
  unfold Oper.wp execOp
  simp [ho, go_sem, hp1]
  refine h.mono ?_
  rintro e w' ⟨u, rfl, h1, h2⟩
  have hk := hK.out _ _ h1 (fun _ => h2)
  rw [hd]
  exact hk
theorem node_f69 (d : Nat) (k1 k2 : Nat) (v1 v2 : Value) (hi : ops[i]? = some o) (hgd : Region.wanted o (yielded ops a.tmps) = true) (ho : o.op = .call { callee := .value (.func 69), args := #[.tmp k1, .tmp k2], argTypes := #[52, 52] }) (hd : o.dst = some d)
    (hp1 : a.tmps[k1]?.getD undef = v1)
    (hp2 : a.tmps[k2]?.getD undef = v2)
    (h : Calls Tryd.prog 69 #[v1, v2] w fun e w' => ∃ u, e = .returned u ∧ S w' ∧ wpAnyH Tryd.prog md ops Q S fuel (listed.setIfInBounds i true) (a.put (some d) u) w')
    (hs : AllReadyH Tryd.prog md ops Q S fuel listed a w rs) : AllReadyH Tryd.prog md ops Q S fuel listed a w (i :: rs) := by
  refine AllReadyH.cons hi (fun K hK => ?_) hs
  rw [if_pos hgd]
  unfold Oper.wp execOp
  simp [ho, go_sem, hp1, hp2]
  refine h.mono ?_
  rintro e w' ⟨u, rfl, h1, h2⟩
  have hk := hK.out _ _ h1 (fun _ => h2)
  rw [hd]
  exact hk
theorem node_store52 (k j X : Nat) (x0 x1 : Value) (b : Bool) (p : Option Addr) (n c : Nat) (hi : ops[i]? = some o) (hgd : o.guard = none) (ho : o.op = .store 52 (.tmp k) (.tmp j)) (hd : o.dst = none)
    (hp : a.tmps[k]?.getD undef = .pointer (some ⟨X, 0, none⟩)) (hv : a.tmps[j]?.getD undef = .agg #[.bool b, .slice p n c])
    (hh : w.heap[X]? = some (.cells #[x0, x1] 52)) (hS : S ((w.setCell ⟨X, 0, none⟩ (.bool b)).setCell ⟨X, 1, none⟩ (.slice p n c)))
    (h : wpAnyH Tryd.prog md ops Q S fuel (listed.setIfInBounds i true) a ((w.setCell ⟨X, 0, none⟩ (.bool b)).setCell ⟨X, 1, none⟩ (.slice p n c)))
    (hs : AllReadyH Tryd.prog md ops Q S fuel listed a w rs) : AllReadyH Tryd.prog md ops Q S fuel listed a w (i :: rs) := by
  refine AllReadyH.cons hi (fun K hK => ?_) hs
  have hw : Region.wanted o (yielded ops a.tmps) = true := by simp [Region.wanted, hgd]
  rw [if_pos hw]
  have hk := hK.out _ _ hS (fun _ => h)
  obtain ⟨hc0, hc1⟩ := cells2_of hh
  have hf0 := free_box hh 0
  have hf1 := free_box hh 1
  unfold Oper.wp execOp
  simp [ho, go_sem, hp, hv, hc0, hf0, hc1, hf1]
  rw [hd]
  exact hk
end
/-- three boxes that a call begins with -/
theorem boxes3 (w : World) (cx cy cr : Array Value) (tx ty tr : TypeId) : ∃ X Y R w1, ((w.alloc (.cells cx tx)).alloc (.cells cy ty)).alloc (.cells cr tr) = w1 ∧ X = w.heap.size ∧ Y = w.heap.size + 1 ∧ R = w.heap.size + 1 + 1 ∧ Hid (w1.heap[X]? = some (.cells cx tx)) ∧ Hid (w1.heap[Y]? = some (.cells cy ty)) ∧ Hid (w1.heap[R]? = some (.cells cr tr)) ∧ Hid (Below w.heap.size w w1) ∧ Hid (w.heap.size ≤ R) ∧ Hid (X ≠ R) ∧ Hid (Y ≠ R) := by
  refine ⟨_, _, _, _, rfl, rfl, rfl, rfl, ?_, ?_, ?_, ?_, ?_, ?_, ?_⟩
  · have h1 := heap_alloc_new w (.cells cx tx)
    exact (heap_alloc_old _ _ (by simp; omega)).trans ((heap_alloc_old _ _ (by simp)).trans h1)
  · have h1 := heap_alloc_new (w.alloc (.cells cx tx)) (.cells cy ty)
    have e : (w.alloc (.cells cx tx)).heap.size = w.heap.size + 1 := by simp
    rw [e] at h1
    exact (heap_alloc_old _ _ (by simp)).trans h1
  · have h1 := heap_alloc_new ((w.alloc (.cells cx tx)).alloc (.cells cy ty)) (.cells cr tr)
    have e : ((w.alloc (.cells cx tx)).alloc (.cells cy ty)).heap.size = w.heap.size + 1 + 1 := by simp
    rw [e] at h1
    exact h1
  · exact (((Below.refl _ w).alloc (Nat.le_refl _) _).alloc (by simp) _).alloc (by simp; omega) _
  · show w.heap.size ≤ _; omega
  · show _ ≠ _; omega
  · show _ ≠ _; omega
theorem sg_mul (z1 z2 : Int) : ((decide (z1 < 0) != decide (z2 < 0)) && decide (0 < z1.natAbs * z2.natAbs)) = decide (z1 * z2 < 0) := by
  rw [Bool.eq_iff_iff]
  simp only [Bool.and_eq_true, bne_iff_ne, ne_eq, decide_eq_decide, decide_eq_true_eq]
  rcases Int.lt_trichotomy z1 0 with h1 | h1 | h1 <;> rcases Int.lt_trichotomy z2 0 with h2 | h2 | h2
  · have := Int.mul_pos_of_neg_of_neg h1 h2
    omega
  · subst h2; simp
  · have := Int.mul_neg_of_neg_of_pos h1 h2
    have h3 : 0 < z1.natAbs * z2.natAbs := Nat.mul_pos (by omega) (by omega)
    omega
  · subst h1; simp
  · subst h1; simp
  · subst h1; simp
  · have := Int.mul_neg_of_pos_of_neg h1 h2
    have h3 : 0 < z1.natAbs * z2.natAbs := Nat.mul_pos (by omega) (by omega)
    omega
  · subst h2; simp
  · have := Int.mul_pos h1 h2
    omega
set_option maxRecDepth 100000 in
set_option maxHeartbeats 2000000 in
theorem mul_any (u v : Value) (z1 z2 : Int) (w : World) (hu : IntZ w u z1) (hv : IntZ w v z2) (hp : z1.natAbs * z2.natAbs < 4294967296) :
    Calls Tryd.prog 43 #[u, v] w fun e w' => ∃ x, e = .returned x ∧ IntZ w' x (z1 * z2) ∧ Below w.heap.size w w' := by
  obtain ⟨a1, n1, c1, rfl, hl1⟩ := hu.sh
  obtain ⟨a2, n2, c2, rfl, hl2⟩ := hv.sh
  obtain ⟨b1, hb1⟩ : ∃ b, b = decide (z1 < 0) := ⟨_, rfl⟩
  obtain ⟨b2, hb2⟩ : ∃ b, b = decide (z2 < 0) := ⟨_, rfl⟩
  rw [← hb1, ← hb2]
  have HN1 := hid hb1
  have HN2 := hid hb2
  obtain ⟨X, Y, R, w1, hw1, hX, hY, hR, HX, HY, HR, HB1, HRW, HXR, HYR⟩ := boxes3 w #[.bool b1, .slice a1 n1 c1] #[.bool b2, .slice a2 n2 c2] #[.bool false, .slice none 0 0] 52 52 52
  have HL1 := hid (hl1.below HB1.out)
  have HL2 := hid (hl2.below HB1.out)
  have HW1 := hid hw1
  have HXE := hid hX
  have HYE := hid hY
  have HRE := hid hR
  clear hu hv hl1 hl2 hb1 hb2 hw1 hX hY hR
  go_enter Tryd.func43, Tryd.ntmps43
  go_upto_region 1 with fail
  rw [HW1.out, ← HRE.out, ← HYE.out, ← HXE.out]
  clear HW1 HXE HYE HRE
  have HSG : Hid (decide (z1 * z2 < 0) = ((b1 != b2) && decide (0 < z1.natAbs * z2.natAbs))) := by rw [HN1.out, HN2.out]; exact (sg_mul z1 z2).symm
  have HAB : Hid ((z1 * z2).natAbs = z1.natAbs * z2.natAbs) := Int.natAbs_mul z1 z2
  refine wp_region_held_drew (S := fun w' => w'.heap[X]? = some (.cells #[.bool b1, .slice a1 n1 c1] 52) ∧ w'.heap[Y]? = some (.cells #[.bool b2, .slice a2 n2 c2] 52)) (by kernel_rfl) ⟨(((Below.refl _ w1).drew).block X (heap_lt HX.out)).trans HX.out, (((Below.refl _ w1).drew).block Y (heap_lt HY.out)).trans HY.out⟩ (fun hHeld => ?_)
  have HU0 : Hid (Below w1.heap.size w1 w1.drew) := (Below.refl _ w1).drew
  have HBU : Hid (Below w.heap.size w w1.drew) := HB1.out.drew
  have HRU := hid (cells_box HR.out HU0.out)
  generalize w1.drew = u0 at *
  refine take_at (i := 0) 5 (v := .pointer (some ⟨X, 0, none⟩)) rfl (by kernel_rfl) (by kernel_rfl) (by kernel_rfl) rfl (fun _ _ _ h => h) (by rfl) (fun w hSw => ?_) hHeld ?_
  · (try dsimp only at hSw); go_simp
  simp only [Act.put, List.setIfInBounds_toArray, List.set_cons_zero, List.set_cons_succ]
  refine take_at (i := 1) 6 (v := .bool b1) rfl (by kernel_rfl) (by kernel_rfl) (by kernel_rfl) rfl (fun _ _ _ h => h) (by rfl) (fun w hSw => ?_) hHeld ?_
  · (try dsimp only at hSw); obtain ⟨sx, sy⟩ := hSw; obtain ⟨x0, x1⟩ := cells2_of sx; obtain ⟨y0, y1⟩ := cells2_of sy; go_simp
  simp only [Act.put, List.setIfInBounds_toArray, List.set_cons_zero, List.set_cons_succ]
  refine take_at (i := 2) 7 (v := .pointer (some ⟨Y, 0, none⟩)) rfl (by kernel_rfl) (by kernel_rfl) (by kernel_rfl) rfl (fun _ _ _ h => h) (by rfl) (fun w hSw => ?_) hHeld ?_
  · (try dsimp only at hSw); go_simp
  simp only [Act.put, List.setIfInBounds_toArray, List.set_cons_zero, List.set_cons_succ]
  refine take_at (i := 3) 8 (v := .bool b2) rfl (by kernel_rfl) (by kernel_rfl) (by kernel_rfl) rfl (fun _ _ _ h => h) (by rfl) (fun w hSw => ?_) hHeld ?_
  · (try dsimp only at hSw); obtain ⟨sx, sy⟩ := hSw; obtain ⟨x0, x1⟩ := cells2_of sx; obtain ⟨y0, y1⟩ := cells2_of sy; go_simp
  simp only [Act.put, List.setIfInBounds_toArray, List.set_cons_zero, List.set_cons_succ]
  refine take_at (i := 4) 9 (v := .bool (b1 != b2)) rfl (by kernel_rfl) (by kernel_rfl) (by kernel_rfl) rfl (fun _ _ _ h => h) (by rfl) (fun w hSw => ?_) hHeld ?_
  · (try dsimp only at hSw); go_simp; first | done | (cases b1 <;> cases b2 <;> rfl)
  simp only [Act.put, List.setIfInBounds_toArray, List.set_cons_zero, List.set_cons_succ]
  refine take_at (i := 5) 10 (v := .pointer (some ⟨X, 1, none⟩)) rfl (by kernel_rfl) (by kernel_rfl) (by kernel_rfl) rfl (fun _ _ _ h => h) (by rfl) (fun w hSw => ?_) hHeld ?_
  · (try dsimp only at hSw); go_simp
  simp only [Act.put, List.setIfInBounds_toArray, List.set_cons_zero, List.set_cons_succ]
  refine take_at (i := 6) 11 (v := .slice a1 n1 c1) rfl (by kernel_rfl) (by kernel_rfl) (by kernel_rfl) rfl (fun _ _ _ h => h) (by rfl) (fun w hSw => ?_) hHeld ?_
  · (try dsimp only at hSw); obtain ⟨sx, sy⟩ := hSw; obtain ⟨x0, x1⟩ := cells2_of sx; obtain ⟨y0, y1⟩ := cells2_of sy; go_simp
  simp only [Act.put, List.setIfInBounds_toArray, List.set_cons_zero, List.set_cons_succ]
  refine take_at (i := 7) 12 (v := .pointer (some ⟨Y, 1, none⟩)) rfl (by kernel_rfl) (by kernel_rfl) (by kernel_rfl) rfl (fun _ _ _ h => h) (by rfl) (fun w hSw => ?_) hHeld ?_
  · (try dsimp only at hSw); go_simp
  simp only [Act.put, List.setIfInBounds_toArray, List.set_cons_zero, List.set_cons_succ]
  refine take_at (i := 8) 13 (v := .slice a2 n2 c2) rfl (by kernel_rfl) (by kernel_rfl) (by kernel_rfl) rfl (fun _ _ _ h => h) (by rfl) (fun w hSw => ?_) hHeld ?_
  · (try dsimp only at hSw); obtain ⟨sx, sy⟩ := hSw; obtain ⟨x0, x1⟩ := cells2_of sx; obtain ⟨y0, y1⟩ := cells2_of sy; go_simp
  simp only [Act.put, List.setIfInBounds_toArray, List.set_cons_zero, List.set_cons_succ]
  refine wpAnyH_ready (rs := [9]) (by kernel_rfl) (by simp) ?_
  refine node_f64 14 11 13 (.slice a1 n1 c1) (.slice a2 n2 c2) rfl rfl rfl rfl rfl rfl ?_ AllReadyH.nil
  · refine (times_any _ _ z1.natAbs z2.natAbs _ (HL1.out.below HU0.out) (HL2.out.below HU0.out) hp).mono ?_
    rintro e w2 ⟨x2, rfl, hl2, hb2⟩
    have HL2 := hid hl2
    have HB2 := hid (below_step HBU.out hb2)
    have HR2 := hid (cells_box HRU.out hb2)
    replace hHeld : w2.heap[X]? = some (.cells #[.bool b1, .slice a1 n1 c1] 52) ∧ w2.heap[Y]? = some (.cells #[.bool b2, .slice a2 n2 c2] 52) := ⟨cells_box hHeld.1 hb2, cells_box hHeld.2 hb2⟩
    obtain ⟨p2, m2, q2, rfl⟩ : ∃ p m q, x2 = .slice p m q := (by obtain ⟨p, q, e, _⟩ := hl2; exact ⟨p, _, q, e⟩)
    clear hl2 hb2
    refine ⟨_, rfl, hHeld, ?_⟩
    simp only [Act.put, List.setIfInBounds_toArray, List.set_cons_zero, List.set_cons_succ]
    refine wpAnyH_ready (rs := [10]) (by kernel_rfl) (by simp) ?_
    refine node_f47 15 9 14 (.bool (b1 != b2)) (.slice p2 m2 q2) rfl rfl rfl rfl rfl rfl ?_ AllReadyH.nil
    · refine (made_any (b1 != b2) _ (z1.natAbs * z2.natAbs) _ HL2.out).mono ?_
      rintro e w3 ⟨rfl, hb3⟩
      have HL3 := hid (HL2.out.below hb3)
      have HB3 := hid (below_step HB2.out hb3)
      have HR3 := hid (cells_box HR2.out hb3)
      replace hHeld : w3.heap[X]? = some (.cells #[.bool b1, .slice a1 n1 c1] 52) ∧ w3.heap[Y]? = some (.cells #[.bool b2, .slice a2 n2 c2] 52) := ⟨cells_box hHeld.1 hb3, cells_box hHeld.2 hb3⟩
      clear hb3
      refine ⟨_, rfl, hHeld, ?_⟩
      simp only [Act.put, List.setIfInBounds_toArray, List.set_cons_zero, List.set_cons_succ]
      refine wpAnyH_ready (rs := [11]) (by kernel_rfl) (by simp) ?_
      refine node_store52 4 15 R _ _ ((b1 != b2) && decide (0 < z1.natAbs * z2.natAbs)) p2 m2 q2 rfl rfl rfl rfl rfl rfl HR3.out ⟨(off2 X HXR.out).trans hHeld.1, (off2 Y HYR.out).trans hHeld.2⟩ ?_ AllReadyH.nil
      · skip
        refine wpAnyH_done (by kernel_rfl) ?_ _
        clear HX HY hHeld
        obtain ⟨r0, r1⟩ := cells2_of HR3.out
        go_wp2_with fail
        exact bodyPost_ret (v := .agg #[.bool ((b1 != b2) && decide (0 < z1.natAbs * z2.natAbs)), .slice p2 m2 q2]) (by simp [results, Tryd.results43, go_sem, r0, r1]) rfl
          ⟨_, rfl, ⟨.slice p2 m2 q2, by rw [HSG.out], by rw [HAB.out]; exact HL3.out.off (off_bool r0) off2⟩, below_set (below_set HB3.out HRW.out) HRW.out⟩
end Go.Proofs.YtlhmidecjiihcaaDoor
