/-
  Integers: Sub (70), Cmp (46); sizes are divided (78).
-/
import Derived.Test.YtlhmidecjiihcaaDoorWalkJ
namespace Go.Proofs.YtlhmidecjiihcaaDoor
open Go.RowKit
set_option maxRecDepth 100000 in
set_option maxHeartbeats 4000000 in
theorem sub_any (u v : Value) (z1 z2 : Int) (w : World) (hu : IntZ w u z1) (hv : IntZ w v z2) (hz1 : z1.natAbs < 2147483648) (hz2 : z2.natAbs < 2147483648) :
    Calls Tryd.prog 70 #[u, v] w fun e w' => ∃ x, e = .returned x ∧ IntZ w' x (z1 - z2) ∧ Below w.heap.size w w' := by
  have HI1 := hid hu
  have HI2 := hid hv
  obtain ⟨a1, n1, c1, rfl, hl1⟩ := hu.sh
  obtain ⟨a2, n2, c2, rfl, hl2⟩ := hv.sh
  obtain ⟨b1, hb1⟩ : ∃ b, b = decide (z1 < 0) := ⟨_, rfl⟩
  obtain ⟨b2, hb2⟩ : ∃ b, b = decide (z2 < 0) := ⟨_, rfl⟩
  rw [← hb1, ← hb2]
  have HN1 := hid hb1
  have HN2 := hid hb2
  obtain ⟨X, Y, R, w1, hw1, hX, hY, hR, HX, HY, HR, HB1, HRW, HXR, HYR⟩ := boxes3 w #[.bool b1, .slice a1 n1 c1] #[.bool b2, .slice a2 n2 c2] #[.bool false, .slice none 0 0] 52 52 52
  have HL1 := hid (hl1.below HB1.out)
  have HL2 := hid (hl2.below HB1.out)
  have HW1 := hid hw1
  have HXE := hid hX
  have HYE := hid hY
  have HRE := hid hR
  clear hu hv hl1 hl2 hb1 hb2 hw1 hX hY hR
  go_enter Tryd.func70, Tryd.ntmps70
  go_upto_region 1 with fail
  rw [HW1.out, ← HRE.out, ← HYE.out, ← HXE.out]
  clear HW1 HXE HYE HRE
  have HB1r := HB1
  have HI1 : Hid (IntZ w (.agg #[.bool b1, .slice a1 n1 c1]) z1) := by rw [HN1.out]; exact HI1
  have HI2 : Hid (IntZ w (.agg #[.bool b2, .slice a2 n2 c2]) z2) := by rw [HN2.out]; exact HI2
  refine wp_region_held_drew (S := fun w' => w'.heap[X]? = some (.cells #[.bool b1, .slice a1 n1 c1] 52) ∧ w'.heap[Y]? = some (.cells #[.bool b2, .slice a2 n2 c2] 52)) (by kernel_rfl) ⟨(((Below.refl _ w1).drew).block X (heap_lt HX.out)).trans HX.out, (((Below.refl _ w1).drew).block Y (heap_lt HY.out)).trans HY.out⟩ (fun hHeld => ?_)
  have HU0 : Hid (Below w1.heap.size w1 w1.drew) := (Below.refl _ w1).drew
  have HBU : Hid (Below w.heap.size w w1.drew) := HB1.out.drew
  have HRU := hid (cells_box HR.out HU0.out)
  generalize w1.drew = u0 at *
  refine take_at (i := 0) 5 (v := .agg #[.bool b1, .slice a1 n1 c1]) rfl (by kernel_rfl) (by kernel_rfl) (by kernel_rfl) rfl (fun _ _ _ h => h) (by rfl) (fun w hSw => ?_) hHeld ?_
  · (try dsimp only at hSw); obtain ⟨sx, sy⟩ := hSw; obtain ⟨x0, x1⟩ := cells2_of sx; obtain ⟨y0, y1⟩ := cells2_of sy; go_simp
  simp only [Act.put, List.setIfInBounds_toArray, List.set_cons_zero, List.set_cons_succ]
  refine take_at (i := 1) 6 (v := .agg #[.bool b2, .slice a2 n2 c2]) rfl (by kernel_rfl) (by kernel_rfl) (by kernel_rfl) rfl (fun _ _ _ h => h) (by rfl) (fun w hSw => ?_) hHeld ?_
  · (try dsimp only at hSw); obtain ⟨sx, sy⟩ := hSw; obtain ⟨x0, x1⟩ := cells2_of sx; obtain ⟨y0, y1⟩ := cells2_of sy; go_simp
  simp only [Act.put, List.setIfInBounds_toArray, List.set_cons_zero, List.set_cons_succ]
  refine wpAnyH_ready (rs := [2]) (by kernel_rfl) (by simp) ?_
  refine node_f61 7 6 (.agg #[.bool b2, .slice a2 n2 c2]) rfl rfl rfl rfl rfl ?_ AllReadyH.nil
  · refine (neg_any _ z2 _ (HI2.out.below (below_step HB1r.out HU0.out))).mono ?_
    rintro e w5 ⟨x5, rfl, hz5, hb5⟩
    have HB5 := hid (below_step HBU.out hb5)
    have HR5 := hid (cells_box HRU.out hb5)
    replace hHeld : w5.heap[X]? = some (.cells #[.bool b1, .slice a1 n1 c1] 52) ∧ w5.heap[Y]? = some (.cells #[.bool b2, .slice a2 n2 c2] 52) := ⟨cells_box hHeld.1 hb5, cells_box hHeld.2 hb5⟩
    have HZ5 := hid hz5
    have HUB := hid (below_step HU0.out hb5)
    obtain ⟨p5, m5, q5, rfl, _⟩ := hz5.sh
    clear hz5 hb5
    refine ⟨_, rfl, hHeld, ?_⟩
    simp only [Act.put, List.setIfInBounds_toArray, List.set_cons_zero, List.set_cons_succ]
    refine wpAnyH_ready (rs := [3]) (by kernel_rfl) (by simp) ?_
    refine node_f69 8 5 7 (.agg #[.bool b1, .slice a1 n1 c1]) (.agg #[.bool (decide (-z2 < 0)), .slice p5 m5 q5]) rfl rfl rfl rfl rfl rfl ?_ AllReadyH.nil
    · refine (add_any _ _ z1 (-z2) _ (HI1.out.below (below_step HB1r.out HUB.out)) HZ5.out hz1 (by omega)).mono ?_
      rintro e w6 ⟨x6, rfl, hz6, hb6⟩
      have HB6 := hid (below_step HB5.out hb6)
      have HR6 := hid (cells_box HR5.out hb6)
      replace hHeld : w6.heap[X]? = some (.cells #[.bool b1, .slice a1 n1 c1] 52) ∧ w6.heap[Y]? = some (.cells #[.bool b2, .slice a2 n2 c2] 52) := ⟨cells_box hHeld.1 hb6, cells_box hHeld.2 hb6⟩
      have HZ6 := hid hz6
      obtain ⟨p6, m6, q6, rfl, _⟩ := hz6.sh
      clear hz6 hb6
      refine ⟨_, rfl, hHeld, ?_⟩
      simp only [Act.put, List.setIfInBounds_toArray, List.set_cons_zero, List.set_cons_succ]
      refine wpAnyH_ready (rs := [4]) (by kernel_rfl) (by simp) ?_
      refine node_store52 4 8 R _ _ _ p6 m6 q6 rfl rfl rfl rfl rfl rfl HR6.out ⟨(off2 X HXR.out).trans hHeld.1, (off2 Y HYR.out).trans hHeld.2⟩ ?_ AllReadyH.nil
      · skip
        refine wpAnyH_done (by kernel_rfl) ?_ _
        clear HX HY hHeld
        obtain ⟨r0, r1⟩ := cells2_of HR6.out
        go_wp2_with fail
        exact bodyPost_ret (v := .agg #[.bool (decide (z1 + -z2 < 0)), .slice p6 m6 q6]) (by simp [results, Tryd.results70, go_sem, r0, r1]) rfl
          ⟨_, rfl, by rw [Int.sub_eq_add_neg]; exact HZ6.out.off (off_bool r0) off2, below_set (below_set HB6.out HRW.out) HRW.out⟩
set_option maxRecDepth 100000 in
set_option maxHeartbeats 2000000 in
theorem cmp_any (u v : Value) (z1 z2 : Int) (w : World) (hu : IntZ w u z1) (hv : IntZ w v z2) (hz1 : z1.natAbs < 2147483648) (hz2 : z2.natAbs < 2147483648) :
    Calls Tryd.prog 46 #[u, v] w fun e w' => e = .returned (.int .i64 (if z1 - z2 = 0 then 0 else if z1 - z2 < 0 then -1 else 1)) ∧ Below w.heap.size w w' := by
  obtain ⟨r, hr⟩ : ∃ r : Int, r = if z1 - z2 = 0 then 0 else if z1 - z2 < 0 then -1 else 1 := ⟨_, rfl⟩
  rw [← hr]
  have HRV := hid hr
  clear hr
  have SC : Hid (∀ w', Below w.heap.size w w' → Calls Tryd.prog 70 #[u, v] w' fun e w'' => ∃ x, e = .returned x ∧ IntZ w'' x (z1 - z2) ∧ Below w'.heap.size w' w'') := fun w' hb => sub_any u v z1 z2 w' (hu.below hb) (hv.below hb) hz1 hz2
  obtain ⟨a1, n1, c1, rfl, _⟩ := hu.sh
  obtain ⟨a2, n2, c2, rfl, _⟩ := hv.sh
  clear hu hv
  generalize decide (z1 < 0) = b1 at *
  generalize decide (z2 < 0) = b2 at *
  obtain ⟨X, Y, w1, hw1, hX, hY, HX, HY, HB1, _, _⟩ := boxes2 w #[.bool b1, .slice a1 n1 c1] #[.bool b2, .slice a2 n2 c2] 52 52
  have HW1 := hid hw1
  have HXE := hid hX
  have HYE := hid hY
  clear hw1 hX hY
  go_enter Tryd.func46, Tryd.ntmps46
  go_upto_region 1 with fail
  rw [HW1.out, ← HYE.out, ← HXE.out]
  clear HW1 HXE HYE
  obtain ⟨x0, x1⟩ := cells2_of HX.out
  obtain ⟨y0, y1⟩ := cells2_of HY.out
  have SC1 := hid (SC.out w1 HB1.out)
  go_wp2_with (first
    | (go_at_call 70; refine SC1.out.mono ?_; rintro e w3 ⟨x3, rfl, hz3, hb3⟩; have HB3 := hid (below_step HB1.out hb3); have SG := hid (sign_any x3 (z1 - z2) w3 hz3); rw [← HRV.out] at SG; obtain ⟨p3, m3, q3, rfl, _⟩ := hz3.sh; clear hz3 hb3)
    | (go_at_call 34; refine SG.out.mono ?_; rintro e w4 ⟨rfl, hb4⟩; have HB4 := hid (below_step HB3.out hb4); clear hb4)
    | fail)
  go_ret
  exact ⟨rfl, HB4.out⟩
set_option maxRecDepth 100000 in
set_option maxHeartbeats 2000000 in
theorem part_any (u v : Value) (a b : Nat) (w : World) (hu : Lb w u a) (hv : Lb w v b) (hb0 : b ≠ 0) (hab : b ≤ a) :
    Calls Tryd.prog 78 #[u, v] w fun e w' => ∃ x y, e = .returned (.tuple #[x, y]) ∧ Lb w' x (a / b) ∧ Lb w' y (a % b) ∧ Below w.heap.size w w' := by
  have CM := hid (compare_any u v a b w hu hv)
  obtain ⟨r, hr, hr0⟩ : ∃ r : Int, (if a < b then -1 else if a = b then 0 else 1) = r ∧ 0 ≤ r := by
    rw [if_neg (by omega)]; split <;> exact ⟨_, rfl, by decide⟩
  rw [hr] at CM
  have BW : Hid (∀ w', Below w.heap.size w w' → Calls Tryd.prog 50 #[u, .int .u32 (b : Int)] w' fun e w'' => ∃ x, e = .returned (.tuple #[x, .int .u32 ((a % b : Nat) : Int)]) ∧ Lb w'' x (a / b) ∧ Below w'.heap.size w' w'') := fun w' hb => byWord_any u a b w' (hu.below hb) (by omega) (hv.p hb0).choose_spec.choose_spec.2.2.1
  obtain ⟨g2, c2, rfl, hc2, hb2, k2⟩ := hv.p hb0
  have K2 : Hid (∀ w', Below w.heap.size w w' → w'.cell? ⟨g2, 0, none⟩ = some (.int .u32 (b : Int))) := fun w' hb => (hb.cell (World.block_lt_of_cell? w _ k2)).trans k2
  obtain ⟨g1, c1, rfl, hc1, ha1, k1⟩ := hu.p (by omega)
  have hmb : a % b < 4294967296 := Nat.lt_of_lt_of_le (Nat.mod_lt _ (by omega)) (by omega)
  clear hu hv hr k1 k2
  generalize a % b = m at *
  generalize a / b = q at *
  go_enter Tryd.func78, Tryd.ntmps78
  go_upto_region 3 with (first | (go_at_call 68; refine CM.out.mono ?_; rintro e w1 ⟨rfl, hb1⟩; have HB1 := hid hb1; clear hb1) | fail)
  have k2 := K2.out w1 HB1.out
  have BW1 := hid (BW.out w1 HB1.out)
  go_upto_region 5 with (first | (go_at_call 50; refine BW1.out.mono ?_; rintro e w2 ⟨x2, rfl, hl2, hb2'⟩; have HB2 := hid (below_step HB1.out hb2'); have HL2 := hid hl2; obtain ⟨p2, m2, q2, rfl⟩ : ∃ p m q, x2 = .slice p m q := (by obtain ⟨p, q, e, _⟩ := hl2; exact ⟨p, _, q, e⟩); clear hl2 hb2') | fail)
  have HO3 := hid (own_new w2 [m] w2.heap.size (Nat.le_refl _) (by simp))
  have HB3 := hid (HB2.out.alloc HB2.out.size (.cells (([m] : List Nat).map u4).toArray 94))
  have HL3 := hid (HL2.out.below (ba w2 (.cells (([m] : List Nat).map u4).toArray 94)))
  have TC := hid (trim_own _ _ _ _ m [m] _ HO3.out hmb rfl (fun j hj => by rcases j with _ | j <;> first | exact absurd hj (by decide) | rfl) (by simp))
  go_wp2_with (first | (go_at_call 48; refine TC.out.mono ?_; rintro e w4 ⟨v4, rfl, hl4, hw4⟩; rw [hw4]; have HL4 := hid hl4; clear hl4 hw4) | fail)
  go_ret2
  exact ⟨_, v4, by rfl, HL3.out, HL4.out, HB3.out⟩
end Go.Proofs.YtlhmidecjiihcaaDoor
