/-
  Rationals: Div (28) by 1, Fits (32), Num (19); the ratio of a belt (40).
-/
import Derived.Test.YtlhmidecjiihcaaDoorWalkP
import Derived.Test.YtlhmidecjiihcaaDoorWalkH
namespace Go.Proofs.YtlhmidecjiihcaaDoor
open Go.RowKit
set_option maxRecDepth 100000 in
set_option maxHeartbeats 4000000 in
theorem rdiv1_any (u v : Value) (k : Nat) (w : World) (hu : RatZ w u k) (hv : RatZ w v 1) (hk : 1 ≤ k) (hk2 : k < 4294967296) :
    Calls Tryd.prog 28 #[u, v] w fun e w' => ∃ x, e = .returned x ∧ RatZ w' x k ∧ Below w.heap.size w w' := by
  obtain ⟨a1, n1, c1, g1, d1, rfl, hn1, hd1⟩ := hu
  obtain ⟨b1, hb1⟩ : ∃ b, b = decide ((k : Int) < 0) := ⟨_, rfl⟩
  rw [← hb1] at hn1 ⊢
  have HN1 : Hid (∀ w', Below w.heap.size w w' → IntZ w' (.agg #[.bool b1, .slice a1 n1 c1]) ((k : Int))) := fun w' hb => hn1.below hb
  have HD1 : Hid (∀ w', Below w.heap.size w w' → IntZ w' (.agg #[.bool false, .slice (some ⟨g1, 0, none⟩) 1 d1]) 1) := fun w' hb => hd1.below hb
  have HBE1 := hid hb1
  have HA1 : Hid (∀ w', Below w.heap.size w w' → RatZ w' (.agg #[.bool b1, .slice a1 n1 c1, .bool false, .slice (some ⟨g1, 0, none⟩) 1 d1]) ((k : Int))) := fun w' hb => ⟨a1, n1, c1, g1, d1, by rw [HBE1.out], by rw [← HBE1.out]; exact HN1.out w' hb, HD1.out w' hb⟩
  clear hn1 hd1 hb1
  obtain ⟨a2, n2, c2, g2, d2, rfl, hn2, hd2⟩ := hv
  obtain ⟨b2, hb2⟩ : ∃ b, b = decide ((1 : Int) < 0) := ⟨_, rfl⟩
  rw [← hb2] at hn2 ⊢
  have HN2 : Hid (∀ w', Below w.heap.size w w' → IntZ w' (.agg #[.bool b2, .slice a2 n2 c2]) ((1 : Int))) := fun w' hb => hn2.below hb
  have HD2 : Hid (∀ w', Below w.heap.size w w' → IntZ w' (.agg #[.bool false, .slice (some ⟨g2, 0, none⟩) 1 d2]) 1) := fun w' hb => hd2.below hb
  have HBE2 := hid hb2
  have HA2 : Hid (∀ w', Below w.heap.size w w' → RatZ w' (.agg #[.bool b2, .slice a2 n2 c2, .bool false, .slice (some ⟨g2, 0, none⟩) 1 d2]) ((1 : Int))) := fun w' hb => ⟨a2, n2, c2, g2, d2, by rw [HBE2.out], by rw [← HBE2.out]; exact HN2.out w' hb, HD2.out w' hb⟩
  clear hn2 hd2 hb2
  obtain ⟨X, Y, R, w1, hw1, hX, hY, hR, HX, HY, HR, HB1, HRW, HXR, HYR⟩ := boxes3 w #[.bool b1, .slice a1 n1 c1, .bool false, .slice (some ⟨g1, 0, none⟩) 1 d1] #[.bool b2, .slice a2 n2 c2, .bool false, .slice (some ⟨g2, 0, none⟩) 1 d2] #[.bool false, .slice none 0 0, .bool false, .slice none 0 0] 54 54 54
  have HW1 := hid hw1
  have HXE := hid hX
  have HYE := hid hY
  have HRE := hid hR
  clear hw1 hX hY hR
  go_enter Tryd.func28, Tryd.ntmps28
  go_upto_region 1 with fail
  rw [HW1.out, ← HRE.out, ← HYE.out, ← HXE.out]
  clear HW1 HXE HYE HRE
  refine wp_region_held_drew (S := fun w' => w'.heap[X]? = some (.cells #[.bool b1, .slice a1 n1 c1, .bool false, .slice (some ⟨g1, 0, none⟩) 1 d1] 54) ∧ w'.heap[Y]? = some (.cells #[.bool b2, .slice a2 n2 c2, .bool false, .slice (some ⟨g2, 0, none⟩) 1 d2] 54)) (by kernel_rfl) (⟨(((Below.refl _ w1).drew).block X (heap_lt HX.out)).trans HX.out, (((Below.refl _ w1).drew).block Y (heap_lt HY.out)).trans HY.out⟩) (fun hHeld => ?_)
  have HU0 : Hid (Below w1.heap.size w1 w1.drew) := (Below.refl _ w1).drew
  have HBU : Hid (Below w.heap.size w w1.drew) := HB1.out.drew
  have HRU := hid (cells_box HR.out HU0.out)
  generalize w1.drew = u0 at *
  refine take_at (i := 0) 5 (v := .pointer (some ⟨X, 0, none⟩)) rfl (by kernel_rfl) (by kernel_rfl) (by kernel_rfl) rfl (fun _ _ _ h => h) (by rfl) (fun w hSw => ?_) hHeld ?_
  · (try dsimp only at hSw); go_simp
  simp only [Act.put, List.setIfInBounds_toArray, List.set_cons_zero, List.set_cons_succ]
  refine take_at (i := 1) 6 (v := .agg #[.bool b1, .slice a1 n1 c1]) rfl (by kernel_rfl) (by kernel_rfl) (by kernel_rfl) rfl (fun _ _ _ h => h) (by rfl) (fun w hSw => ?_) hHeld ?_
  · (try dsimp only at hSw); obtain ⟨sx, sy⟩ := hSw; obtain ⟨x0, x1, x2, x3⟩ := cells4_of sx; obtain ⟨y0, y1, y2, y3⟩ := cells4_of sy; go_simp
  simp only [Act.put, List.setIfInBounds_toArray, List.set_cons_zero, List.set_cons_succ]
  refine take_at (i := 2) 7 (v := .pointer (some ⟨Y, 2, none⟩)) rfl (by kernel_rfl) (by kernel_rfl) (by kernel_rfl) rfl (fun _ _ _ h => h) (by rfl) (fun w hSw => ?_) hHeld ?_
  · (try dsimp only at hSw); go_simp
  simp only [Act.put, List.setIfInBounds_toArray, List.set_cons_zero, List.set_cons_succ]
  refine take_at (i := 3) 8 (v := .agg #[.bool false, .slice (some ⟨g2, 0, none⟩) 1 d2]) rfl (by kernel_rfl) (by kernel_rfl) (by kernel_rfl) rfl (fun _ _ _ h => h) (by rfl) (fun w hSw => ?_) hHeld ?_
  · (try dsimp only at hSw); obtain ⟨sx, sy⟩ := hSw; obtain ⟨x0, x1, x2, x3⟩ := cells4_of sx; obtain ⟨y0, y1, y2, y3⟩ := cells4_of sy; go_simp
  simp only [Act.put, List.setIfInBounds_toArray, List.set_cons_zero, List.set_cons_succ]
  refine take_at (i := 5) 10 (v := .pointer (some ⟨X, 2, none⟩)) rfl (by kernel_rfl) (by kernel_rfl) (by kernel_rfl) rfl (fun _ _ _ h => h) (by rfl) (fun w hSw => ?_) hHeld ?_
  · (try dsimp only at hSw); go_simp
  simp only [Act.put, List.setIfInBounds_toArray, List.set_cons_zero, List.set_cons_succ]
  refine take_at (i := 6) 11 (v := .agg #[.bool false, .slice (some ⟨g1, 0, none⟩) 1 d1]) rfl (by kernel_rfl) (by kernel_rfl) (by kernel_rfl) rfl (fun _ _ _ h => h) (by rfl) (fun w hSw => ?_) hHeld ?_
  · (try dsimp only at hSw); obtain ⟨sx, sy⟩ := hSw; obtain ⟨x0, x1, x2, x3⟩ := cells4_of sx; obtain ⟨y0, y1, y2, y3⟩ := cells4_of sy; go_simp
  simp only [Act.put, List.setIfInBounds_toArray, List.set_cons_zero, List.set_cons_succ]
  refine take_at (i := 7) 12 (v := .pointer (some ⟨Y, 0, none⟩)) rfl (by kernel_rfl) (by kernel_rfl) (by kernel_rfl) rfl (fun _ _ _ h => h) (by rfl) (fun w hSw => ?_) hHeld ?_
  · (try dsimp only at hSw); go_simp
  simp only [Act.put, List.setIfInBounds_toArray, List.set_cons_zero, List.set_cons_succ]
  refine take_at (i := 8) 13 (v := .agg #[.bool b2, .slice a2 n2 c2]) rfl (by kernel_rfl) (by kernel_rfl) (by kernel_rfl) rfl (fun _ _ _ h => h) (by rfl) (fun w hSw => ?_) hHeld ?_
  · (try dsimp only at hSw); obtain ⟨sx, sy⟩ := hSw; obtain ⟨x0, x1, x2, x3⟩ := cells4_of sx; obtain ⟨y0, y1, y2, y3⟩ := cells4_of sy; go_simp
  simp only [Act.put, List.setIfInBounds_toArray, List.set_cons_zero, List.set_cons_succ]
  refine wpAnyH_ready (rs := [4]) (by kernel_rfl) (by simp) ?_
  refine node_f43 9 6 8 (.agg #[.bool b1, .slice a1 n1 c1]) (.agg #[.bool false, .slice (some ⟨g2, 0, none⟩) 1 d2]) rfl rfl rfl rfl rfl rfl ?_ AllReadyH.nil
  · refine (mul1_any _ _ (k : Int) _ (HN1.out _ HBU.out) (HD2.out _ HBU.out) (by omega)).mono ?_
    rintro e w5 ⟨x5, rfl, hz5, hb5⟩
    have HB5 : Hid (Below w.heap.size w w5) := hid (below_step HBU.out hb5)
    have HR5 := hid (cells_box HRU.out hb5)
    have hHeld : w5.heap[X]? = some (.cells #[.bool b1, .slice a1 n1 c1, .bool false, .slice (some ⟨g1, 0, none⟩) 1 d1] 54) ∧ w5.heap[Y]? = some (.cells #[.bool b2, .slice a2 n2 c2, .bool false, .slice (some ⟨g2, 0, none⟩) 1 d2] 54) := ⟨cells_box hHeld.1 hb5, cells_box hHeld.2 hb5⟩
    have HZ5 := hid hz5
    obtain ⟨p5, m5, q5, rfl, _⟩ := hz5.sh
    clear hz5
    clear hb5
    refine ⟨_, rfl, hHeld, ?_⟩
    simp only [Act.put, List.setIfInBounds_toArray, List.set_cons_zero, List.set_cons_succ]
    refine wpAnyH_ready (rs := [9]) (by kernel_rfl) (by simp) ?_
    refine node_f43 14 11 13 (.agg #[.bool false, .slice (some ⟨g1, 0, none⟩) 1 d1]) (.agg #[.bool b2, .slice a2 n2 c2]) rfl rfl rfl rfl rfl rfl ?_ AllReadyH.nil
    · refine (mul1_any _ _ 1 _ (HD1.out _ HB5.out) (HN2.out _ HB5.out) (by decide)).mono ?_
      rintro e w6 ⟨x6, rfl, hz6, hb6⟩
      have HB6 : Hid (Below w.heap.size w w6) := hid (below_step HB5.out hb6)
      have HR6 := hid (cells_box HR5.out hb6)
      have hHeld : w6.heap[X]? = some (.cells #[.bool b1, .slice a1 n1 c1, .bool false, .slice (some ⟨g1, 0, none⟩) 1 d1] 54) ∧ w6.heap[Y]? = some (.cells #[.bool b2, .slice a2 n2 c2, .bool false, .slice (some ⟨g2, 0, none⟩) 1 d2] 54) := ⟨cells_box hHeld.1 hb6, cells_box hHeld.2 hb6⟩
      replace HZ5 := hid (HZ5.out.below hb6)
      have HZ6 := hid hz6
      obtain ⟨p6, m6, q6, rfl, _⟩ := hz6.sh
      clear hz6
      clear hb6
      refine ⟨_, rfl, hHeld, ?_⟩
      simp only [Act.put, List.setIfInBounds_toArray, List.set_cons_zero, List.set_cons_succ]
      refine wpAnyH_ready (rs := [10]) (by kernel_rfl) (by simp) ?_
      refine node_f42 15 9 14 (.agg #[.bool (decide ((k : Int) < 0)), .slice p5 m5 q5]) (.agg #[.bool (decide ((1 : Int) < 0)), .slice p6 m6 q6]) rfl rfl rfl rfl rfl rfl ?_ AllReadyH.nil
      · refine (ratio1_any _ _ k _ HZ5.out HZ6.out hk).mono ?_
        rintro e w7 ⟨x7, rfl, hz7, hb7⟩
        have HB7 : Hid (Below w.heap.size w w7) := hid (below_step HB6.out hb7)
        have HR7 := hid (cells_box HR6.out hb7)
        have hHeld : w7.heap[X]? = some (.cells #[.bool b1, .slice a1 n1 c1, .bool false, .slice (some ⟨g1, 0, none⟩) 1 d1] 54) ∧ w7.heap[Y]? = some (.cells #[.bool b2, .slice a2 n2 c2, .bool false, .slice (some ⟨g2, 0, none⟩) 1 d2] 54) := ⟨cells_box hHeld.1 hb7, cells_box hHeld.2 hb7⟩
        replace HZ5 := hid (HZ5.out.below hb7)
        replace HZ6 := hid (HZ6.out.below hb7)
        have HZ7 := hid hz7
        obtain ⟨p7, m7, q7, s7, t7, hx7, _, _⟩ := hz7
        subst hx7
        clear hb7
        refine ⟨_, rfl, hHeld, ?_⟩
        simp only [Act.put, List.setIfInBounds_toArray, List.set_cons_zero, List.set_cons_succ]
        refine wpAnyH_ready (rs := [11]) (by kernel_rfl) (by simp) ?_
        refine node_store54 4 15 R _ _ _ _ _ _ _ _ _ _ _ _ rfl rfl rfl rfl rfl rfl HR7.out (⟨(put4_off X HXR.out).trans hHeld.1, (put4_off Y HYR.out).trans hHeld.2⟩) ?_ AllReadyH.nil
        · skip
          refine wpAnyH_done (by kernel_rfl) ?_ _
          clear hHeld
          obtain ⟨r0, r1, r2, r3⟩ := cells4_of HR7.out
          go_wp2_with fail
          exact bodyPost_ret (v := .agg #[.bool (decide ((k : Int) < 0)), .slice p7 m7 q7, .bool false, .slice (some ⟨s7, 0, none⟩) 1 t7]) (by simp [put4, results, Tryd.results28, go_sem, r0, r1, r2, r3]) rfl
            ⟨_, rfl, (show RatZ w7 (.agg #[.bool (decide ((k : Int) < 0)), .slice p7 m7 q7, .bool false, .slice (some ⟨s7, 0, none⟩) 1 t7]) k from HZ7.out).off (off_bool r0) put4_off, put4_below HB7.out HRW.out⟩
set_option maxRecDepth 100000 in
set_option maxHeartbeats 4000000 in
theorem gratio_any (za zb : Int) (k : Nat) (w : World) (hk : 1 ≤ k) (hk2 : k < 4294967296) :
    Calls Tryd.prog 40 #[.agg #[.int .i64 za, .int .i64 zb, .int .i64 (k : Int), .int .i64 1]] w fun e w' => ∃ x, e = .returned x ∧ RatZ w' x k ∧ Below w.heap.size w w' := by
  obtain ⟨X, R, w1, hw1, hX, hR, HX, HR, HB1, HRW, HXR⟩ := boxes2 w #[.int .i64 za, .int .i64 zb, .int .i64 (k : Int), .int .i64 1] #[.bool false, .slice none 0 0, .bool false, .slice none 0 0] 39 54
  have HW1 := hid hw1
  have HXE := hid hX
  have HRE := hid hR
  clear hw1 hX hR
  go_enter Tryd.func40, Tryd.ntmps40
  go_upto_region 1 with fail
  rw [HW1.out, ← HRE.out, ← HXE.out]
  clear HW1 HXE HRE
  refine wp_region_held_drew (S := fun w' => w'.heap[X]? = some (.cells #[.int .i64 za, .int .i64 zb, .int .i64 (k : Int), .int .i64 1] 39)) (by kernel_rfl) ((((Below.refl _ w1).drew).block X (heap_lt HX.out)).trans HX.out) (fun hHeld => ?_)
  have HU0 : Hid (Below w1.heap.size w1 w1.drew) := (Below.refl _ w1).drew
  have HBU : Hid (Below w.heap.size w w1.drew) := HB1.out.drew
  have HRU := hid (cells_box HR.out HU0.out)
  generalize w1.drew = u0 at *
  refine take_at (i := 0) 3 (v := .pointer (some ⟨X, 2, none⟩)) rfl (by kernel_rfl) (by kernel_rfl) (by kernel_rfl) rfl (fun _ _ _ h => h) (by rfl) (fun w hSw => ?_) hHeld ?_
  · (try dsimp only at hSw); go_simp
  simp only [Act.put, List.setIfInBounds_toArray, List.set_cons_zero, List.set_cons_succ]
  refine take_at (i := 1) 4 (v := .int .i64 (k : Int)) rfl (by kernel_rfl) (by kernel_rfl) (by kernel_rfl) rfl (fun _ _ _ h => h) (by rfl) (fun w hSw => ?_) hHeld ?_
  · (try dsimp only at hSw); have sx := hSw; obtain ⟨x0, x1, x2, x3⟩ := cells4_of sx; go_simp
  simp only [Act.put, List.setIfInBounds_toArray, List.set_cons_zero, List.set_cons_succ]
  refine take_at (i := 3) 6 (v := .pointer (some ⟨X, 3, none⟩)) rfl (by kernel_rfl) (by kernel_rfl) (by kernel_rfl) rfl (fun _ _ _ h => h) (by rfl) (fun w hSw => ?_) hHeld ?_
  · (try dsimp only at hSw); go_simp
  simp only [Act.put, List.setIfInBounds_toArray, List.set_cons_zero, List.set_cons_succ]
  refine take_at (i := 4) 7 (v := .int .i64 1) rfl (by kernel_rfl) (by kernel_rfl) (by kernel_rfl) rfl (fun _ _ _ h => h) (by rfl) (fun w hSw => ?_) hHeld ?_
  · (try dsimp only at hSw); have sx := hSw; obtain ⟨x0, x1, x2, x3⟩ := cells4_of sx; go_simp
  simp only [Act.put, List.setIfInBounds_toArray, List.set_cons_zero, List.set_cons_succ]
  refine wpAnyH_ready (rs := [2]) (by kernel_rfl) (by simp) ?_
  refine node_f13 5 4 (.int .i64 (k : Int)) rfl rfl rfl rfl rfl ?_ AllReadyH.nil
  · refine (whole_any (k : Int) k _ rfl (by omega)).mono ?_
    rintro e w5 ⟨x5, rfl, hz5, hb5⟩
    have HB5 : Hid (Below w.heap.size w w5) := hid (below_step HBU.out hb5)
    have HR5 := hid (cells_box HRU.out hb5)
    have hHeld : w5.heap[X]? = some (.cells #[.int .i64 za, .int .i64 zb, .int .i64 (k : Int), .int .i64 1] 39) := cells_box hHeld hb5
    have HZ5 := hid hz5
    obtain ⟨p5, m5, q5, s5, t5, hx5, _, _⟩ := hz5
    subst hx5
    clear hb5
    refine ⟨_, rfl, hHeld, ?_⟩
    simp only [Act.put, List.setIfInBounds_toArray, List.set_cons_zero, List.set_cons_succ]
    refine wpAnyH_ready (rs := [5]) (by kernel_rfl) (by simp) ?_
    refine node_f13 8 7 (.int .i64 1) rfl rfl rfl rfl rfl ?_ AllReadyH.nil
    · refine (whole_any 1 1 _ rfl (by decide)).mono ?_
      rintro e w6 ⟨x6, rfl, hz6, hb6⟩
      have HB6 : Hid (Below w.heap.size w w6) := hid (below_step HB5.out hb6)
      have HR6 := hid (cells_box HR5.out hb6)
      have hHeld : w6.heap[X]? = some (.cells #[.int .i64 za, .int .i64 zb, .int .i64 (k : Int), .int .i64 1] 39) := cells_box hHeld hb6
      replace HZ5 := hid (HZ5.out.below hb6)
      have HZ6 := hid hz6
      obtain ⟨p6, m6, q6, s6, t6, hx6, _, _⟩ := hz6
      subst hx6
      clear hb6
      refine ⟨_, rfl, hHeld, ?_⟩
      simp only [Act.put, List.setIfInBounds_toArray, List.set_cons_zero, List.set_cons_succ]
      refine wpAnyH_ready (rs := [6]) (by kernel_rfl) (by simp) ?_
      refine node_f28 9 5 8 (.agg #[.bool (decide ((k : Int) < 0)), .slice p5 m5 q5, .bool false, .slice (some ⟨s5, 0, none⟩) 1 t5]) (.agg #[.bool (decide (((1 : Nat) : Int) < 0)), .slice p6 m6 q6, .bool false, .slice (some ⟨s6, 0, none⟩) 1 t6]) rfl rfl rfl rfl rfl rfl ?_ AllReadyH.nil
      · refine (rdiv1_any _ _ k _ HZ5.out HZ6.out hk (by omega)).mono ?_
        rintro e w7 ⟨x7, rfl, hz7, hb7⟩
        have HB7 : Hid (Below w.heap.size w w7) := hid (below_step HB6.out hb7)
        have HR7 := hid (cells_box HR6.out hb7)
        have hHeld : w7.heap[X]? = some (.cells #[.int .i64 za, .int .i64 zb, .int .i64 (k : Int), .int .i64 1] 39) := cells_box hHeld hb7
        replace HZ5 := hid (HZ5.out.below hb7)
        replace HZ6 := hid (HZ6.out.below hb7)
        have HZ7 := hid hz7
        obtain ⟨p7, m7, q7, s7, t7, hx7, _, _⟩ := hz7
        subst hx7
        clear hb7
        refine ⟨_, rfl, hHeld, ?_⟩
        simp only [Act.put, List.setIfInBounds_toArray, List.set_cons_zero, List.set_cons_succ]
        refine wpAnyH_ready (rs := [7]) (by kernel_rfl) (by simp) ?_
        refine node_store54 2 9 R _ _ _ _ _ _ _ _ _ _ _ _ rfl rfl rfl rfl rfl rfl HR7.out ((put4_off X HXR.out).trans hHeld) ?_ AllReadyH.nil
        · skip
          refine wpAnyH_done (by kernel_rfl) ?_ _
          clear hHeld
          obtain ⟨r0, r1, r2, r3⟩ := cells4_of HR7.out
          go_wp2_with fail
          exact bodyPost_ret (v := .agg #[.bool (decide ((k : Int) < 0)), .slice p7 m7 q7, .bool false, .slice (some ⟨s7, 0, none⟩) 1 t7]) (by simp [put4, results, Tryd.results40, go_sem, r0, r1, r2, r3]) rfl
            ⟨_, rfl, (show RatZ w7 (.agg #[.bool (decide ((k : Int) < 0)), .slice p7 m7 q7, .bool false, .slice (some ⟨s7, 0, none⟩) 1 t7]) k from HZ7.out).off (off_bool r0) put4_off, put4_below HB7.out HRW.out⟩
set_option maxRecDepth 100000 in
set_option maxHeartbeats 4000000 in
theorem fits_any (u : Value) (k : Nat) (w : World) (hu : RatZ w u k) (hk : k < 2) :
    Calls Tryd.prog 32 #[u, .int .i64 6] w fun e w' => e = .returned (.bool true) ∧ Below w.heap.size w w' := by
  obtain ⟨x, hl, hx⟩ : ∃ x : UInt8, [x] = dec k ∧ x = x := by
    rcases (by omega : k = 0 ∨ k = 1) with rfl | rfl <;> exact ⟨_, rfl, rfl⟩
  obtain ⟨l, hl2⟩ : ∃ l, l = [x] := ⟨_, rfl⟩
  have HL : Hid (l = dec k) := hl2.trans hl
  have HL2 := hid hl2
  clear hl hl2 hx
  obtain ⟨a1, n1, c1, g1, d1, rfl, hn1, hd1⟩ := hu
  obtain ⟨b1, hb1⟩ : ∃ b, b = decide ((k : Int) < 0) := ⟨_, rfl⟩
  rw [← hb1] at hn1 ⊢
  have HN1 : Hid (∀ w', Below w.heap.size w w' → IntZ w' (.agg #[.bool b1, .slice a1 n1 c1]) ((k : Int))) := fun w' hb => hn1.below hb
  have HD1 : Hid (∀ w', Below w.heap.size w w' → IntZ w' (.agg #[.bool false, .slice (some ⟨g1, 0, none⟩) 1 d1]) 1) := fun w' hb => hd1.below hb
  have HBE1 := hid hb1
  have HA1 : Hid (∀ w', Below w.heap.size w w' → RatZ w' (.agg #[.bool b1, .slice a1 n1 c1, .bool false, .slice (some ⟨g1, 0, none⟩) 1 d1]) ((k : Int))) := fun w' hb => ⟨a1, n1, c1, g1, d1, by rw [HBE1.out], by rw [← HBE1.out]; exact HN1.out w' hb, HD1.out w' hb⟩
  clear hn1 hd1 hb1
  have TX : Hid (∀ w', Below w.heap.size w w' → Calls Tryd.prog 36 #[.slice a1 n1 c1] w' fun e w'' => e = .returned (.string ⟨l.toArray⟩) ∧ Below w'.heap.size w' w'') := fun w' hb => by
    have h := text_any _ k w' (HN1.out w' hb).lb (by omega)
    rwa [← HL.out] at h
  have TD : Hid (∀ w', Below w.heap.size w w' → Calls Tryd.prog 36 #[.slice (some ⟨g1, 0, none⟩) 1 d1] w' fun e w'' => e = .returned (.string ⟨#[49]⟩) ∧ Below w'.heap.size w' w'') := fun w' hb => text_any _ 1 w' (HD1.out w' hb).lb (by decide)
  rw [HL2.out] at TX
  clear HL HL2
  have HB1 := hid (ba w (.cells #[.bool b1, .slice a1 n1 c1, .bool false, .slice (some ⟨g1, 0, none⟩) 1 d1] 54))
  obtain ⟨x0, x1, x2, x3⟩ := cells4_of (heap_alloc_new w (.cells #[.bool b1, .slice a1 n1 c1, .bool false, .slice (some ⟨g1, 0, none⟩) 1 d1] 54))
  have HX1 := hid (heap_alloc_new w (.cells #[.bool b1, .slice a1 n1 c1, .bool false, .slice (some ⟨g1, 0, none⟩) 1 d1] 54))
  have T1 := hid (TX.out _ HB1.out)
  go_enter Tryd.func32, Tryd.ntmps32
  go_upto_region 1 with fail
  generalize w.alloc (.cells #[.bool b1, .slice a1 n1 c1, .bool false, .slice (some ⟨g1, 0, none⟩) 1 d1] 54) = w1 at *
  go_wp2_with fail
  go_at_call 36
  refine T1.out.mono ?_
  rintro e w2 ⟨rfl, hb2⟩
  have HB2 := hid (below_step HB1.out hb2)
  clear x0 x1 x2 x3
  obtain ⟨x0, x1, x2, x3⟩ := cells4_of (cells_box HX1.out hb2)
  have T2 := hid (TD.out _ HB2.out)
  clear hb2
  go_wp2_with fail
  go_at_call 36
  refine T2.out.mono ?_
  rintro e w3 ⟨rfl, hb3⟩
  have HB3 := hid (below_step HB2.out hb3)
  go_wp2_with fail
  go_ret
  exact ⟨rfl, HB3.out⟩
set_option maxRecDepth 100000 in
set_option maxHeartbeats 4000000 in
theorem rnum_any (u : Value) (k : Nat) (w : World) (hu : RatZ w u k) (hk : k < 1000000000) :
    Calls Tryd.prog 19 #[u] w fun e w' => e = .returned (.tuple #[.string ⟨(dec k).toArray⟩, .int .i64 0]) ∧ Below w.heap.size w w' := by
  obtain ⟨l, hl⟩ : ∃ l, l = dec k := ⟨_, rfl⟩
  have hl9 : l.length ≤ 9 := by
    rw [hl]; unfold dec
    split
    · decide
    · rw [List.length_reverse]; exact digR_len 9 k
  have HL := hid hl
  rw [← hl]
  clear hl
  obtain ⟨a1, n1, c1, g1, d1, rfl, hn1, hd1⟩ := hu
  obtain ⟨b1, hb1⟩ : ∃ b, b = decide ((k : Int) < 0) := ⟨_, rfl⟩
  rw [← hb1] at hn1 ⊢
  have HN1 : Hid (∀ w', Below w.heap.size w w' → IntZ w' (.agg #[.bool b1, .slice a1 n1 c1]) ((k : Int))) := fun w' hb => hn1.below hb
  have HD1 : Hid (∀ w', Below w.heap.size w w' → IntZ w' (.agg #[.bool false, .slice (some ⟨g1, 0, none⟩) 1 d1]) 1) := fun w' hb => hd1.below hb
  have HBE1 := hid hb1
  have HA1 : Hid (∀ w', Below w.heap.size w w' → RatZ w' (.agg #[.bool b1, .slice a1 n1 c1, .bool false, .slice (some ⟨g1, 0, none⟩) 1 d1]) ((k : Int))) := fun w' hb => ⟨a1, n1, c1, g1, d1, by rw [HBE1.out], by rw [← HBE1.out]; exact HN1.out w' hb, HD1.out w' hb⟩
  clear hn1 hd1 hb1
  have TX : Hid (∀ w', Below w.heap.size w w' → Calls Tryd.prog 36 #[.slice a1 n1 c1] w' fun e w'' => e = .returned (.string ⟨l.toArray⟩) ∧ Below w'.heap.size w' w'') := fun w' hb => by
    have h := text_any _ k w' (HN1.out w' hb).lb (by omega)
    rwa [← HL.out] at h
  have TD : Hid (∀ w', Below w.heap.size w w' → Calls Tryd.prog 36 #[.slice (some ⟨g1, 0, none⟩) 1 d1] w' fun e w'' => e = .returned (.string ⟨#[49]⟩) ∧ Below w'.heap.size w' w'') := fun w' hb => text_any _ 1 w' (HD1.out w' hb).lb (by decide)
  have hbf : b1 = false := by rw [HBE1.out]; exact decide_eq_false (by omega)
  have IN : Hid (∀ w', Below w.heap.size w w' → Calls Tryd.prog 37 #[.agg #[.bool b1, .slice a1 n1 c1, .bool false, .slice (some ⟨g1, 0, none⟩) 1 d1]] w' fun e w'' => e = .returned (.bool true) ∧ Below w'.heap.size w' w'') := fun w' hb => integer_any _ k w' (HA1.out w' hb)
  clear HBE1 HN1 HA1
  subst hbf
  obtain ⟨n, hn⟩ : ∃ n : Nat, n = l.length := ⟨_, rfl⟩
  have HB1 := hid (ba w (.cells #[.bool false, .slice a1 n1 c1, .bool false, .slice (some ⟨g1, 0, none⟩) 1 d1] 54))
  obtain ⟨x0, x1, x2, x3⟩ := cells4_of (heap_alloc_new w (.cells #[.bool false, .slice a1 n1 c1, .bool false, .slice (some ⟨g1, 0, none⟩) 1 d1] 54))
  have HX1 := hid (heap_alloc_new w (.cells #[.bool false, .slice a1 n1 c1, .bool false, .slice (some ⟨g1, 0, none⟩) 1 d1] 54))
  have T1 := hid (TX.out _ HB1.out)
  go_enter Tryd.func19, Tryd.ntmps19
  go_upto_region 1 with fail
  generalize w.alloc (.cells #[.bool false, .slice a1 n1 c1, .bool false, .slice (some ⟨g1, 0, none⟩) 1 d1] 54) = w1 at *
  go_wp2_with fail
  go_at_call 36
  refine T1.out.mono ?_
  rintro e w2 ⟨rfl, hb2⟩
  have HB2 := hid (below_step HB1.out hb2)
  clear x0 x1 x2 x3
  obtain ⟨x0, x1, x2, x3⟩ := cells4_of (cells_box HX1.out hb2)
  have T2 := hid (IN.out _ HB2.out)
  clear hb2
  go_wp2_with fail
  go_at_call 37
  refine T2.out.mono ?_
  rintro e w3 ⟨rfl, hb3⟩
  have HB3 := hid (below_step HB2.out hb3)
  go_wp2_with fail
  go_ret2
  exact ⟨rfl, HB3.out⟩
end Go.Proofs.YtlhmidecjiihcaaDoor
