/-
  Rationals: Neg (71), Cmp (31).
-/
import Derived.Test.YtlhmidecjiihcaaDoorWalkM
namespace Go.Proofs.YtlhmidecjiihcaaDoor
open Go.RowKit
theorem mul1_any (u v : Value) (z1 : Int) (w : World) (hu : IntZ w u z1) (hv : IntZ w v 1) (h1 : z1.natAbs < 4294967296) :
    Calls Tryd.prog 43 #[u, v] w fun e w' => ∃ x, e = .returned x ∧ IntZ w' x z1 ∧ Below w.heap.size w w' := by
  have h := mul_any u v z1 1 w hu hv (by simpa using h1)
  rwa [Int.mul_one] at h
theorem rcmp_eq (z1 z2 : Int) : (if z1 - z2 = 0 then 0 else if z1 - z2 < 0 then -1 else 1 : Int) = if z1 = z2 then 0 else if z1 < z2 then -1 else 1 := by
  by_cases h : z1 = z2
  · rw [if_pos h, if_pos (by omega)]
  · rw [if_neg h, if_neg (by omega)]
    by_cases h2 : z1 < z2
    · rw [if_pos h2, if_pos (by omega)]
    · rw [if_neg h2, if_neg (by omega)]
set_option maxRecDepth 100000 in
set_option maxHeartbeats 4000000 in
theorem rneg_any (u : Value) (z1 : Int) (w : World) (hu : RatZ w u z1) :
    Calls Tryd.prog 71 #[u] w fun e w' => ∃ x, e = .returned x ∧ RatZ w' x (-z1) ∧ Below w.heap.size w w' := by
  obtain ⟨a1, n1, c1, g1, d1, rfl, hn1, hd1⟩ := hu
  obtain ⟨b1, hb1⟩ : ∃ b, b = decide (z1 < 0) := ⟨_, rfl⟩
  rw [← hb1] at hn1 ⊢
  have HN1 : Hid (∀ w', Below w.heap.size w w' → IntZ w' (.agg #[.bool b1, .slice a1 n1 c1]) (z1)) := fun w' hb => hn1.below hb
  have HD1 : Hid (∀ w', Below w.heap.size w w' → IntZ w' (.agg #[.bool false, .slice (some ⟨g1, 0, none⟩) 1 d1]) 1) := fun w' hb => hd1.below hb
  have HBE1 := hid hb1
  have HA1 : Hid (∀ w', Below w.heap.size w w' → RatZ w' (.agg #[.bool b1, .slice a1 n1 c1, .bool false, .slice (some ⟨g1, 0, none⟩) 1 d1]) (z1)) := fun w' hb => ⟨a1, n1, c1, g1, d1, by rw [HBE1.out], by rw [← HBE1.out]; exact HN1.out w' hb, HD1.out w' hb⟩
  clear hn1 hd1 hb1
  obtain ⟨X, R, w1, hw1, hX, hR, HX, HR, HB1, HRW, HXR⟩ := boxes2 w #[.bool b1, .slice a1 n1 c1, .bool false, .slice (some ⟨g1, 0, none⟩) 1 d1] #[.bool false, .slice none 0 0, .bool false, .slice none 0 0] 54 54
  have HW1 := hid hw1
  have HXE := hid hX
  have HRE := hid hR
  clear hw1 hX hR
  go_enter Tryd.func71, Tryd.ntmps71
  go_upto_region 1 with fail
  rw [HW1.out, ← HRE.out, ← HXE.out]
  clear HW1 HXE HRE
  refine wp_region_held_drew (S := fun w' => w'.heap[X]? = some (.cells #[.bool b1, .slice a1 n1 c1, .bool false, .slice (some ⟨g1, 0, none⟩) 1 d1] 54)) (by kernel_rfl) ((((Below.refl _ w1).drew).block X (heap_lt HX.out)).trans HX.out) (fun hHeld => ?_)
  have HU0 : Hid (Below w1.heap.size w1 w1.drew) := (Below.refl _ w1).drew
  have HBU : Hid (Below w.heap.size w w1.drew) := HB1.out.drew
  have HRU := hid (cells_box HR.out HU0.out)
  generalize w1.drew = u0 at *
  refine take_at (i := 0) 3 (v := .pointer (some ⟨X, 0, none⟩)) rfl (by kernel_rfl) (by kernel_rfl) (by kernel_rfl) rfl (fun _ _ _ h => h) (by rfl) (fun w hSw => ?_) hHeld ?_
  · (try dsimp only at hSw); go_simp
  simp only [Act.put, List.setIfInBounds_toArray, List.set_cons_zero, List.set_cons_succ]
  refine take_at (i := 1) 4 (v := .agg #[.bool b1, .slice a1 n1 c1]) rfl (by kernel_rfl) (by kernel_rfl) (by kernel_rfl) rfl (fun _ _ _ h => h) (by rfl) (fun w hSw => ?_) hHeld ?_
  · (try dsimp only at hSw); have sx := hSw; obtain ⟨x0, x1, x2, x3⟩ := cells4_of sx; go_simp
  simp only [Act.put, List.setIfInBounds_toArray, List.set_cons_zero, List.set_cons_succ]
  refine take_at (i := 3) 6 (v := .pointer (some ⟨X, 2, none⟩)) rfl (by kernel_rfl) (by kernel_rfl) (by kernel_rfl) rfl (fun _ _ _ h => h) (by rfl) (fun w hSw => ?_) hHeld ?_
  · (try dsimp only at hSw); go_simp
  simp only [Act.put, List.setIfInBounds_toArray, List.set_cons_zero, List.set_cons_succ]
  refine take_at (i := 4) 7 (v := .agg #[.bool false, .slice (some ⟨g1, 0, none⟩) 1 d1]) rfl (by kernel_rfl) (by kernel_rfl) (by kernel_rfl) rfl (fun _ _ _ h => h) (by rfl) (fun w hSw => ?_) hHeld ?_
  · (try dsimp only at hSw); have sx := hSw; obtain ⟨x0, x1, x2, x3⟩ := cells4_of sx; go_simp
  simp only [Act.put, List.setIfInBounds_toArray, List.set_cons_zero, List.set_cons_succ]
  refine wpAnyH_ready (rs := [2]) (by kernel_rfl) (by simp) ?_
  refine node_f61 5 4 (.agg #[.bool b1, .slice a1 n1 c1]) rfl rfl rfl rfl rfl ?_ AllReadyH.nil
  · refine (neg_any _ z1 _ (HN1.out _ HBU.out)).mono ?_
    rintro e w5 ⟨x5, rfl, hz5, hb5⟩
    have HB5 : Hid (Below w.heap.size w w5) := hid (below_step HBU.out hb5)
    have HR5 := hid (cells_box HRU.out hb5)
    have hHeld : w5.heap[X]? = some (.cells #[.bool b1, .slice a1 n1 c1, .bool false, .slice (some ⟨g1, 0, none⟩) 1 d1] 54) := cells_box hHeld hb5
    have HZ5 := hid hz5
    obtain ⟨p5, m5, q5, rfl, _⟩ := hz5.sh
    clear hz5
    clear hb5
    refine ⟨_, rfl, hHeld, ?_⟩
    simp only [Act.put, List.setIfInBounds_toArray, List.set_cons_zero, List.set_cons_succ]
    refine take_at (i := 5) 8 (v := .agg #[.bool (decide (-z1 < 0)), .slice p5 m5 q5, .bool false, .slice (some ⟨g1, 0, none⟩) 1 d1]) rfl (by kernel_rfl) (by kernel_rfl) (by kernel_rfl) rfl (fun _ _ _ h => h) (by rfl) (fun w hSw => ?_) hHeld ?_
    · (try dsimp only at hSw); go_simp
    simp only [Act.put, List.setIfInBounds_toArray, List.set_cons_zero, List.set_cons_succ]
    refine wpAnyH_ready (rs := [6]) (by kernel_rfl) (by simp) ?_
    refine node_store54 2 8 R _ _ _ _ _ _ _ _ _ _ _ _ rfl rfl rfl rfl rfl rfl HR5.out ((put4_off X HXR.out).trans hHeld) ?_ AllReadyH.nil
    · skip
      refine wpAnyH_done (by kernel_rfl) ?_ _
      clear hHeld
      obtain ⟨r0, r1, r2, r3⟩ := cells4_of HR5.out
      go_wp2_with fail
      exact bodyPost_ret (v := .agg #[.bool (decide (-z1 < 0)), .slice p5 m5 q5, .bool false, .slice (some ⟨g1, 0, none⟩) 1 d1]) (by simp [put4, results, Tryd.results71, go_sem, r0, r1, r2, r3]) rfl
        ⟨_, rfl, (show RatZ w5 (.agg #[.bool (decide (-z1 < 0)), .slice p5 m5 q5, .bool false, .slice (some ⟨g1, 0, none⟩) 1 d1]) (-z1) from ⟨p5, m5, q5, g1, d1, rfl, HZ5.out, HD1.out _ HB5.out⟩).off (off_bool r0) put4_off, put4_below HB5.out HRW.out⟩
set_option maxRecDepth 100000 in
set_option maxHeartbeats 4000000 in
theorem rcmp_any (u v : Value) (z1 z2 : Int) (w : World) (hu : RatZ w u z1) (hv : RatZ w v z2) (hz1 : z1.natAbs < 2147483648) (hz2 : z2.natAbs < 2147483648) :
    Calls Tryd.prog 31 #[u, v] w fun e w' => e = .returned (.int .i64 (if z1 = z2 then 0 else if z1 < z2 then -1 else 1)) ∧ Below w.heap.size w w' := by
  have CM : Hid (∀ w' x y, IntZ w' x z1 → IntZ w' y z2 → Calls Tryd.prog 46 #[x, y] w' fun e w'' => e = .returned (.int .i64 (if z1 = z2 then 0 else if z1 < z2 then -1 else 1)) ∧ Below w'.heap.size w' w'') := fun w' x y hx hy => by
    have h := cmp_any x y z1 z2 w' hx hy hz1 hz2
    rwa [rcmp_eq] at h
  generalize (if z1 = z2 then 0 else if z1 < z2 then -1 else 1 : Int) = r at *
  obtain ⟨a1, n1, c1, g1, d1, rfl, hn1, hd1⟩ := hu
  obtain ⟨b1, hb1⟩ : ∃ b, b = decide (z1 < 0) := ⟨_, rfl⟩
  rw [← hb1] at hn1 ⊢
  have HN1 : Hid (∀ w', Below w.heap.size w w' → IntZ w' (.agg #[.bool b1, .slice a1 n1 c1]) (z1)) := fun w' hb => hn1.below hb
  have HD1 : Hid (∀ w', Below w.heap.size w w' → IntZ w' (.agg #[.bool false, .slice (some ⟨g1, 0, none⟩) 1 d1]) 1) := fun w' hb => hd1.below hb
  have HBE1 := hid hb1
  have HA1 : Hid (∀ w', Below w.heap.size w w' → RatZ w' (.agg #[.bool b1, .slice a1 n1 c1, .bool false, .slice (some ⟨g1, 0, none⟩) 1 d1]) (z1)) := fun w' hb => ⟨a1, n1, c1, g1, d1, by rw [HBE1.out], by rw [← HBE1.out]; exact HN1.out w' hb, HD1.out w' hb⟩
  clear hn1 hd1 hb1
  obtain ⟨a2, n2, c2, g2, d2, rfl, hn2, hd2⟩ := hv
  obtain ⟨b2, hb2⟩ : ∃ b, b = decide (z2 < 0) := ⟨_, rfl⟩
  rw [← hb2] at hn2 ⊢
  have HN2 : Hid (∀ w', Below w.heap.size w w' → IntZ w' (.agg #[.bool b2, .slice a2 n2 c2]) (z2)) := fun w' hb => hn2.below hb
  have HD2 : Hid (∀ w', Below w.heap.size w w' → IntZ w' (.agg #[.bool false, .slice (some ⟨g2, 0, none⟩) 1 d2]) 1) := fun w' hb => hd2.below hb
  have HBE2 := hid hb2
  have HA2 : Hid (∀ w', Below w.heap.size w w' → RatZ w' (.agg #[.bool b2, .slice a2 n2 c2, .bool false, .slice (some ⟨g2, 0, none⟩) 1 d2]) (z2)) := fun w' hb => ⟨a2, n2, c2, g2, d2, by rw [HBE2.out], by rw [← HBE2.out]; exact HN2.out w' hb, HD2.out w' hb⟩
  clear hn2 hd2 hb2
  obtain ⟨X, Y, w1, hw1, hX, hY, HX, HY, HB1, _, _⟩ := boxes2 w #[.bool b1, .slice a1 n1 c1, .bool false, .slice (some ⟨g1, 0, none⟩) 1 d1] #[.bool b2, .slice a2 n2 c2, .bool false, .slice (some ⟨g2, 0, none⟩) 1 d2] 54 54
  have HW1 := hid hw1
  have HXE := hid hX
  have HYE := hid hY
  clear hw1 hX hY
  go_enter Tryd.func31, Tryd.ntmps31
  go_upto_region 1 with fail
  rw [HW1.out, ← HYE.out, ← HXE.out]
  clear HW1 HXE HYE
  refine wp_region_held_drew (S := fun w' => w'.heap[X]? = some (.cells #[.bool b1, .slice a1 n1 c1, .bool false, .slice (some ⟨g1, 0, none⟩) 1 d1] 54) ∧ w'.heap[Y]? = some (.cells #[.bool b2, .slice a2 n2 c2, .bool false, .slice (some ⟨g2, 0, none⟩) 1 d2] 54)) (by kernel_rfl) (⟨(((Below.refl _ w1).drew).block X (heap_lt HX.out)).trans HX.out, (((Below.refl _ w1).drew).block Y (heap_lt HY.out)).trans HY.out⟩) (fun hHeld => ?_)
  have HU0 : Hid (Below w1.heap.size w1 w1.drew) := (Below.refl _ w1).drew
  have HBU : Hid (Below w.heap.size w w1.drew) := HB1.out.drew
  generalize w1.drew = u0 at *
  refine take_at (i := 0) 5 (v := .pointer (some ⟨X, 0, none⟩)) rfl (by kernel_rfl) (by kernel_rfl) (by kernel_rfl) rfl (fun _ _ _ h => h) (by rfl) (fun w hSw => ?_) hHeld ?_
  · (try dsimp only at hSw); go_simp
  simp only [Act.put, List.setIfInBounds_toArray, List.set_cons_zero, List.set_cons_succ]
  refine take_at (i := 1) 6 (v := .agg #[.bool b1, .slice a1 n1 c1]) rfl (by kernel_rfl) (by kernel_rfl) (by kernel_rfl) rfl (fun _ _ _ h => h) (by rfl) (fun w hSw => ?_) hHeld ?_
  · (try dsimp only at hSw); obtain ⟨sx, sy⟩ := hSw; obtain ⟨x0, x1, x2, x3⟩ := cells4_of sx; obtain ⟨y0, y1, y2, y3⟩ := cells4_of sy; go_simp
  simp only [Act.put, List.setIfInBounds_toArray, List.set_cons_zero, List.set_cons_succ]
  refine take_at (i := 2) 7 (v := .pointer (some ⟨Y, 2, none⟩)) rfl (by kernel_rfl) (by kernel_rfl) (by kernel_rfl) rfl (fun _ _ _ h => h) (by rfl) (fun w hSw => ?_) hHeld ?_
  · (try dsimp only at hSw); go_simp
  simp only [Act.put, List.setIfInBounds_toArray, List.set_cons_zero, List.set_cons_succ]
  refine take_at (i := 3) 8 (v := .agg #[.bool false, .slice (some ⟨g2, 0, none⟩) 1 d2]) rfl (by kernel_rfl) (by kernel_rfl) (by kernel_rfl) rfl (fun _ _ _ h => h) (by rfl) (fun w hSw => ?_) hHeld ?_
  · (try dsimp only at hSw); obtain ⟨sx, sy⟩ := hSw; obtain ⟨x0, x1, x2, x3⟩ := cells4_of sx; obtain ⟨y0, y1, y2, y3⟩ := cells4_of sy; go_simp
  simp only [Act.put, List.setIfInBounds_toArray, List.set_cons_zero, List.set_cons_succ]
  refine take_at (i := 5) 10 (v := .pointer (some ⟨Y, 0, none⟩)) rfl (by kernel_rfl) (by kernel_rfl) (by kernel_rfl) rfl (fun _ _ _ h => h) (by rfl) (fun w hSw => ?_) hHeld ?_
  · (try dsimp only at hSw); go_simp
  simp only [Act.put, List.setIfInBounds_toArray, List.set_cons_zero, List.set_cons_succ]
  refine take_at (i := 6) 11 (v := .agg #[.bool b2, .slice a2 n2 c2]) rfl (by kernel_rfl) (by kernel_rfl) (by kernel_rfl) rfl (fun _ _ _ h => h) (by rfl) (fun w hSw => ?_) hHeld ?_
  · (try dsimp only at hSw); obtain ⟨sx, sy⟩ := hSw; obtain ⟨x0, x1, x2, x3⟩ := cells4_of sx; obtain ⟨y0, y1, y2, y3⟩ := cells4_of sy; go_simp
  simp only [Act.put, List.setIfInBounds_toArray, List.set_cons_zero, List.set_cons_succ]
  refine take_at (i := 7) 12 (v := .pointer (some ⟨X, 2, none⟩)) rfl (by kernel_rfl) (by kernel_rfl) (by kernel_rfl) rfl (fun _ _ _ h => h) (by rfl) (fun w hSw => ?_) hHeld ?_
  · (try dsimp only at hSw); go_simp
  simp only [Act.put, List.setIfInBounds_toArray, List.set_cons_zero, List.set_cons_succ]
  refine take_at (i := 8) 13 (v := .agg #[.bool false, .slice (some ⟨g1, 0, none⟩) 1 d1]) rfl (by kernel_rfl) (by kernel_rfl) (by kernel_rfl) rfl (fun _ _ _ h => h) (by rfl) (fun w hSw => ?_) hHeld ?_
  · (try dsimp only at hSw); obtain ⟨sx, sy⟩ := hSw; obtain ⟨x0, x1, x2, x3⟩ := cells4_of sx; obtain ⟨y0, y1, y2, y3⟩ := cells4_of sy; go_simp
  simp only [Act.put, List.setIfInBounds_toArray, List.set_cons_zero, List.set_cons_succ]
  refine wpAnyH_ready (rs := [4]) (by kernel_rfl) (by simp) ?_
  refine node_f43 9 6 8 (.agg #[.bool b1, .slice a1 n1 c1]) (.agg #[.bool false, .slice (some ⟨g2, 0, none⟩) 1 d2]) rfl rfl rfl rfl rfl rfl ?_ AllReadyH.nil
  · refine (mul1_any _ _ z1 _ (HN1.out _ HBU.out) (HD2.out _ HBU.out) (by omega)).mono ?_
    rintro e w5 ⟨x5, rfl, hz5, hb5⟩
    have HB5 : Hid (Below w.heap.size w w5) := hid (below_step HBU.out hb5)
    have hHeld : w5.heap[X]? = some (.cells #[.bool b1, .slice a1 n1 c1, .bool false, .slice (some ⟨g1, 0, none⟩) 1 d1] 54) ∧ w5.heap[Y]? = some (.cells #[.bool b2, .slice a2 n2 c2, .bool false, .slice (some ⟨g2, 0, none⟩) 1 d2] 54) := ⟨cells_box hHeld.1 hb5, cells_box hHeld.2 hb5⟩
    have HZ5 := hid hz5
    obtain ⟨p5, m5, q5, rfl, _⟩ := hz5.sh
    clear hz5
    clear hb5
    refine ⟨_, rfl, hHeld, ?_⟩
    simp only [Act.put, List.setIfInBounds_toArray, List.set_cons_zero, List.set_cons_succ]
    refine wpAnyH_ready (rs := [9]) (by kernel_rfl) (by simp) ?_
    refine node_f43 14 11 13 (.agg #[.bool b2, .slice a2 n2 c2]) (.agg #[.bool false, .slice (some ⟨g1, 0, none⟩) 1 d1]) rfl rfl rfl rfl rfl rfl ?_ AllReadyH.nil
    · refine (mul1_any _ _ z2 _ (HN2.out _ HB5.out) (HD1.out _ HB5.out) (by omega)).mono ?_
      rintro e w6 ⟨x6, rfl, hz6, hb6⟩
      have HB6 : Hid (Below w.heap.size w w6) := hid (below_step HB5.out hb6)
      have hHeld : w6.heap[X]? = some (.cells #[.bool b1, .slice a1 n1 c1, .bool false, .slice (some ⟨g1, 0, none⟩) 1 d1] 54) ∧ w6.heap[Y]? = some (.cells #[.bool b2, .slice a2 n2 c2, .bool false, .slice (some ⟨g2, 0, none⟩) 1 d2] 54) := ⟨cells_box hHeld.1 hb6, cells_box hHeld.2 hb6⟩
      replace HZ5 := hid (HZ5.out.below hb6)
      have HZ6 := hid hz6
      obtain ⟨p6, m6, q6, rfl, _⟩ := hz6.sh
      clear hz6
      clear hb6
      refine ⟨_, rfl, hHeld, ?_⟩
      simp only [Act.put, List.setIfInBounds_toArray, List.set_cons_zero, List.set_cons_succ]
      refine wpAnyH_ready (rs := [10]) (by kernel_rfl) (by simp) ?_
      refine node_f46 15 9 14 (.agg #[.bool (decide (z1 < 0)), .slice p5 m5 q5]) (.agg #[.bool (decide (z2 < 0)), .slice p6 m6 q6]) rfl rfl rfl rfl rfl rfl ?_ AllReadyH.nil
      · refine (CM.out _ _ _ HZ5.out HZ6.out).mono ?_
        rintro e w7 ⟨rfl, hb7⟩
        have HB7 : Hid (Below w.heap.size w w7) := hid (below_step HB6.out hb7)
        have hHeld : w7.heap[X]? = some (.cells #[.bool b1, .slice a1 n1 c1, .bool false, .slice (some ⟨g1, 0, none⟩) 1 d1] 54) ∧ w7.heap[Y]? = some (.cells #[.bool b2, .slice a2 n2 c2, .bool false, .slice (some ⟨g2, 0, none⟩) 1 d2] 54) := ⟨cells_box hHeld.1 hb7, cells_box hHeld.2 hb7⟩
        replace HZ5 := hid (HZ5.out.below hb7)
        replace HZ6 := hid (HZ6.out.below hb7)
        clear hb7
        refine ⟨_, rfl, hHeld, ?_⟩
        simp only [Act.put, List.setIfInBounds_toArray, List.set_cons_zero, List.set_cons_succ]
        refine take_at (i := 11) 4 (v := .int .i64 r) rfl (by kernel_rfl) (by kernel_rfl) (by kernel_rfl) rfl (fun _ _ _ h => h) (by rfl) (fun w hSw => ?_) hHeld ?_
        · (try dsimp only at hSw); go_simp
        simp only [Act.put, List.setIfInBounds_toArray, List.set_cons_zero, List.set_cons_succ]
        refine wpAnyH_done (by kernel_rfl) ?_ _
        clear hHeld
        go_wp2_with fail
        go_ret
        exact ⟨rfl, HB7.out⟩
end Go.Proofs.YtlhmidecjiihcaaDoor
