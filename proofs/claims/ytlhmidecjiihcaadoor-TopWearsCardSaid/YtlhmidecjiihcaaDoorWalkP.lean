/-
  Rationals: Sub (49), Ratio (42) over 1.
-/
import Derived.Test.YtlhmidecjiihcaaDoorWalkO
namespace Go.Proofs.YtlhmidecjiihcaaDoor
open Go.RowKit
set_option maxRecDepth 100000 in
set_option maxHeartbeats 4000000 in
theorem rsub_any (u v : Value) (z1 z2 : Int) (w : World) (hu : RatZ w u z1) (hv : RatZ w v z2) (hz1 : z1.natAbs < 2147483648) (hz2 : z2.natAbs < 2147483648) :
    Calls Tryd.prog 49 #[u, v] w fun e w' => ∃ x, e = .returned x ∧ RatZ w' x (z1 - z2) ∧ Below w.heap.size w w' := by
  obtain ⟨a1, n1, c1, g1, d1, rfl, hn1, hd1⟩ := hu
  obtain ⟨b1, hb1⟩ : ∃ b, b = decide (z1 < 0) := ⟨_, rfl⟩
  rw [← hb1] at hn1 ⊢
  have HN1 : Hid (∀ w', Below w.heap.size w w' → IntZ w' (.agg #[.bool b1, .slice a1 n1 c1]) (z1)) := fun w' hb => hn1.below hb
  have HD1 : Hid (∀ w', Below w.heap.size w w' → IntZ w' (.agg #[.bool false, .slice (some ⟨g1, 0, none⟩) 1 d1]) 1) := fun w' hb => hd1.below hb
  have HBE1 := hid hb1
  have HA1 : Hid (∀ w', Below w.heap.size w w' → RatZ w' (.agg #[.bool b1, .slice a1 n1 c1, .bool false, .slice (some ⟨g1, 0, none⟩) 1 d1]) (z1)) := fun w' hb => ⟨a1, n1, c1, g1, d1, by rw [HBE1.out], by rw [← HBE1.out]; exact HN1.out w' hb, HD1.out w' hb⟩
  clear hn1 hd1 hb1
  obtain ⟨a2, n2, c2, g2, d2, rfl, hn2, hd2⟩ := hv
  obtain ⟨b2, hb2⟩ : ∃ b, b = decide (z2 < 0) := ⟨_, rfl⟩
  rw [← hb2] at hn2 ⊢
  have HN2 : Hid (∀ w', Below w.heap.size w w' → IntZ w' (.agg #[.bool b2, .slice a2 n2 c2]) (z2)) := fun w' hb => hn2.below hb
  have HD2 : Hid (∀ w', Below w.heap.size w w' → IntZ w' (.agg #[.bool false, .slice (some ⟨g2, 0, none⟩) 1 d2]) 1) := fun w' hb => hd2.below hb
  have HBE2 := hid hb2
  have HA2 : Hid (∀ w', Below w.heap.size w w' → RatZ w' (.agg #[.bool b2, .slice a2 n2 c2, .bool false, .slice (some ⟨g2, 0, none⟩) 1 d2]) (z2)) := fun w' hb => ⟨a2, n2, c2, g2, d2, by rw [HBE2.out], by rw [← HBE2.out]; exact HN2.out w' hb, HD2.out w' hb⟩
  clear hn2 hd2 hb2
  obtain ⟨X, Y, R, w1, hw1, hX, hY, hR, HX, HY, HR, HB1, HRW, HXR, HYR⟩ := boxes3 w #[.bool b1, .slice a1 n1 c1, .bool false, .slice (some ⟨g1, 0, none⟩) 1 d1] #[.bool b2, .slice a2 n2 c2, .bool false, .slice (some ⟨g2, 0, none⟩) 1 d2] #[.bool false, .slice none 0 0, .bool false, .slice none 0 0] 54 54 54
  have HW1 := hid hw1
  have HXE := hid hX
  have HYE := hid hY
  have HRE := hid hR
  clear hw1 hX hY hR
  go_enter Tryd.func49, Tryd.ntmps49
  go_upto_region 1 with fail
  rw [HW1.out, ← HRE.out, ← HYE.out, ← HXE.out]
  clear HW1 HXE HYE HRE
  refine wp_region_held_drew (S := fun w' => w'.heap[X]? = some (.cells #[.bool b1, .slice a1 n1 c1, .bool false, .slice (some ⟨g1, 0, none⟩) 1 d1] 54) ∧ w'.heap[Y]? = some (.cells #[.bool b2, .slice a2 n2 c2, .bool false, .slice (some ⟨g2, 0, none⟩) 1 d2] 54)) (by kernel_rfl) (⟨(((Below.refl _ w1).drew).block X (heap_lt HX.out)).trans HX.out, (((Below.refl _ w1).drew).block Y (heap_lt HY.out)).trans HY.out⟩) (fun hHeld => ?_)
  have HU0 : Hid (Below w1.heap.size w1 w1.drew) := (Below.refl _ w1).drew
  have HBU : Hid (Below w.heap.size w w1.drew) := HB1.out.drew
  have HRU := hid (cells_box HR.out HU0.out)
  generalize w1.drew = u0 at *
  refine take_at (i := 0) 5 (v := .agg #[.bool b1, .slice a1 n1 c1, .bool false, .slice (some ⟨g1, 0, none⟩) 1 d1]) rfl (by kernel_rfl) (by kernel_rfl) (by kernel_rfl) rfl (fun _ _ _ h => h) (by rfl) (fun w hSw => ?_) hHeld ?_
  · (try dsimp only at hSw); obtain ⟨sx, sy⟩ := hSw; obtain ⟨x0, x1, x2, x3⟩ := cells4_of sx; obtain ⟨y0, y1, y2, y3⟩ := cells4_of sy; go_simp
  simp only [Act.put, List.setIfInBounds_toArray, List.set_cons_zero, List.set_cons_succ]
  refine take_at (i := 1) 6 (v := .agg #[.bool b2, .slice a2 n2 c2, .bool false, .slice (some ⟨g2, 0, none⟩) 1 d2]) rfl (by kernel_rfl) (by kernel_rfl) (by kernel_rfl) rfl (fun _ _ _ h => h) (by rfl) (fun w hSw => ?_) hHeld ?_
  · (try dsimp only at hSw); obtain ⟨sx, sy⟩ := hSw; obtain ⟨x0, x1, x2, x3⟩ := cells4_of sx; obtain ⟨y0, y1, y2, y3⟩ := cells4_of sy; go_simp
  simp only [Act.put, List.setIfInBounds_toArray, List.set_cons_zero, List.set_cons_succ]
  refine wpAnyH_ready (rs := [2]) (by kernel_rfl) (by simp) ?_
  refine node_f71 7 6 (.agg #[.bool b2, .slice a2 n2 c2, .bool false, .slice (some ⟨g2, 0, none⟩) 1 d2]) rfl rfl rfl rfl rfl ?_ AllReadyH.nil
  · refine (rneg_any _ z2 _ (HA2.out _ HBU.out)).mono ?_
    rintro e w5 ⟨x5, rfl, hz5, hb5⟩
    have HB5 : Hid (Below w.heap.size w w5) := hid (below_step HBU.out hb5)
    have HR5 := hid (cells_box HRU.out hb5)
    have hHeld : w5.heap[X]? = some (.cells #[.bool b1, .slice a1 n1 c1, .bool false, .slice (some ⟨g1, 0, none⟩) 1 d1] 54) ∧ w5.heap[Y]? = some (.cells #[.bool b2, .slice a2 n2 c2, .bool false, .slice (some ⟨g2, 0, none⟩) 1 d2] 54) := ⟨cells_box hHeld.1 hb5, cells_box hHeld.2 hb5⟩
    have HZ5 := hid hz5
    obtain ⟨p5, m5, q5, s5, t5, hx5, _, _⟩ := hz5
    subst hx5
    clear hb5
    refine ⟨_, rfl, hHeld, ?_⟩
    simp only [Act.put, List.setIfInBounds_toArray, List.set_cons_zero, List.set_cons_succ]
    refine wpAnyH_ready (rs := [3]) (by kernel_rfl) (by simp) ?_
    refine node_f45 8 5 7 (.agg #[.bool b1, .slice a1 n1 c1, .bool false, .slice (some ⟨g1, 0, none⟩) 1 d1]) (.agg #[.bool (decide (-z2 < 0)), .slice p5 m5 q5, .bool false, .slice (some ⟨s5, 0, none⟩) 1 t5]) rfl rfl rfl rfl rfl rfl ?_ AllReadyH.nil
    · refine (radd_any _ _ z1 (-z2) _ (HA1.out _ HB5.out) HZ5.out hz1 (by omega)).mono ?_
      rintro e w6 ⟨x6, rfl, hz6, hb6⟩
      have HB6 : Hid (Below w.heap.size w w6) := hid (below_step HB5.out hb6)
      have HR6 := hid (cells_box HR5.out hb6)
      have hHeld : w6.heap[X]? = some (.cells #[.bool b1, .slice a1 n1 c1, .bool false, .slice (some ⟨g1, 0, none⟩) 1 d1] 54) ∧ w6.heap[Y]? = some (.cells #[.bool b2, .slice a2 n2 c2, .bool false, .slice (some ⟨g2, 0, none⟩) 1 d2] 54) := ⟨cells_box hHeld.1 hb6, cells_box hHeld.2 hb6⟩
      replace HZ5 := hid (HZ5.out.below hb6)
      have HZ6 := hid hz6
      obtain ⟨p6, m6, q6, s6, t6, hx6, _, _⟩ := hz6
      subst hx6
      clear hb6
      refine ⟨_, rfl, hHeld, ?_⟩
      simp only [Act.put, List.setIfInBounds_toArray, List.set_cons_zero, List.set_cons_succ]
      refine wpAnyH_ready (rs := [4]) (by kernel_rfl) (by simp) ?_
      refine node_store54 4 8 R _ _ _ _ _ _ _ _ _ _ _ _ rfl rfl rfl rfl rfl rfl HR6.out (⟨(put4_off X HXR.out).trans hHeld.1, (put4_off Y HYR.out).trans hHeld.2⟩) ?_ AllReadyH.nil
      · skip
        refine wpAnyH_done (by kernel_rfl) ?_ _
        clear hHeld
        obtain ⟨r0, r1, r2, r3⟩ := cells4_of HR6.out
        go_wp2_with fail
        exact bodyPost_ret (v := .agg #[.bool (decide (z1 + -z2 < 0)), .slice p6 m6 q6, .bool false, .slice (some ⟨s6, 0, none⟩) 1 t6]) (by simp [put4, results, Tryd.results49, go_sem, r0, r1, r2, r3]) rfl
          ⟨_, rfl, (show RatZ w6 (.agg #[.bool (decide (z1 + -z2 < 0)), .slice p6 m6 q6, .bool false, .slice (some ⟨s6, 0, none⟩) 1 t6]) (z1 - z2) from (by rw [Int.sub_eq_add_neg]; exact HZ6.out)).off (off_bool r0) put4_off, put4_below HB6.out HRW.out⟩
set_option maxRecDepth 100000 in
set_option maxHeartbeats 4000000 in
theorem ratio1_any (u v : Value) (k : Nat) (w : World) (hu : IntZ w u k) (hv : IntZ w v 1) (hk : 1 ≤ k) :
    Calls Tryd.prog 42 #[u, v] w fun e w' => ∃ x, e = .returned x ∧ RatZ w' x k ∧ Below w.heap.size w w' := by
  have CM : Hid (∀ w' x y, IntZ w' x 1 → IntZ w' y 1 → Calls Tryd.prog 46 #[x, y] w' fun e w'' => e = .returned (.int .i64 0) ∧ Below w'.heap.size w' w'') := fun w' x y hx hy => by
    have h := cmp_any x y 1 1 w' hx hy (by decide) (by decide)
    rwa [rcmp_eq, if_pos rfl] at h
  have HNV := hid hv
  obtain ⟨g2, d2, rfl, _, _⟩ := hv.one
  have HN2 : Hid (∀ w', Below w.heap.size w w' → IntZ w' (.agg #[.bool false, .slice (some ⟨g2, 0, none⟩) 1 d2]) 1) := fun w' hb => HNV.out.below hb
  clear hv HNV
  obtain ⟨a1, n1, c1, rfl, _⟩ := hu.sh
  obtain ⟨b1, hb1⟩ : ∃ b, b = decide ((k : Int) < 0) := ⟨_, rfl⟩
  have hn1 := hu
  rw [← hb1] at hn1 ⊢
  have HN1 : Hid (∀ w', Below w.heap.size w w' → IntZ w' (.agg #[.bool b1, .slice a1 n1 c1]) ((k : Int))) := fun w' hb => hn1.below hb
  have HBE1 := hid hb1
  clear hn1 hb1 hu
  obtain ⟨X, Y, R, w1, hw1, hX, hY, hR, HX, HY, HR, HB1, HRW, HXR, HYR⟩ := boxes3 w #[.bool b1, .slice a1 n1 c1] #[.bool false, .slice (some ⟨g2, 0, none⟩) 1 d2] #[.bool false, .slice none 0 0, .bool false, .slice none 0 0] 52 52 54
  have HW1 := hid hw1
  have HXE := hid hX
  have HYE := hid hY
  have HRE := hid hR
  clear hw1 hX hY hR
  have GC := hid (gcd1_any _ _ k w1 (HN1.out w1 HB1.out) (HN2.out w1 HB1.out) hk)
  obtain ⟨x0, x1⟩ := cells2_of HX.out
  obtain ⟨y0, y1⟩ := cells2_of HY.out
  go_enter Tryd.func42, Tryd.ntmps42
  go_upto_region 1 with fail
  rw [HW1.out, ← HRE.out, ← HYE.out, ← HXE.out]
  clear HW1 HXE HYE HRE
  go_upto_region 4 with (first | (go_at_call 62; refine GC.out.mono ?_; rintro e w3 ⟨v3, rfl, hz3, hb3⟩; have HB3 := hid (below_step HB1.out hb3); have HX3 := hid (cells_box HX.out hb3); have HY3 := hid (cells_box HY.out hb3); have HR3 := hid (cells_box HR.out hb3); have HZ3r : Hid (IntZ w3 v3 1) := hid hz3; obtain ⟨g3, d3, rfl, _, _⟩ := HZ3r.out.one; clear hz3 hb3 x0 x1 y0 y1) | fail)
  have HGG := heap_alloc_new w3 (.cells #[.bool false, .slice (some ⟨g3, 0, none⟩) 1 d3] 52)
  have HB34 := ba w3 (.cells #[.bool false, .slice (some ⟨g3, 0, none⟩) 1 d3] 52)
  obtain ⟨G, hG⟩ : ∃ G, G = w3.heap.size := ⟨_, rfl⟩
  have HGR : Hid (G ≠ R) := hid (by have := heap_lt HR3.out; omega)
  rw [← hG] at HGG ⊢
  clear hG
  generalize w3.alloc (.cells #[.bool false, .slice (some ⟨g3, 0, none⟩) 1 d3] 52) = w4 at *
  have HX4 := hid (cells_box HX3.out HB34)
  have HY4 := hid (cells_box HY3.out HB34)
  have HR4 := hid (cells_box HR3.out HB34)
  have HG4 := hid HGG
  have HB4 := hid (below_step HB3.out HB34)
  have HZ3 := hid (HZ3r.out.below HB34)
  have HU : Hid (Below w4.heap.size w4 w4) := Below.refl _ _
  clear HGG HB34 HX HY HR HX3 HY3 HR3 HB1 HB3 HZ3r GC
  refine wp_region_held_drew (S := fun w' => w'.heap[X]? = some (.cells #[.bool b1, .slice a1 n1 c1] 52) ∧ w'.heap[Y]? = some (.cells #[.bool false, .slice (some ⟨g2, 0, none⟩) 1 d2] 52) ∧ w'.heap[G]? = some (.cells #[.bool false, .slice (some ⟨g3, 0, none⟩) 1 d3] 52)) (by kernel_rfl) (⟨(((Below.refl _ w4).drew).block X (heap_lt HX4.out)).trans HX4.out, (((Below.refl _ w4).drew).block Y (heap_lt HY4.out)).trans HY4.out, (((Below.refl _ w4).drew).block G (heap_lt HG4.out)).trans HG4.out⟩) (fun hHeld => ?_)
  have HU0 : Hid (Below w4.heap.size w4 w4.drew) := (Below.refl _ w4).drew
  have HBU : Hid (Below w.heap.size w w4.drew) := HB4.out.drew
  have HRU := hid (cells_box HR4.out HU0.out)
  generalize w4.drew = u0 at *
  replace HZ3 := hid (HZ3.out.below HU0.out)
  refine take_at (i := 0) 19 (v := .agg #[.bool false, .slice (some ⟨g3, 0, none⟩) 1 d3]) rfl (by kernel_rfl) (by kernel_rfl) (by kernel_rfl) rfl (fun _ _ _ h => h) (by rfl) (fun w hSw => ?_) hHeld ?_
  · (try dsimp only at hSw); obtain ⟨sx, sy, sg⟩ := hSw; obtain ⟨x0, x1⟩ := cells2_of sx; obtain ⟨y0, y1⟩ := cells2_of sy; obtain ⟨g0, g1⟩ := cells2_of sg; go_simp
  simp only [Act.put, List.setIfInBounds_toArray, List.set_cons_zero, List.set_cons_succ]
  refine wpAnyH_ready (rs := [1]) (by kernel_rfl) (by simp) ?_
  refine node_f33c 20  rfl rfl rfl rfl ?_ AllReadyH.nil
  · refine (of_any 1 1 _ rfl (by decide)).mono ?_
    rintro e w5 ⟨x5, rfl, hz5, hb5⟩
    have HB5 : Hid (Below w.heap.size w w5) := hid (below_step HBU.out hb5)
    have HR5 := hid (cells_box HRU.out hb5)
    have hHeld : w5.heap[X]? = some (.cells #[.bool b1, .slice a1 n1 c1] 52) ∧ w5.heap[Y]? = some (.cells #[.bool false, .slice (some ⟨g2, 0, none⟩) 1 d2] 52) ∧ w5.heap[G]? = some (.cells #[.bool false, .slice (some ⟨g3, 0, none⟩) 1 d3] 52) := ⟨cells_box hHeld.1 hb5, cells_box hHeld.2.1 hb5, cells_box hHeld.2.2 hb5⟩
    replace HZ3 := hid (HZ3.out.below hb5)
    have HZ5 : Hid (IntZ w5 x5 1) := hz5
    obtain ⟨p5, q5, rfl, _, _⟩ := (show IntZ w5 x5 1 from hz5).one
    clear hz5
    clear hb5
    refine ⟨_, rfl, hHeld, ?_⟩
    simp only [Act.put, List.setIfInBounds_toArray, List.set_cons_zero, List.set_cons_succ]
    refine wpAnyH_ready (rs := [2]) (by kernel_rfl) (by simp) ?_
    refine node_f46 21 19 20 (.agg #[.bool false, .slice (some ⟨g3, 0, none⟩) 1 d3]) (.agg #[.bool false, .slice (some ⟨p5, 0, none⟩) 1 q5]) rfl rfl rfl rfl rfl rfl ?_ AllReadyH.nil
    · refine (CM.out _ _ _ HZ3.out HZ5.out).mono ?_
      rintro e w6 ⟨rfl, hb6⟩
      have HB6 : Hid (Below w.heap.size w w6) := hid (below_step HB5.out hb6)
      have HR6 := hid (cells_box HR5.out hb6)
      have hHeld : w6.heap[X]? = some (.cells #[.bool b1, .slice a1 n1 c1] 52) ∧ w6.heap[Y]? = some (.cells #[.bool false, .slice (some ⟨g2, 0, none⟩) 1 d2] 52) ∧ w6.heap[G]? = some (.cells #[.bool false, .slice (some ⟨g3, 0, none⟩) 1 d3] 52) := ⟨cells_box hHeld.1 hb6, cells_box hHeld.2.1 hb6, cells_box hHeld.2.2 hb6⟩
      replace HZ3 := hid (HZ3.out.below hb6)
      replace HZ5 := hid (HZ5.out.below hb6)
      clear hb6
      refine ⟨_, rfl, hHeld, ?_⟩
      simp only [Act.put, List.setIfInBounds_toArray, List.set_cons_zero, List.set_cons_succ]
      refine take_at (i := 3) 22 (v := .bool true) rfl (by kernel_rfl) (by kernel_rfl) (by kernel_rfl) rfl (fun _ _ _ h => h) (by rfl) (fun w hSw => ?_) hHeld ?_
      · (try dsimp only at hSw); go_simp
      simp only [Act.put, List.setIfInBounds_toArray, List.set_cons_zero, List.set_cons_succ]
      refine wpAnyH_done (by kernel_rfl) ?_ _
      obtain ⟨x0, x1⟩ := cells2_of hHeld.1
      obtain ⟨y0, y1⟩ := cells2_of hHeld.2.1
      clear hHeld
      obtain ⟨r0, r1, r2, r3⟩ := cells4_of HR6.out
      have f0 := free_box HR6.out 0
      have f1 := free_box HR6.out 1
      have f2 := free_box HR6.out 2
      have f3 := free_box HR6.out 3
      go_wp2_with fail
      exact bodyPost_ret (v := .agg #[.bool b1, .slice a1 n1 c1, .bool false, .slice (some ⟨g2, 0, none⟩) 1 d2]) (by simp [results, Tryd.results42, go_sem, r0, r1, r2, r3]) rfl
        ⟨_, rfl, (show RatZ w6 (.agg #[.bool b1, .slice a1 n1 c1, .bool false, .slice (some ⟨g2, 0, none⟩) 1 d2]) k from ⟨a1, n1, c1, g2, d2, by rw [HBE1.out], by rw [← HBE1.out]; exact HN1.out w6 HB6.out, HN2.out w6 HB6.out⟩).off (off_bool r0) (put4_off (b := b1) (p := a1) (n := n1) (c := c1) (e := false) (q := some ⟨g2, 0, none⟩) (m := 1) (d := d2)), put4_below HB6.out HRW.out⟩
end Go.Proofs.YtlhmidecjiihcaaDoor
