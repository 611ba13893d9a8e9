/-
  Rationals: Whole (13), FromInt (59), Sign (17), Integer (37).
-/
import Derived.Test.YtlhmidecjiihcaaDoorWalkL
namespace Go.Proofs.YtlhmidecjiihcaaDoor
open Go.RowKit
set_option maxRecDepth 100000 in
set_option maxHeartbeats 4000000 in
theorem whole_any (z : Int) (k : Nat) (w : World) (hz : z = k) (hk : k < 4294967296) :
    Calls Tryd.prog 13 #[.int .i64 z] w fun e w' => ∃ x, e = .returned x ∧ RatZ w' x k ∧ Below w.heap.size w w' := by
  subst hz
  have OC := hid (fun w' => of_any (k : Int) k w' rfl hk)
  have OC1 := hid (fun w' => of_any 1 1 w' rfl (by decide))
  have HB1 := hid (ba w (.cells #[.bool false, .slice none 0 0, .bool false, .slice none 0 0] 54))
  have HR1 := hid (heap_alloc_new w (.cells #[.bool false, .slice none 0 0, .bool false, .slice none 0 0] 54))
  go_enter Tryd.func13, Tryd.ntmps13
  go_upto_region 1 with fail
  generalize w.alloc (.cells #[.bool false, .slice none 0 0, .bool false, .slice none 0 0] 54) = w1 at *
  go_wp2_with fail
  go_at_call 33
  with_reducible refine (OC.out _).mono ?_
  rintro e w2 ⟨v2, rfl, hz2, hb2⟩
  have HZ2 := hid hz2
  have HB2 : Hid (Below w.heap.size w w2) := hid (below_step HB1.out hb2)
  have HR2 := hid (cells_box HR1.out hb2)
  obtain ⟨a2, n2, c2, rfl, _⟩ := HZ2.out.sh
  clear hz2 hb2
  go_wp2_with fail
  go_at_call 33
  with_reducible refine (OC1.out _).mono ?_
  rintro e w3 ⟨v3, rfl, hz3, hb3⟩
  have HZ3 : Hid (IntZ w3 v3 1) := hid hz3
  have HB3 := hid (below_step HB2.out hb3)
  have HR3 := hid (cells_box HR2.out hb3)
  have HZ2b := hid (HZ2.out.below hb3)
  obtain ⟨g3, d3, rfl, _, _⟩ := HZ3.out.one
  obtain ⟨r0, r1, r2, r3⟩ := cells4_of HR3.out
  have f0 := free_box HR3.out 0
  have f1 := free_box HR3.out 1
  have f2 := free_box HR3.out 2
  have f3 := free_box HR3.out 3
  clear hz3 hb3
  go_wp2_with fail
  exact bodyPost_ret (v := .agg #[.bool (decide ((k : Int) < 0)), .slice a2 n2 c2, .bool false, .slice (some ⟨g3, 0, none⟩) 1 d3]) (by simp [results, Tryd.results13, go_sem, r0, r1, r2, r3]) rfl
    ⟨_, rfl, (show RatZ w3 _ k from ⟨a2, n2, c2, g3, d3, rfl, HZ2b.out, HZ3.out⟩).off (off_bool r0) (put4_off (b := decide ((k : Int) < 0)) (p := a2) (n := n2) (c := c2) (e := false) (q := some ⟨g3, 0, none⟩) (m := 1) (d := d3)), put4_below HB3.out (Nat.le_refl _)⟩
set_option maxRecDepth 100000 in
set_option maxHeartbeats 4000000 in
theorem fromInt_any (u : Value) (z1 : Int) (w : World) (hu : IntZ w u z1) :
    Calls Tryd.prog 59 #[u] w fun e w' => ∃ x, e = .returned x ∧ RatZ w' x z1 ∧ Below w.heap.size w w' := by
  obtain ⟨a1, n1, c1, rfl, _⟩ := hu.sh
  obtain ⟨b1, hb1⟩ : ∃ b, b = decide (z1 < 0) := ⟨_, rfl⟩
  have hn1 := hu
  rw [← hb1] at hn1 ⊢
  have HN1 : Hid (∀ w', Below w.heap.size w w' → IntZ w' (.agg #[.bool b1, .slice a1 n1 c1]) (z1)) := fun w' hb => hn1.below hb
  have HBE1 := hid hb1
  clear hn1 hb1 hu
  obtain ⟨X, R, w1, hw1, hX, hR, HX, HR, HB1, HRW, HXR⟩ := boxes2 w #[.bool b1, .slice a1 n1 c1] #[.bool false, .slice none 0 0, .bool false, .slice none 0 0] 52 54
  have HW1 := hid hw1
  have HXE := hid hX
  have HRE := hid hR
  clear hw1 hX hR
  go_enter Tryd.func59, Tryd.ntmps59
  go_upto_region 1 with fail
  rw [HW1.out, ← HRE.out, ← HXE.out]
  clear HW1 HXE HRE
  refine wp_region_held_drew (S := fun w' => w'.heap[X]? = some (.cells #[.bool b1, .slice a1 n1 c1] 52)) (by kernel_rfl) ((((Below.refl _ w1).drew).block X (heap_lt HX.out)).trans HX.out) (fun hHeld => ?_)
  have HU0 : Hid (Below w1.heap.size w1 w1.drew) := (Below.refl _ w1).drew
  have HBU : Hid (Below w.heap.size w w1.drew) := HB1.out.drew
  have HRU := hid (cells_box HR.out HU0.out)
  generalize w1.drew = u0 at *
  refine take_at (i := 0) 3 (v := .agg #[.bool b1, .slice a1 n1 c1]) rfl (by kernel_rfl) (by kernel_rfl) (by kernel_rfl) rfl (fun _ _ _ h => h) (by rfl) (fun w hSw => ?_) hHeld ?_
  · (try dsimp only at hSw); have sx := hSw; obtain ⟨x0, x1⟩ := cells2_of sx; go_simp
  simp only [Act.put, List.setIfInBounds_toArray, List.set_cons_zero, List.set_cons_succ]
  refine wpAnyH_ready (rs := [1]) (by kernel_rfl) (by simp) ?_
  refine node_f33c 4  rfl rfl rfl rfl ?_ AllReadyH.nil
  · refine (of_any 1 1 _ rfl (by decide)).mono ?_
    rintro e w4 ⟨x4, rfl, hz4, hb4⟩
    have HB4 : Hid (Below w.heap.size w w4) := hid (below_step HBU.out hb4)
    have HR4 := hid (cells_box HRU.out hb4)
    have hHeld : w4.heap[X]? = some (.cells #[.bool b1, .slice a1 n1 c1] 52) := cells_box hHeld hb4
    have HZ4 : Hid (IntZ w4 x4 1) := hz4
    obtain ⟨p4, q4, rfl, _, _⟩ := (show IntZ w4 x4 1 from hz4).one
    clear hz4
    clear hb4
    refine ⟨_, rfl, hHeld, ?_⟩
    simp only [Act.put, List.setIfInBounds_toArray, List.set_cons_zero, List.set_cons_succ]
    refine take_at (i := 2) 5 (v := .agg #[.bool b1, .slice a1 n1 c1, .bool false, .slice (some ⟨p4, 0, none⟩) 1 q4]) rfl (by kernel_rfl) (by kernel_rfl) (by kernel_rfl) rfl (fun _ _ _ h => h) (by rfl) (fun w hSw => ?_) hHeld ?_
    · (try dsimp only at hSw); go_simp
    simp only [Act.put, List.setIfInBounds_toArray, List.set_cons_zero, List.set_cons_succ]
    refine wpAnyH_ready (rs := [3]) (by kernel_rfl) (by simp) ?_
    refine node_store54 2 5 R _ _ _ _ _ _ _ _ _ _ _ _ rfl rfl rfl rfl rfl rfl HR4.out ((put4_off X HXR.out).trans hHeld) ?_ AllReadyH.nil
    · skip
      refine wpAnyH_done (by kernel_rfl) ?_ _
      clear hHeld
      obtain ⟨r0, r1, r2, r3⟩ := cells4_of HR4.out
      go_wp2_with fail
      exact bodyPost_ret (v := .agg #[.bool b1, .slice a1 n1 c1, .bool false, .slice (some ⟨p4, 0, none⟩) 1 q4]) (by simp [put4, results, Tryd.results59, go_sem, r0, r1, r2, r3]) rfl
        ⟨_, rfl, (show RatZ w4 (.agg #[.bool b1, .slice a1 n1 c1, .bool false, .slice (some ⟨p4, 0, none⟩) 1 q4]) z1 from ⟨a1, n1, c1, p4, q4, by rw [HBE1.out], by rw [← HBE1.out]; exact HN1.out w4 HB4.out, HZ4.out⟩).off (off_bool r0) put4_off, put4_below HB4.out HRW.out⟩
set_option maxRecDepth 100000 in
set_option maxHeartbeats 4000000 in
theorem rsign_any (u : Value) (z1 : Int) (w : World) (hu : RatZ w u z1) :
    Calls Tryd.prog 17 #[u] w fun e w' => e = .returned (.int .i64 (if z1 = 0 then 0 else if z1 < 0 then -1 else 1)) ∧ Below w.heap.size w w' := by
  obtain ⟨r, hr⟩ : ∃ r : Int, r = if z1 = 0 then 0 else if z1 < 0 then -1 else 1 := ⟨_, rfl⟩
  obtain ⟨a1, n1, c1, g1, d1, rfl, hn1, hd1⟩ := hu
  obtain ⟨b1, hb1⟩ : ∃ b, b = decide (z1 < 0) := ⟨_, rfl⟩
  rw [← hb1] at hn1 ⊢
  have HN1 : Hid (∀ w', Below w.heap.size w w' → IntZ w' (.agg #[.bool b1, .slice a1 n1 c1]) (z1)) := fun w' hb => hn1.below hb
  have HD1 : Hid (∀ w', Below w.heap.size w w' → IntZ w' (.agg #[.bool false, .slice (some ⟨g1, 0, none⟩) 1 d1]) 1) := fun w' hb => hd1.below hb
  have HBE1 := hid hb1
  have HA1 : Hid (∀ w', Below w.heap.size w w' → RatZ w' (.agg #[.bool b1, .slice a1 n1 c1, .bool false, .slice (some ⟨g1, 0, none⟩) 1 d1]) (z1)) := fun w' hb => ⟨a1, n1, c1, g1, d1, by rw [HBE1.out], by rw [← HBE1.out]; exact HN1.out w' hb, HD1.out w' hb⟩
  clear hn1 hd1 hb1
  have SG : Hid (∀ w', Below w.heap.size w w' → Calls Tryd.prog 34 #[.agg #[.bool b1, .slice a1 n1 c1]] w' fun e w'' => e = .returned (.int .i64 r) ∧ Below w'.heap.size w' w'') := fun w' hb => by rw [hr]; exact sign_any _ z1 w' (HN1.out w' hb)
  rw [← hr]
  have HB1 := hid (ba w (.cells #[.bool b1, .slice a1 n1 c1, .bool false, .slice (some ⟨g1, 0, none⟩) 1 d1] 54))
  obtain ⟨x0, x1, x2, x3⟩ := cells4_of (heap_alloc_new w (.cells #[.bool b1, .slice a1 n1 c1, .bool false, .slice (some ⟨g1, 0, none⟩) 1 d1] 54))
  clear hr
  have SG1 := hid (SG.out _ HB1.out)
  go_enter Tryd.func17, Tryd.ntmps17
  go_wp2_with (first | (go_at_call 34; refine SG1.out.mono ?_; rintro e w2 ⟨rfl, hb2⟩; have HB2 := hid (below_step HB1.out hb2); clear hb2) | fail)
  go_ret
  exact ⟨rfl, HB2.out⟩
set_option maxRecDepth 100000 in
set_option maxHeartbeats 4000000 in
theorem integer_any (u : Value) (z1 : Int) (w : World) (hu : RatZ w u z1) :
    Calls Tryd.prog 37 #[u] w fun e w' => e = .returned (.bool true) ∧ Below w.heap.size w w' := by
  obtain ⟨a1, n1, c1, g1, d1, rfl, hn1, hd1⟩ := hu
  obtain ⟨b1, hb1⟩ : ∃ b, b = decide (z1 < 0) := ⟨_, rfl⟩
  rw [← hb1] at hn1 ⊢
  have HN1 : Hid (∀ w', Below w.heap.size w w' → IntZ w' (.agg #[.bool b1, .slice a1 n1 c1]) (z1)) := fun w' hb => hn1.below hb
  have HD1 : Hid (∀ w', Below w.heap.size w w' → IntZ w' (.agg #[.bool false, .slice (some ⟨g1, 0, none⟩) 1 d1]) 1) := fun w' hb => hd1.below hb
  have HBE1 := hid hb1
  have HA1 : Hid (∀ w', Below w.heap.size w w' → RatZ w' (.agg #[.bool b1, .slice a1 n1 c1, .bool false, .slice (some ⟨g1, 0, none⟩) 1 d1]) (z1)) := fun w' hb => ⟨a1, n1, c1, g1, d1, by rw [HBE1.out], by rw [← HBE1.out]; exact HN1.out w' hb, HD1.out w' hb⟩
  clear hn1 hd1 hb1
  have HB1 := hid (ba w (.cells #[.bool b1, .slice a1 n1 c1, .bool false, .slice (some ⟨g1, 0, none⟩) 1 d1] 54))
  obtain ⟨x0, x1, x2, x3⟩ := cells4_of (heap_alloc_new w (.cells #[.bool b1, .slice a1 n1 c1, .bool false, .slice (some ⟨g1, 0, none⟩) 1 d1] 54))
  obtain ⟨g', d', e', hd', hc'⟩ := (HD1.out _ HB1.out).one
  cases e'
  go_enter Tryd.func37, Tryd.ntmps37
  go_wp2_with fail
  go_ret
  exact ⟨rfl, HB1.out⟩
end Go.Proofs.YtlhmidecjiihcaaDoor
