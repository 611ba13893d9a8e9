/-
  Numbers of one digit are parsed (44).
-/
import Derived.Test.YtlhmidecjiihcaaDoorWalkR
namespace Go.Proofs.YtlhmidecjiihcaaDoor
open Go.RowKit
set_option maxRecDepth 100000 in
set_option maxHeartbeats 4000000 in
theorem parse_0 (w : World) : Calls Tryd.prog 44 #[.string ⟨#[48]⟩] w fun e w' => ∃ x, e = .returned (.tuple #[x, .bool true]) ∧ RatZ w' x 0 ∧ Below w.heap.size w w' := by
  obtain ⟨w1, hw1⟩ : ∃ w1, w1 = w.alloc (.cells #[.bool false, .slice none 0 0, .bool false, .slice none 0 0] 54) := ⟨_, rfl⟩
  have HB1 : Hid (Below w.heap.size w w1) := by rw [hw1]; exact hid (ba _ _)
  have HR1 : Hid (w1.heap[w.heap.size]? = some (.cells #[.bool false, .slice none 0 0, .bool false, .slice none 0 0] 54)) := by rw [hw1]; exact hid (heap_alloc_new _ _)
  have CT := hid (cut_0 w1)
  have CP := hid (cp_0 w1)
  have RD := hid (read_0 w1)
  go_enter Tryd.func44, Tryd.ntmps44
  go_upto_region 1 with fail
  rw [← hw1]
  clear hw1
  go_wp2_with fail
  go_at_call 65
  refine CT.out.mono ?_
  rintro e w2 ⟨rfl, rfl⟩
  go_wp2_with fail
  go_at_call 66
  refine CP.out.mono ?_
  rintro e w2' ⟨rfl, rfl⟩
  go_wp2_with fail
  go_at_call 67
  refine RD.out.mono ?_
  rintro e w3 ⟨x3, rfl, hl3, hb3⟩
  have HB3 := hid (below_step HB1.out hb3)
  have HR3 := hid (cells_box HR1.out hb3)
  have HL3 : Hid (Lb w3 x3 0) := hid hl3
  have HL4 := hid (HL3.out.below (ba w3 (.cells #[.int .u32 1] 94)))
  have HC4 := hid (heap_alloc_new w3 (.cells #[.int .u32 1] 94))
  have HB4 := hid (below_step HB3.out (ba w3 (.cells #[.int .u32 1] 94)))
  have HR4 := hid (cells_box HR3.out (ba w3 (.cells #[.int .u32 1] 94)))
  obtain ⟨g4, hg4⟩ : ∃ g, g = w3.heap.size := ⟨_, rfl⟩
  obtain ⟨w4, hw4⟩ : ∃ w4, w4 = w3.alloc (.cells #[.int .u32 1] 94) := ⟨_, rfl⟩
  rw [← hw4] at HL4 HC4 HB4 HR4
  rw [← hg4] at HC4
  have HG4 := hid hg4
  have HW4 := hid hw4
  have HL1 : Hid (Lb w4 (.slice (some ⟨g4, 0, none⟩) 1 1) 1) := hid (Lb.one (by decide) (by decide) (by decide) (box1 HC4.out))
  obtain ⟨p3, m3, q3, rfl⟩ : ∃ p m q, x3 = .slice p m q := (by obtain ⟨p, q, e, _⟩ := hl3; exact ⟨p, _, q, e⟩)
  clear hl3 hb3 hg4 hw4
  go_upto_region 5 with fail
  rw [← HW4.out, ← HG4.out]
  go_wp2_with fail
  go_at_call 47
  refine (made_any false _ 0 w4 HL4.out).mono ?_
  rintro e w5 ⟨rfl, hb5⟩
  have HB5 := hid (below_step HB4.out hb5)
  have HR5 := hid (cells_box HR4.out hb5)
  have HL5 := hid (HL4.out.below hb5)
  have HL1b := hid (HL1.out.below hb5)
  clear hb5
  go_wp2_with fail
  go_at_call 47
  refine (made_any false _ 1 w5 HL1b.out).mono ?_
  rintro e w6' ⟨rfl, hb6⟩
  have HB6' := hid (below_step HB5.out hb6)
  have HR6' := hid (cells_box HR5.out hb6)
  have HL6 := hid (HL5.out.below hb6)
  have HL1c := hid (HL1b.out.below hb6)
  clear hb6
  go_upto_region 11 with fail
  have HG6 := hid (heap_alloc_new w6' (.cells #[.bool false, .slice p3 m3 q3, .bool false, .slice (some ⟨g4, 0, none⟩) 1 1] 54))
  have hb6 := ba w6' (.cells #[.bool false, .slice p3 m3 q3, .bool false, .slice (some ⟨g4, 0, none⟩) 1 1] 54)
  have HB6 := hid (below_step HB6'.out hb6)
  have HR6 := hid (cells_box HR6'.out hb6)
  have HZ : Hid (RatZ w6' (.agg #[.bool false, .slice p3 m3 q3, .bool false, .slice (some ⟨g4, 0, none⟩) 1 1]) 0) := hid ⟨p3, m3, q3, g4, 1, rfl, ⟨_, rfl, HL6.out⟩, ⟨_, rfl, HL1c.out⟩⟩
  replace HZ := hid (HZ.out.below hb6)
  obtain ⟨G, hG⟩ : ∃ G, G = w6'.heap.size := ⟨_, rfl⟩
  have HGR : Hid (G ≠ w.heap.size) := hid (by have := heap_lt HR6'.out; omega)
  rw [← hG] at HG6 ⊢
  generalize w6'.alloc (.cells #[.bool false, .slice p3 m3 q3, .bool false, .slice (some ⟨g4, 0, none⟩) 1 1] 54) = w6 at *
  clear hG hb6 HB1 HR1 HB3 HR3 HL3 HL4 HC4 HB4 HR4 HL1 HB5 HR5 HL5 HL1b HL6 HL1c HB6' HR6' CT CP RD HG4 HW4
  refine wp_region_held_drew (S := fun w' => w'.heap[G]? = some (.cells #[.bool false, .slice p3 m3 q3, .bool false, .slice (some ⟨g4, 0, none⟩) 1 1] 54)) (by kernel_rfl) ((((Below.refl _ w6).drew).block G (heap_lt HG6.out)).trans HG6.out) (fun hHeld => ?_)
  have HU0 : Hid (Below w6.heap.size w6 w6.drew) := (Below.refl _ w6).drew
  have HBU : Hid (Below w.heap.size w w6.drew) := HB6.out.drew
  have HRU := hid (cells_box HR6.out HU0.out)
  generalize w6.drew = u0 at *
  refine take_at (i := 0) 65 (v := .agg #[.bool false, .slice p3 m3 q3, .bool false, .slice (some ⟨g4, 0, none⟩) 1 1]) rfl (by kernel_rfl) (by kernel_rfl) (by kernel_rfl) rfl (fun _ _ _ h => h) (by rfl) (fun w hSw => ?_) hHeld ?_
  · (try dsimp only at hSw); have sx := hSw; obtain ⟨g0, g1, g2, g3⟩ := cells4_of sx; go_simp
  simp only [Act.put, List.setIfInBounds_toArray, List.set_cons_zero, List.set_cons_succ]
  refine take_at (i := 1) 66 (v := .bool false) rfl (by kernel_rfl) (by kernel_rfl) (by kernel_rfl) rfl (fun _ _ _ h => h) (by rfl) (fun w hSw => ?_) hHeld ?_
  · (try dsimp only at hSw); go_simp
  simp only [Act.put, List.setIfInBounds_toArray, List.set_cons_zero, List.set_cons_succ]
  refine take_at (i := 2) 67 (v := .bool true) rfl (by kernel_rfl) (by kernel_rfl) (by kernel_rfl) rfl (fun _ _ _ h => h) (by rfl) (fun w hSw => ?_) hHeld ?_
  · (try dsimp only at hSw); go_simp
  simp only [Act.put, List.setIfInBounds_toArray, List.set_cons_zero, List.set_cons_succ]
  refine take_at (i := 3) 68 (v := .bool true) rfl (by kernel_rfl) (by kernel_rfl) (by kernel_rfl) rfl (fun _ _ _ h => h) (by rfl) (fun w hSw => ?_) hHeld ?_
  · (try dsimp only at hSw); go_simp
  simp only [Act.put, List.setIfInBounds_toArray, List.set_cons_zero, List.set_cons_succ]
  refine skip_at (i := 4) 69 rfl (by kernel_rfl) (by kernel_rfl) (by kernel_rfl) rfl (fun _ _ _ h => h) (by rfl) hHeld ?_
  simp only [Act.put, List.setIfInBounds_toArray, List.set_cons_zero, List.set_cons_succ]
  refine skip_at (i := 5) 70 rfl (by kernel_rfl) (by kernel_rfl) (by kernel_rfl) rfl (fun _ _ _ h => h) (by rfl) hHeld ?_
  simp only [Act.put, List.setIfInBounds_toArray, List.set_cons_zero, List.set_cons_succ]
  refine skip_at (i := 6) 71 rfl (by kernel_rfl) (by kernel_rfl) (by kernel_rfl) rfl (fun _ _ _ h => h) (by rfl) hHeld ?_
  simp only [Act.put, List.setIfInBounds_toArray, List.set_cons_zero, List.set_cons_succ]
  refine skip_at (i := 7) 72 rfl (by kernel_rfl) (by kernel_rfl) (by kernel_rfl) rfl (fun _ _ _ h => h) (by rfl) hHeld ?_
  simp only [Act.put, List.setIfInBounds_toArray, List.set_cons_zero, List.set_cons_succ]
  refine skip_at (i := 8) 73 rfl (by kernel_rfl) (by kernel_rfl) (by kernel_rfl) rfl (fun _ _ _ h => h) (by rfl) hHeld ?_
  simp only [Act.put, List.setIfInBounds_toArray, List.set_cons_zero, List.set_cons_succ]
  refine skip_at (i := 9) 74 rfl (by kernel_rfl) (by kernel_rfl) (by kernel_rfl) rfl (fun _ _ _ h => h) (by rfl) hHeld ?_
  simp only [Act.put, List.setIfInBounds_toArray, List.set_cons_zero, List.set_cons_succ]
  refine skip_at (i := 10) 75 rfl (by kernel_rfl) (by kernel_rfl) (by kernel_rfl) rfl (fun _ _ _ h => h) (by rfl) hHeld ?_
  simp only [Act.put, List.setIfInBounds_toArray, List.set_cons_zero, List.set_cons_succ]
  refine skip_at (i := 11) 76 rfl (by kernel_rfl) (by kernel_rfl) (by kernel_rfl) rfl (fun _ _ _ h => h) (by rfl) hHeld ?_
  simp only [Act.put, List.setIfInBounds_toArray, List.set_cons_zero, List.set_cons_succ]
  refine take_at (i := 12) 77 (v := .bool true) rfl (by kernel_rfl) (by kernel_rfl) (by kernel_rfl) rfl (fun _ _ _ h => h) (by rfl) (fun w hSw => ?_) hHeld ?_
  · (try dsimp only at hSw); go_simp
  simp only [Act.put, List.setIfInBounds_toArray, List.set_cons_zero, List.set_cons_succ]
  refine wpAnyH_ready (rs := [13]) (by kernel_rfl) (by simp) ?_
  refine node_store54 2 65 w.heap.size _ _ _ _ _ _ _ _ _ _ _ _ rfl rfl rfl rfl rfl rfl HRU.out ((put4_off G HGR.out).trans hHeld) ?_ AllReadyH.nil
  · replace hHeld := (put4_off (w := u0) (b := false) (p := p3) (n := m3) (c := q3) (e := false) (q := some ⟨g4, 0, none⟩) (m := 1) (d := 1) G HGR.out).trans hHeld
    refine take_at (i := 14) 3 (v := .bool true) rfl (by kernel_rfl) (by kernel_rfl) (by kernel_rfl) rfl (fun _ _ _ h => h) (by rfl) (fun w hSw => ?_) hHeld ?_
    · (try dsimp only at hSw); go_simp
    simp only [Act.put, List.setIfInBounds_toArray, List.set_cons_zero, List.set_cons_succ]
    refine wpAnyH_done (by kernel_rfl) ?_ _
    clear hHeld
    obtain ⟨r0, r1, r2, r3⟩ := cells4_of HRU.out
    go_wp2_with fail
    exact bodyPost_ret (v := .tuple #[.agg #[.bool false, .slice p3 m3 q3, .bool false, .slice (some ⟨g4, 0, none⟩) 1 1], .bool true]) (by simp [put4, results, Tryd.results44, go_sem, r0, r1, r2, r3]) rfl
      ⟨_, rfl, (HZ.out.below HU0.out).off (off_bool r0) put4_off, put4_below HBU.out (Nat.le_refl _)⟩
set_option maxRecDepth 100000 in
set_option maxHeartbeats 4000000 in
theorem parse_1 (w : World) : Calls Tryd.prog 44 #[.string ⟨#[49]⟩] w fun e w' => ∃ x, e = .returned (.tuple #[x, .bool true]) ∧ RatZ w' x 1 ∧ Below w.heap.size w w' := by
  obtain ⟨w1, hw1⟩ : ∃ w1, w1 = w.alloc (.cells #[.bool false, .slice none 0 0, .bool false, .slice none 0 0] 54) := ⟨_, rfl⟩
  have HB1 : Hid (Below w.heap.size w w1) := by rw [hw1]; exact hid (ba _ _)
  have HR1 : Hid (w1.heap[w.heap.size]? = some (.cells #[.bool false, .slice none 0 0, .bool false, .slice none 0 0] 54)) := by rw [hw1]; exact hid (heap_alloc_new _ _)
  have CT := hid (cut_1 w1)
  have CP := hid (cp_1 w1)
  have RD := hid (read_1 w1)
  go_enter Tryd.func44, Tryd.ntmps44
  go_upto_region 1 with fail
  rw [← hw1]
  clear hw1
  go_wp2_with fail
  go_at_call 65
  refine CT.out.mono ?_
  rintro e w2 ⟨rfl, rfl⟩
  go_wp2_with fail
  go_at_call 66
  refine CP.out.mono ?_
  rintro e w2' ⟨rfl, rfl⟩
  go_wp2_with fail
  go_at_call 67
  refine RD.out.mono ?_
  rintro e w3 ⟨x3, rfl, hl3, hb3⟩
  have HB3 := hid (below_step HB1.out hb3)
  have HR3 := hid (cells_box HR1.out hb3)
  have HL3 : Hid (Lb w3 x3 1) := hid hl3
  have HL4 := hid (HL3.out.below (ba w3 (.cells #[.int .u32 1] 94)))
  have HC4 := hid (heap_alloc_new w3 (.cells #[.int .u32 1] 94))
  have HB4 := hid (below_step HB3.out (ba w3 (.cells #[.int .u32 1] 94)))
  have HR4 := hid (cells_box HR3.out (ba w3 (.cells #[.int .u32 1] 94)))
  obtain ⟨g4, hg4⟩ : ∃ g, g = w3.heap.size := ⟨_, rfl⟩
  obtain ⟨w4, hw4⟩ : ∃ w4, w4 = w3.alloc (.cells #[.int .u32 1] 94) := ⟨_, rfl⟩
  rw [← hw4] at HL4 HC4 HB4 HR4
  rw [← hg4] at HC4
  have HG4 := hid hg4
  have HW4 := hid hw4
  have HL1 : Hid (Lb w4 (.slice (some ⟨g4, 0, none⟩) 1 1) 1) := hid (Lb.one (by decide) (by decide) (by decide) (box1 HC4.out))
  obtain ⟨p3, m3, q3, rfl⟩ : ∃ p m q, x3 = .slice p m q := (by obtain ⟨p, q, e, _⟩ := hl3; exact ⟨p, _, q, e⟩)
  clear hl3 hb3 hg4 hw4
  go_upto_region 5 with fail
  rw [← HW4.out, ← HG4.out]
  go_wp2_with fail
  go_at_call 47
  refine (made_any false _ 1 w4 HL4.out).mono ?_
  rintro e w5 ⟨rfl, hb5⟩
  have HB5 := hid (below_step HB4.out hb5)
  have HR5 := hid (cells_box HR4.out hb5)
  have HL5 := hid (HL4.out.below hb5)
  have HL1b := hid (HL1.out.below hb5)
  clear hb5
  go_wp2_with fail
  go_at_call 47
  refine (made_any false _ 1 w5 HL1b.out).mono ?_
  rintro e w6' ⟨rfl, hb6⟩
  have HB6' := hid (below_step HB5.out hb6)
  have HR6' := hid (cells_box HR5.out hb6)
  have HL6 := hid (HL5.out.below hb6)
  have HL1c := hid (HL1b.out.below hb6)
  clear hb6
  go_upto_region 11 with fail
  have HG6 := hid (heap_alloc_new w6' (.cells #[.bool false, .slice p3 m3 q3, .bool false, .slice (some ⟨g4, 0, none⟩) 1 1] 54))
  have hb6 := ba w6' (.cells #[.bool false, .slice p3 m3 q3, .bool false, .slice (some ⟨g4, 0, none⟩) 1 1] 54)
  have HB6 := hid (below_step HB6'.out hb6)
  have HR6 := hid (cells_box HR6'.out hb6)
  have HZ : Hid (RatZ w6' (.agg #[.bool false, .slice p3 m3 q3, .bool false, .slice (some ⟨g4, 0, none⟩) 1 1]) 1) := hid ⟨p3, m3, q3, g4, 1, rfl, ⟨_, rfl, HL6.out⟩, ⟨_, rfl, HL1c.out⟩⟩
  replace HZ := hid (HZ.out.below hb6)
  obtain ⟨G, hG⟩ : ∃ G, G = w6'.heap.size := ⟨_, rfl⟩
  have HGR : Hid (G ≠ w.heap.size) := hid (by have := heap_lt HR6'.out; omega)
  rw [← hG] at HG6 ⊢
  generalize w6'.alloc (.cells #[.bool false, .slice p3 m3 q3, .bool false, .slice (some ⟨g4, 0, none⟩) 1 1] 54) = w6 at *
  clear hG hb6 HB1 HR1 HB3 HR3 HL3 HL4 HC4 HB4 HR4 HL1 HB5 HR5 HL5 HL1b HL6 HL1c HB6' HR6' CT CP RD HG4 HW4
  refine wp_region_held_drew (S := fun w' => w'.heap[G]? = some (.cells #[.bool false, .slice p3 m3 q3, .bool false, .slice (some ⟨g4, 0, none⟩) 1 1] 54)) (by kernel_rfl) ((((Below.refl _ w6).drew).block G (heap_lt HG6.out)).trans HG6.out) (fun hHeld => ?_)
  have HU0 : Hid (Below w6.heap.size w6 w6.drew) := (Below.refl _ w6).drew
  have HBU : Hid (Below w.heap.size w w6.drew) := HB6.out.drew
  have HRU := hid (cells_box HR6.out HU0.out)
  generalize w6.drew = u0 at *
  refine take_at (i := 0) 65 (v := .agg #[.bool false, .slice p3 m3 q3, .bool false, .slice (some ⟨g4, 0, none⟩) 1 1]) rfl (by kernel_rfl) (by kernel_rfl) (by kernel_rfl) rfl (fun _ _ _ h => h) (by rfl) (fun w hSw => ?_) hHeld ?_
  · (try dsimp only at hSw); have sx := hSw; obtain ⟨g0, g1, g2, g3⟩ := cells4_of sx; go_simp
  simp only [Act.put, List.setIfInBounds_toArray, List.set_cons_zero, List.set_cons_succ]
  refine take_at (i := 1) 66 (v := .bool false) rfl (by kernel_rfl) (by kernel_rfl) (by kernel_rfl) rfl (fun _ _ _ h => h) (by rfl) (fun w hSw => ?_) hHeld ?_
  · (try dsimp only at hSw); go_simp
  simp only [Act.put, List.setIfInBounds_toArray, List.set_cons_zero, List.set_cons_succ]
  refine take_at (i := 2) 67 (v := .bool true) rfl (by kernel_rfl) (by kernel_rfl) (by kernel_rfl) rfl (fun _ _ _ h => h) (by rfl) (fun w hSw => ?_) hHeld ?_
  · (try dsimp only at hSw); go_simp
  simp only [Act.put, List.setIfInBounds_toArray, List.set_cons_zero, List.set_cons_succ]
  refine take_at (i := 3) 68 (v := .bool true) rfl (by kernel_rfl) (by kernel_rfl) (by kernel_rfl) rfl (fun _ _ _ h => h) (by rfl) (fun w hSw => ?_) hHeld ?_
  · (try dsimp only at hSw); go_simp
  simp only [Act.put, List.setIfInBounds_toArray, List.set_cons_zero, List.set_cons_succ]
  refine skip_at (i := 4) 69 rfl (by kernel_rfl) (by kernel_rfl) (by kernel_rfl) rfl (fun _ _ _ h => h) (by rfl) hHeld ?_
  simp only [Act.put, List.setIfInBounds_toArray, List.set_cons_zero, List.set_cons_succ]
  refine skip_at (i := 5) 70 rfl (by kernel_rfl) (by kernel_rfl) (by kernel_rfl) rfl (fun _ _ _ h => h) (by rfl) hHeld ?_
  simp only [Act.put, List.setIfInBounds_toArray, List.set_cons_zero, List.set_cons_succ]
  refine skip_at (i := 6) 71 rfl (by kernel_rfl) (by kernel_rfl) (by kernel_rfl) rfl (fun _ _ _ h => h) (by rfl) hHeld ?_
  simp only [Act.put, List.setIfInBounds_toArray, List.set_cons_zero, List.set_cons_succ]
  refine skip_at (i := 7) 72 rfl (by kernel_rfl) (by kernel_rfl) (by kernel_rfl) rfl (fun _ _ _ h => h) (by rfl) hHeld ?_
  simp only [Act.put, List.setIfInBounds_toArray, List.set_cons_zero, List.set_cons_succ]
  refine skip_at (i := 8) 73 rfl (by kernel_rfl) (by kernel_rfl) (by kernel_rfl) rfl (fun _ _ _ h => h) (by rfl) hHeld ?_
  simp only [Act.put, List.setIfInBounds_toArray, List.set_cons_zero, List.set_cons_succ]
  refine skip_at (i := 9) 74 rfl (by kernel_rfl) (by kernel_rfl) (by kernel_rfl) rfl (fun _ _ _ h => h) (by rfl) hHeld ?_
  simp only [Act.put, List.setIfInBounds_toArray, List.set_cons_zero, List.set_cons_succ]
  refine skip_at (i := 10) 75 rfl (by kernel_rfl) (by kernel_rfl) (by kernel_rfl) rfl (fun _ _ _ h => h) (by rfl) hHeld ?_
  simp only [Act.put, List.setIfInBounds_toArray, List.set_cons_zero, List.set_cons_succ]
  refine skip_at (i := 11) 76 rfl (by kernel_rfl) (by kernel_rfl) (by kernel_rfl) rfl (fun _ _ _ h => h) (by rfl) hHeld ?_
  simp only [Act.put, List.setIfInBounds_toArray, List.set_cons_zero, List.set_cons_succ]
  refine take_at (i := 12) 77 (v := .bool true) rfl (by kernel_rfl) (by kernel_rfl) (by kernel_rfl) rfl (fun _ _ _ h => h) (by rfl) (fun w hSw => ?_) hHeld ?_
  · (try dsimp only at hSw); go_simp
  simp only [Act.put, List.setIfInBounds_toArray, List.set_cons_zero, List.set_cons_succ]
  refine wpAnyH_ready (rs := [13]) (by kernel_rfl) (by simp) ?_
  refine node_store54 2 65 w.heap.size _ _ _ _ _ _ _ _ _ _ _ _ rfl rfl rfl rfl rfl rfl HRU.out ((put4_off G HGR.out).trans hHeld) ?_ AllReadyH.nil
  · replace hHeld := (put4_off (w := u0) (b := false) (p := p3) (n := m3) (c := q3) (e := false) (q := some ⟨g4, 0, none⟩) (m := 1) (d := 1) G HGR.out).trans hHeld
    refine take_at (i := 14) 3 (v := .bool true) rfl (by kernel_rfl) (by kernel_rfl) (by kernel_rfl) rfl (fun _ _ _ h => h) (by rfl) (fun w hSw => ?_) hHeld ?_
    · (try dsimp only at hSw); go_simp
    simp only [Act.put, List.setIfInBounds_toArray, List.set_cons_zero, List.set_cons_succ]
    refine wpAnyH_done (by kernel_rfl) ?_ _
    clear hHeld
    obtain ⟨r0, r1, r2, r3⟩ := cells4_of HRU.out
    go_wp2_with fail
    exact bodyPost_ret (v := .tuple #[.agg #[.bool false, .slice p3 m3 q3, .bool false, .slice (some ⟨g4, 0, none⟩) 1 1], .bool true]) (by simp [put4, results, Tryd.results44, go_sem, r0, r1, r2, r3]) rfl
      ⟨_, rfl, (HZ.out.below HU0.out).off (off_bool r0) put4_off, put4_below HBU.out (Nat.le_refl _)⟩
end Go.Proofs.YtlhmidecjiihcaaDoor
