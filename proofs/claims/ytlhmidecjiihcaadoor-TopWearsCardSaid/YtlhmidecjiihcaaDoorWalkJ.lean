/-
  Integers: Neg (61), Add (69).
-/
import Derived.Test.YtlhmidecjiihcaaDoorWalkI
namespace Go.Proofs.YtlhmidecjiihcaaDoor
open Go.RowKit
theorem boxes2 (w : World) (cx cr : Array Value) (tx tr : TypeId) : ∃ X R w1, (w.alloc (.cells cx tx)).alloc (.cells cr tr) = w1 ∧ X = w.heap.size ∧ R = w.heap.size + 1 ∧ Hid (w1.heap[X]? = some (.cells cx tx)) ∧ Hid (w1.heap[R]? = some (.cells cr tr)) ∧ Hid (Below w.heap.size w w1) ∧ Hid (w.heap.size ≤ R) ∧ Hid (X ≠ R) := by
  refine ⟨_, _, _, rfl, rfl, rfl, ?_, ?_, ?_, ?_, ?_⟩
  · exact (heap_alloc_old _ _ (by simp)).trans (heap_alloc_new w (.cells cx tx))
  · have h1 := heap_alloc_new (w.alloc (.cells cx tx)) (.cells cr tr)
    have e : (w.alloc (.cells cx tx)).heap.size = w.heap.size + 1 := by simp
    rw [e] at h1
    exact h1
  · exact ((Below.refl _ w).alloc (Nat.le_refl _) _).alloc (by simp) _
  · show w.heap.size ≤ _; omega
  · show _ ≠ _; omega
theorem sg_neg (z : Int) : ((!decide (z < 0)) && decide (0 < z.natAbs)) = decide (-z < 0) := by
  rw [Bool.eq_iff_iff]
  simp only [Bool.and_eq_true, Bool.not_eq_true', decide_eq_false_iff_not, decide_eq_true_eq]
  omega
set_option maxRecDepth 100000 in
set_option maxHeartbeats 2000000 in
theorem neg_any (u : Value) (z : Int) (w : World) (hu : IntZ w u z) :
    Calls Tryd.prog 61 #[u] w fun e w' => ∃ x, e = .returned x ∧ IntZ w' x (-z) ∧ Below w.heap.size w w' := by
  obtain ⟨a1, n1, c1, rfl, hl1⟩ := hu.sh
  obtain ⟨b1, hb1⟩ : ∃ b, b = decide (z < 0) := ⟨_, rfl⟩
  rw [← hb1]
  have HSG : Hid (decide (-z < 0) = ((!b1) && decide (0 < z.natAbs))) := by rw [hb1]; exact (sg_neg z).symm
  have HAB : Hid ((-z).natAbs = z.natAbs) := Int.natAbs_neg z
  obtain ⟨X, R, w1, hw1, hX, hR, HX, HR, HB1, HRW, HXR⟩ := boxes2 w #[.bool b1, .slice a1 n1 c1] #[.bool false, .slice none 0 0] 52 52
  have HL1 := hid (hl1.below HB1.out)
  have HW1 := hid hw1
  have HXE := hid hX
  have HRE := hid hR
  clear hu hl1 hb1 hw1 hX hR
  go_enter Tryd.func61, Tryd.ntmps61
  go_upto_region 1 with fail
  rw [HW1.out, ← HRE.out, ← HXE.out]
  clear HW1 HXE HRE
  obtain ⟨x0, x1⟩ := cells2_of HX.out
  have MC := hid (made_any (!b1) (.slice a1 n1 c1) z.natAbs w1 HL1.out)
  go_wp2_with (first
    | (go_at_call 47; refine MC.out.mono ?_; rintro e w3 ⟨rfl, hb3⟩; have HR3 := hid (cells_box HR.out hb3); have HB3 := hid (below_step HB1.out hb3); have HL3 := hid (HL1.out.below hb3); obtain ⟨r0, r1⟩ := cells2_of HR3.out; have f0 := free_box HR3.out 0; have f1 := free_box HR3.out 1; clear hb3)
    | fail)
  exact bodyPost_ret (v := .agg #[.bool ((!b1) && decide (0 < z.natAbs)), .slice a1 n1 c1]) (by simp [results, Tryd.results61, go_sem, r0, r1]) rfl
    ⟨_, rfl, ⟨.slice a1 n1 c1, by rw [HSG.out], by rw [HAB.out]; exact HL3.out.off (off_bool r0) off2⟩, below_set (below_set HB3.out HRW.out) HRW.out⟩
set_option maxRecDepth 100000 in
set_option maxHeartbeats 4000000 in
theorem add_any (u v : Value) (z1 z2 : Int) (w : World) (hu : IntZ w u z1) (hv : IntZ w v z2) (hz1 : z1.natAbs < 2147483648) (hz2 : z2.natAbs < 2147483648) :
    Calls Tryd.prog 69 #[u, v] w fun e w' => ∃ x, e = .returned x ∧ IntZ w' x (z1 + z2) ∧ Below w.heap.size w w' := by
  obtain ⟨a1, n1, c1, rfl, hl1⟩ := hu.sh
  obtain ⟨a2, n2, c2, rfl, hl2⟩ := hv.sh
  obtain ⟨b1, hb1⟩ : ∃ b, b = decide (z1 < 0) := ⟨_, rfl⟩
  obtain ⟨b2, hb2⟩ : ∃ b, b = decide (z2 < 0) := ⟨_, rfl⟩
  rw [← hb1, ← hb2]
  have HN1 := hid hb1
  have HN2 := hid hb2
  obtain ⟨X, Y, R, w1, hw1, hX, hY, hR, HX, HY, HR, HB1, HRW, HXR, HYR⟩ := boxes3 w #[.bool b1, .slice a1 n1 c1] #[.bool b2, .slice a2 n2 c2] #[.bool false, .slice none 0 0] 52 52 52
  have HL1 := hid (hl1.below HB1.out)
  have HL2 := hid (hl2.below HB1.out)
  have HW1 := hid hw1
  have HXE := hid hX
  have HYE := hid hY
  have HRE := hid hR
  clear hu hv hl1 hl2 hb1 hb2 hw1 hX hY hR
  go_enter Tryd.func69, Tryd.ntmps69
  go_upto_region 1 with fail
  rw [HW1.out, ← HRE.out, ← HYE.out, ← HXE.out]
  clear HW1 HXE HYE HRE
  obtain ⟨x0, x1⟩ := cells2_of HX.out
  obtain ⟨y0, y1⟩ := cells2_of HY.out
  by_cases hbb : b1 = b2
  · have hb12 : (b1 == b2) = true := by rw [hbb]; cases b2 <;> rfl
    have hsum : z1.natAbs + z2.natAbs < 4294967296 := by omega
    have HSG : Hid (decide (z1 + z2 < 0) = ((b1) && decide (0 < z1.natAbs + z2.natAbs))) := by
      have e := hbb
      rw [HN1.out, HN2.out] at e
      show _ = _
      rw [HN1.out, Bool.eq_iff_iff]
      simp only [Bool.and_eq_true, decide_eq_true_eq]
      rw [decide_eq_decide] at e
      omega
    have HAB : Hid ((z1 + z2).natAbs = z1.natAbs + z2.natAbs) := by
      have e := hbb
      rw [HN1.out, HN2.out, decide_eq_decide] at e
      show _ = _; omega
    have HBB := hid hbb
    clear hbb
    go_upto_region 2 with fail
    clear hb12 x0 x1 y0 y1
    refine wp_region_held_drew (S := fun w' => w'.heap[X]? = some (.cells #[.bool b1, .slice a1 n1 c1] 52) ∧ w'.heap[Y]? = some (.cells #[.bool b2, .slice a2 n2 c2] 52)) (by kernel_rfl) ⟨(((Below.refl _ w1).drew).block X (heap_lt HX.out)).trans HX.out, (((Below.refl _ w1).drew).block Y (heap_lt HY.out)).trans HY.out⟩ (fun hHeld => ?_)
    have HU0 : Hid (Below w1.heap.size w1 w1.drew) := (Below.refl _ w1).drew
    have HBU : Hid (Below w.heap.size w w1.drew) := HB1.out.drew
    have HRU := hid (cells_box HR.out HU0.out)
    generalize w1.drew = u0 at *
    refine take_at (i := 0) 11 (v := .pointer (some ⟨X, 0, none⟩)) rfl (by kernel_rfl) (by kernel_rfl) (by kernel_rfl) rfl (fun _ _ _ h => h) (by rfl) (fun w hSw => ?_) hHeld ?_
    · (try dsimp only at hSw); go_simp
    simp only [Act.put, List.setIfInBounds_toArray, List.set_cons_zero, List.set_cons_succ]
    refine take_at (i := 1) 12 (v := .bool b1) rfl (by kernel_rfl) (by kernel_rfl) (by kernel_rfl) rfl (fun _ _ _ h => h) (by rfl) (fun w hSw => ?_) hHeld ?_
    · (try dsimp only at hSw); obtain ⟨sx, sy⟩ := hSw; obtain ⟨x0, x1⟩ := cells2_of sx; obtain ⟨y0, y1⟩ := cells2_of sy; go_simp
    simp only [Act.put, List.setIfInBounds_toArray, List.set_cons_zero, List.set_cons_succ]
    refine take_at (i := 2) 13 (v := .pointer (some ⟨X, 1, none⟩)) rfl (by kernel_rfl) (by kernel_rfl) (by kernel_rfl) rfl (fun _ _ _ h => h) (by rfl) (fun w hSw => ?_) hHeld ?_
    · (try dsimp only at hSw); go_simp
    simp only [Act.put, List.setIfInBounds_toArray, List.set_cons_zero, List.set_cons_succ]
    refine take_at (i := 3) 14 (v := .slice a1 n1 c1) rfl (by kernel_rfl) (by kernel_rfl) (by kernel_rfl) rfl (fun _ _ _ h => h) (by rfl) (fun w hSw => ?_) hHeld ?_
    · (try dsimp only at hSw); obtain ⟨sx, sy⟩ := hSw; obtain ⟨x0, x1⟩ := cells2_of sx; obtain ⟨y0, y1⟩ := cells2_of sy; go_simp
    simp only [Act.put, List.setIfInBounds_toArray, List.set_cons_zero, List.set_cons_succ]
    refine take_at (i := 4) 15 (v := .pointer (some ⟨Y, 1, none⟩)) rfl (by kernel_rfl) (by kernel_rfl) (by kernel_rfl) rfl (fun _ _ _ h => h) (by rfl) (fun w hSw => ?_) hHeld ?_
    · (try dsimp only at hSw); go_simp
    simp only [Act.put, List.setIfInBounds_toArray, List.set_cons_zero, List.set_cons_succ]
    refine take_at (i := 5) 16 (v := .slice a2 n2 c2) rfl (by kernel_rfl) (by kernel_rfl) (by kernel_rfl) rfl (fun _ _ _ h => h) (by rfl) (fun w hSw => ?_) hHeld ?_
    · (try dsimp only at hSw); obtain ⟨sx, sy⟩ := hSw; obtain ⟨x0, x1⟩ := cells2_of sx; obtain ⟨y0, y1⟩ := cells2_of sy; go_simp
    simp only [Act.put, List.setIfInBounds_toArray, List.set_cons_zero, List.set_cons_succ]
    refine wpAnyH_ready (rs := [6]) (by kernel_rfl) (by simp) ?_
    refine node_f81 17 14 16 (.slice a1 n1 c1) (.slice a2 n2 c2) rfl rfl rfl rfl rfl rfl ?_ AllReadyH.nil
    · refine (plus_any _ _ z1.natAbs z2.natAbs _ (HL1.out.below HU0.out) (HL2.out.below HU0.out) hsum).mono ?_
      rintro e w5 ⟨x5, rfl, hl5, hb5⟩
      have HL5 := hid hl5
      have HB5 := hid (below_step HBU.out hb5)
      have HR5 := hid (cells_box HRU.out hb5)
      replace hHeld : w5.heap[X]? = some (.cells #[.bool b1, .slice a1 n1 c1] 52) ∧ w5.heap[Y]? = some (.cells #[.bool b2, .slice a2 n2 c2] 52) := ⟨cells_box hHeld.1 hb5, cells_box hHeld.2 hb5⟩
      obtain ⟨p5, m5, q5, rfl⟩ : ∃ p m q, x5 = .slice p m q := (by obtain ⟨p, q, e, _⟩ := hl5; exact ⟨p, _, q, e⟩)
      clear hl5 hb5
      refine ⟨_, rfl, hHeld, ?_⟩
      simp only [Act.put, List.setIfInBounds_toArray, List.set_cons_zero, List.set_cons_succ]
      refine wpAnyH_ready (rs := [7]) (by kernel_rfl) (by simp) ?_
      refine node_f47 18 12 17 (.bool (b1)) (.slice p5 m5 q5) rfl rfl rfl rfl rfl rfl ?_ AllReadyH.nil
      · refine (made_any (b1) _ (z1.natAbs + z2.natAbs) _ HL5.out).mono ?_
        rintro e w6 ⟨rfl, hb6⟩
        have HL6 := hid (HL5.out.below hb6)
        have HB6 := hid (below_step HB5.out hb6)
        have HR6 := hid (cells_box HR5.out hb6)
        replace hHeld : w6.heap[X]? = some (.cells #[.bool b1, .slice a1 n1 c1] 52) ∧ w6.heap[Y]? = some (.cells #[.bool b2, .slice a2 n2 c2] 52) := ⟨cells_box hHeld.1 hb6, cells_box hHeld.2 hb6⟩
        clear hb6
        refine ⟨_, rfl, hHeld, ?_⟩
        simp only [Act.put, List.setIfInBounds_toArray, List.set_cons_zero, List.set_cons_succ]
        refine wpAnyH_ready (rs := [8]) (by kernel_rfl) (by simp) ?_
        refine node_store52 4 18 R _ _ ((b1) && decide (0 < z1.natAbs + z2.natAbs)) p5 m5 q5 rfl rfl rfl rfl rfl rfl HR6.out ⟨(off2 X HXR.out).trans hHeld.1, (off2 Y HYR.out).trans hHeld.2⟩ ?_ AllReadyH.nil
        · skip
          refine wpAnyH_done (by kernel_rfl) ?_ _
          clear HX HY hHeld
          obtain ⟨r0, r1⟩ := cells2_of HR6.out
          go_wp2_with fail
          exact bodyPost_ret (v := .agg #[.bool ((b1) && decide (0 < z1.natAbs + z2.natAbs)), .slice p5 m5 q5]) (by simp [results, Tryd.results69, go_sem, r0, r1]) rfl
            ⟨_, rfl, ⟨.slice p5 m5 q5, by rw [HSG.out], by rw [HAB.out]; exact HL6.out.off (off_bool r0) off2⟩, below_set (below_set HB6.out HRW.out) HRW.out⟩
  · have hb12 : (b1 == b2) = false := by cases b1 <;> cases b2 <;> first | rfl | exact absurd rfl hbb
    have HOP : Hid ((z1 < 0) ≠ (z2 < 0)) := by
      intro e
      apply hbb
      rw [HN1.out, HN2.out]
      exact decide_eq_decide.2 (by rw [e])
    clear hbb
    have CM := hid (compare_any (.slice a1 n1 c1) (.slice a2 n2 c2) z1.natAbs z2.natAbs w1 HL1.out HL2.out)
    by_cases hge : z2.natAbs ≤ z1.natAbs
    · have hcv : ∃ r : Int, (if z1.natAbs < z2.natAbs then -1 else if z1.natAbs = z2.natAbs then 0 else 1) = r ∧ 0 ≤ r := by
        rw [if_neg (by omega)]; split <;> exact ⟨_, rfl, by decide⟩
      obtain ⟨r, hr, hr0⟩ := hcv
      rw [hr] at CM
      have hle := hge
      have hlt := hz1
      have HSG : Hid (decide (z1 + z2 < 0) = ((b1) && decide (0 < z1.natAbs - z2.natAbs))) := by
        have e := HOP.out
        show _ = _
        rw [HN1.out, Bool.eq_iff_iff]
        simp only [Bool.and_eq_true, decide_eq_true_eq]
        have : (z1 < 0 ∧ ¬ z2 < 0) ∨ (¬ z1 < 0 ∧ z2 < 0) := by
          by_cases h1 : z1 < 0 <;> by_cases h2 : z2 < 0 <;> simp [h1, h2] at e ⊢
        omega
      have HAB : Hid ((z1 + z2).natAbs = z1.natAbs - z2.natAbs) := by
        have e := HOP.out
        have : (z1 < 0 ∧ ¬ z2 < 0) ∨ (¬ z1 < 0 ∧ z2 < 0) := by
          by_cases h1 : z1 < 0 <;> by_cases h2 : z2 < 0 <;> simp [h1, h2] at e ⊢
        show _ = _; omega
      clear hr hge
      go_upto_region 4 with (first | (go_at_call 68; refine CM.out.mono ?_; rintro e w2 ⟨rfl, hb2⟩; have HB2 := hid (below_step HB1.out hb2); have HX2 := hid (cells_box HX.out hb2); have HY2 := hid (cells_box HY.out hb2); have HR2 := hid (cells_box HR.out hb2); have HL1b := hid (HL1.out.below hb2); have HL2b := hid (HL2.out.below hb2); clear hb2) | fail)
      clear hb12 x0 x1 y0 y1 HX HY HR
      refine wp_region_held_drew (S := fun w' => w'.heap[X]? = some (.cells #[.bool b1, .slice a1 n1 c1] 52) ∧ w'.heap[Y]? = some (.cells #[.bool b2, .slice a2 n2 c2] 52)) (by kernel_rfl) ⟨(((Below.refl _ w2).drew).block X (heap_lt HX2.out)).trans HX2.out, (((Below.refl _ w2).drew).block Y (heap_lt HY2.out)).trans HY2.out⟩ (fun hHeld => ?_)
      have HU0 : Hid (Below w2.heap.size w2 w2.drew) := (Below.refl _ w2).drew
      have HBU : Hid (Below w.heap.size w w2.drew) := HB2.out.drew
      have HRU := hid (cells_box HR2.out HU0.out)
      generalize w2.drew = u0 at *
      refine take_at (i := 0) 26 (v := .pointer (some ⟨X, 0, none⟩)) rfl (by kernel_rfl) (by kernel_rfl) (by kernel_rfl) rfl (fun _ _ _ h => h) (by rfl) (fun w hSw => ?_) hHeld ?_
      · (try dsimp only at hSw); go_simp
      simp only [Act.put, List.setIfInBounds_toArray, List.set_cons_zero, List.set_cons_succ]
      refine take_at (i := 1) 27 (v := .bool b1) rfl (by kernel_rfl) (by kernel_rfl) (by kernel_rfl) rfl (fun _ _ _ h => h) (by rfl) (fun w hSw => ?_) hHeld ?_
      · (try dsimp only at hSw); obtain ⟨sx, sy⟩ := hSw; obtain ⟨x0, x1⟩ := cells2_of sx; obtain ⟨y0, y1⟩ := cells2_of sy; go_simp
      simp only [Act.put, List.setIfInBounds_toArray, List.set_cons_zero, List.set_cons_succ]
      refine take_at (i := 2) 28 (v := .pointer (some ⟨X, 1, none⟩)) rfl (by kernel_rfl) (by kernel_rfl) (by kernel_rfl) rfl (fun _ _ _ h => h) (by rfl) (fun w hSw => ?_) hHeld ?_
      · (try dsimp only at hSw); go_simp
      simp only [Act.put, List.setIfInBounds_toArray, List.set_cons_zero, List.set_cons_succ]
      refine take_at (i := 3) 29 (v := .slice a1 n1 c1) rfl (by kernel_rfl) (by kernel_rfl) (by kernel_rfl) rfl (fun _ _ _ h => h) (by rfl) (fun w hSw => ?_) hHeld ?_
      · (try dsimp only at hSw); obtain ⟨sx, sy⟩ := hSw; obtain ⟨x0, x1⟩ := cells2_of sx; obtain ⟨y0, y1⟩ := cells2_of sy; go_simp
      simp only [Act.put, List.setIfInBounds_toArray, List.set_cons_zero, List.set_cons_succ]
      refine take_at (i := 4) 30 (v := .pointer (some ⟨Y, 1, none⟩)) rfl (by kernel_rfl) (by kernel_rfl) (by kernel_rfl) rfl (fun _ _ _ h => h) (by rfl) (fun w hSw => ?_) hHeld ?_
      · (try dsimp only at hSw); go_simp
      simp only [Act.put, List.setIfInBounds_toArray, List.set_cons_zero, List.set_cons_succ]
      refine take_at (i := 5) 31 (v := .slice a2 n2 c2) rfl (by kernel_rfl) (by kernel_rfl) (by kernel_rfl) rfl (fun _ _ _ h => h) (by rfl) (fun w hSw => ?_) hHeld ?_
      · (try dsimp only at hSw); obtain ⟨sx, sy⟩ := hSw; obtain ⟨x0, x1⟩ := cells2_of sx; obtain ⟨y0, y1⟩ := cells2_of sy; go_simp
      simp only [Act.put, List.setIfInBounds_toArray, List.set_cons_zero, List.set_cons_succ]
      refine wpAnyH_ready (rs := [6]) (by kernel_rfl) (by simp) ?_
      refine node_f82 32 29 31 (.slice a1 n1 c1) (.slice a2 n2 c2) rfl rfl rfl rfl rfl rfl ?_ AllReadyH.nil
      · refine (minus_any _ _ z1.natAbs z2.natAbs _ (HL1b.out.below HU0.out) (HL2b.out.below HU0.out) hle hlt).mono ?_
        rintro e w5 ⟨x5, rfl, hl5, hb5⟩
        have HL5 := hid hl5
        have HB5 := hid (below_step HBU.out hb5)
        have HR5 := hid (cells_box HRU.out hb5)
        replace hHeld : w5.heap[X]? = some (.cells #[.bool b1, .slice a1 n1 c1] 52) ∧ w5.heap[Y]? = some (.cells #[.bool b2, .slice a2 n2 c2] 52) := ⟨cells_box hHeld.1 hb5, cells_box hHeld.2 hb5⟩
        obtain ⟨p5, m5, q5, rfl⟩ : ∃ p m q, x5 = .slice p m q := (by obtain ⟨p, q, e, _⟩ := hl5; exact ⟨p, _, q, e⟩)
        clear hl5 hb5
        refine ⟨_, rfl, hHeld, ?_⟩
        simp only [Act.put, List.setIfInBounds_toArray, List.set_cons_zero, List.set_cons_succ]
        refine wpAnyH_ready (rs := [7]) (by kernel_rfl) (by simp) ?_
        refine node_f47 33 27 32 (.bool (b1)) (.slice p5 m5 q5) rfl rfl rfl rfl rfl rfl ?_ AllReadyH.nil
        · refine (made_any (b1) _ (z1.natAbs - z2.natAbs) _ HL5.out).mono ?_
          rintro e w6 ⟨rfl, hb6⟩
          have HL6 := hid (HL5.out.below hb6)
          have HB6 := hid (below_step HB5.out hb6)
          have HR6 := hid (cells_box HR5.out hb6)
          replace hHeld : w6.heap[X]? = some (.cells #[.bool b1, .slice a1 n1 c1] 52) ∧ w6.heap[Y]? = some (.cells #[.bool b2, .slice a2 n2 c2] 52) := ⟨cells_box hHeld.1 hb6, cells_box hHeld.2 hb6⟩
          clear hb6
          refine ⟨_, rfl, hHeld, ?_⟩
          simp only [Act.put, List.setIfInBounds_toArray, List.set_cons_zero, List.set_cons_succ]
          refine wpAnyH_ready (rs := [8]) (by kernel_rfl) (by simp) ?_
          refine node_store52 4 33 R _ _ ((b1) && decide (0 < z1.natAbs - z2.natAbs)) p5 m5 q5 rfl rfl rfl rfl rfl rfl HR6.out ⟨(off2 X HXR.out).trans hHeld.1, (off2 Y HYR.out).trans hHeld.2⟩ ?_ AllReadyH.nil
          · skip
            refine wpAnyH_done (by kernel_rfl) ?_ _
            clear HX2 HY2 hHeld
            obtain ⟨r0, r1⟩ := cells2_of HR6.out
            go_wp2_with fail
            exact bodyPost_ret (v := .agg #[.bool ((b1) && decide (0 < z1.natAbs - z2.natAbs)), .slice p5 m5 q5]) (by simp [results, Tryd.results69, go_sem, r0, r1]) rfl
              ⟨_, rfl, ⟨.slice p5 m5 q5, by rw [HSG.out], by rw [HAB.out]; exact HL6.out.off (off_bool r0) off2⟩, below_set (below_set HB6.out HRW.out) HRW.out⟩
    · have hcv : (if z1.natAbs < z2.natAbs then -1 else if z1.natAbs = z2.natAbs then 0 else 1 : Int) = -1 := by rw [if_pos (by omega)]
      rw [hcv] at CM
      have hle : z1.natAbs ≤ z2.natAbs := by omega
      have hlt := hz2
      have HSG : Hid (decide (z1 + z2 < 0) = ((b2) && decide (0 < z2.natAbs - z1.natAbs))) := by
        have e := HOP.out
        show _ = _
        rw [HN2.out, Bool.eq_iff_iff]
        simp only [Bool.and_eq_true, decide_eq_true_eq]
        have : (z1 < 0 ∧ ¬ z2 < 0) ∨ (¬ z1 < 0 ∧ z2 < 0) := by
          by_cases h1 : z1 < 0 <;> by_cases h2 : z2 < 0 <;> simp [h1, h2] at e ⊢
        omega
      have HAB : Hid ((z1 + z2).natAbs = z2.natAbs - z1.natAbs) := by
        have e := HOP.out
        have : (z1 < 0 ∧ ¬ z2 < 0) ∨ (¬ z1 < 0 ∧ z2 < 0) := by
          by_cases h1 : z1 < 0 <;> by_cases h2 : z2 < 0 <;> simp [h1, h2] at e ⊢
        show _ = _; omega
      clear hcv hge
      go_upto_region 5 with (first | (go_at_call 68; refine CM.out.mono ?_; rintro e w2 ⟨rfl, hb2⟩; have HB2 := hid (below_step HB1.out hb2); have HX2 := hid (cells_box HX.out hb2); have HY2 := hid (cells_box HY.out hb2); have HR2 := hid (cells_box HR.out hb2); have HL1b := hid (HL1.out.below hb2); have HL2b := hid (HL2.out.below hb2); clear hb2) | fail)
      clear hb12 x0 x1 y0 y1 HX HY HR
      refine wp_region_held_drew (S := fun w' => w'.heap[X]? = some (.cells #[.bool b1, .slice a1 n1 c1] 52) ∧ w'.heap[Y]? = some (.cells #[.bool b2, .slice a2 n2 c2] 52)) (by kernel_rfl) ⟨(((Below.refl _ w2).drew).block X (heap_lt HX2.out)).trans HX2.out, (((Below.refl _ w2).drew).block Y (heap_lt HY2.out)).trans HY2.out⟩ (fun hHeld => ?_)
      have HU0 : Hid (Below w2.heap.size w2 w2.drew) := (Below.refl _ w2).drew
      have HBU : Hid (Below w.heap.size w w2.drew) := HB2.out.drew
      have HRU := hid (cells_box HR2.out HU0.out)
      generalize w2.drew = u0 at *
      refine take_at (i := 0) 34 (v := .pointer (some ⟨Y, 0, none⟩)) rfl (by kernel_rfl) (by kernel_rfl) (by kernel_rfl) rfl (fun _ _ _ h => h) (by rfl) (fun w hSw => ?_) hHeld ?_
      · (try dsimp only at hSw); go_simp
      simp only [Act.put, List.setIfInBounds_toArray, List.set_cons_zero, List.set_cons_succ]
      refine take_at (i := 1) 35 (v := .bool b2) rfl (by kernel_rfl) (by kernel_rfl) (by kernel_rfl) rfl (fun _ _ _ h => h) (by rfl) (fun w hSw => ?_) hHeld ?_
      · (try dsimp only at hSw); obtain ⟨sx, sy⟩ := hSw; obtain ⟨x0, x1⟩ := cells2_of sx; obtain ⟨y0, y1⟩ := cells2_of sy; go_simp
      simp only [Act.put, List.setIfInBounds_toArray, List.set_cons_zero, List.set_cons_succ]
      refine take_at (i := 2) 36 (v := .pointer (some ⟨Y, 1, none⟩)) rfl (by kernel_rfl) (by kernel_rfl) (by kernel_rfl) rfl (fun _ _ _ h => h) (by rfl) (fun w hSw => ?_) hHeld ?_
      · (try dsimp only at hSw); go_simp
      simp only [Act.put, List.setIfInBounds_toArray, List.set_cons_zero, List.set_cons_succ]
      refine take_at (i := 3) 37 (v := .slice a2 n2 c2) rfl (by kernel_rfl) (by kernel_rfl) (by kernel_rfl) rfl (fun _ _ _ h => h) (by rfl) (fun w hSw => ?_) hHeld ?_
      · (try dsimp only at hSw); obtain ⟨sx, sy⟩ := hSw; obtain ⟨x0, x1⟩ := cells2_of sx; obtain ⟨y0, y1⟩ := cells2_of sy; go_simp
      simp only [Act.put, List.setIfInBounds_toArray, List.set_cons_zero, List.set_cons_succ]
      refine take_at (i := 4) 38 (v := .pointer (some ⟨X, 1, none⟩)) rfl (by kernel_rfl) (by kernel_rfl) (by kernel_rfl) rfl (fun _ _ _ h => h) (by rfl) (fun w hSw => ?_) hHeld ?_
      · (try dsimp only at hSw); go_simp
      simp only [Act.put, List.setIfInBounds_toArray, List.set_cons_zero, List.set_cons_succ]
      refine take_at (i := 5) 39 (v := .slice a1 n1 c1) rfl (by kernel_rfl) (by kernel_rfl) (by kernel_rfl) rfl (fun _ _ _ h => h) (by rfl) (fun w hSw => ?_) hHeld ?_
      · (try dsimp only at hSw); obtain ⟨sx, sy⟩ := hSw; obtain ⟨x0, x1⟩ := cells2_of sx; obtain ⟨y0, y1⟩ := cells2_of sy; go_simp
      simp only [Act.put, List.setIfInBounds_toArray, List.set_cons_zero, List.set_cons_succ]
      refine wpAnyH_ready (rs := [6]) (by kernel_rfl) (by simp) ?_
      refine node_f82 40 37 39 (.slice a2 n2 c2) (.slice a1 n1 c1) rfl rfl rfl rfl rfl rfl ?_ AllReadyH.nil
      · refine (minus_any _ _ z2.natAbs z1.natAbs _ (HL2b.out.below HU0.out) (HL1b.out.below HU0.out) hle hlt).mono ?_
        rintro e w5 ⟨x5, rfl, hl5, hb5⟩
        have HL5 := hid hl5
        have HB5 := hid (below_step HBU.out hb5)
        have HR5 := hid (cells_box HRU.out hb5)
        replace hHeld : w5.heap[X]? = some (.cells #[.bool b1, .slice a1 n1 c1] 52) ∧ w5.heap[Y]? = some (.cells #[.bool b2, .slice a2 n2 c2] 52) := ⟨cells_box hHeld.1 hb5, cells_box hHeld.2 hb5⟩
        obtain ⟨p5, m5, q5, rfl⟩ : ∃ p m q, x5 = .slice p m q := (by obtain ⟨p, q, e, _⟩ := hl5; exact ⟨p, _, q, e⟩)
        clear hl5 hb5
        refine ⟨_, rfl, hHeld, ?_⟩
        simp only [Act.put, List.setIfInBounds_toArray, List.set_cons_zero, List.set_cons_succ]
        refine wpAnyH_ready (rs := [7]) (by kernel_rfl) (by simp) ?_
        refine node_f47 41 35 40 (.bool (b2)) (.slice p5 m5 q5) rfl rfl rfl rfl rfl rfl ?_ AllReadyH.nil
        · refine (made_any (b2) _ (z2.natAbs - z1.natAbs) _ HL5.out).mono ?_
          rintro e w6 ⟨rfl, hb6⟩
          have HL6 := hid (HL5.out.below hb6)
          have HB6 := hid (below_step HB5.out hb6)
          have HR6 := hid (cells_box HR5.out hb6)
          replace hHeld : w6.heap[X]? = some (.cells #[.bool b1, .slice a1 n1 c1] 52) ∧ w6.heap[Y]? = some (.cells #[.bool b2, .slice a2 n2 c2] 52) := ⟨cells_box hHeld.1 hb6, cells_box hHeld.2 hb6⟩
          clear hb6
          refine ⟨_, rfl, hHeld, ?_⟩
          simp only [Act.put, List.setIfInBounds_toArray, List.set_cons_zero, List.set_cons_succ]
          refine wpAnyH_ready (rs := [8]) (by kernel_rfl) (by simp) ?_
          refine node_store52 4 41 R _ _ ((b2) && decide (0 < z2.natAbs - z1.natAbs)) p5 m5 q5 rfl rfl rfl rfl rfl rfl HR6.out ⟨(off2 X HXR.out).trans hHeld.1, (off2 Y HYR.out).trans hHeld.2⟩ ?_ AllReadyH.nil
          · skip
            refine wpAnyH_done (by kernel_rfl) ?_ _
            clear HX2 HY2 hHeld
            obtain ⟨r0, r1⟩ := cells2_of HR6.out
            go_wp2_with fail
            exact bodyPost_ret (v := .agg #[.bool ((b2) && decide (0 < z2.natAbs - z1.natAbs)), .slice p5 m5 q5]) (by simp [results, Tryd.results69, go_sem, r0, r1]) rfl
              ⟨_, rfl, ⟨.slice p5 m5 q5, by rw [HSG.out], by rw [HAB.out]; exact HL6.out.off (off_bool r0) off2⟩, below_set (below_set HB6.out HRW.out) HRW.out⟩
end Go.Proofs.YtlhmidecjiihcaaDoor
