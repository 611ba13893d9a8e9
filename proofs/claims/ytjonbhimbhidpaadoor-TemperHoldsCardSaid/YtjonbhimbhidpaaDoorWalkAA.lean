/-
  Walks over chapter 6: does a set hold.
-/
import Derived.Test.YtjonbhimbhidpaaDoorBaseL
namespace Go.Proofs.YtjonbhimbhidpaaDoor
open Go.RowKit

set_option maxHeartbeats 4000000 in
set_option maxRecDepth 100000 in
theorem holdsP_any (vs vm vj v : Value) (o : Ov) (g : Grid) (w : World) (ho : IsOv w vs vm vj o) (hn : o.Num) (hg : IsGrid w v g) (hs : ShortG g) :
    Calls Tryd.prog 36 #[.agg #[vs, vm, vj], v] w fun e w' => e = .returned (holdsV o g) ∧ Below w.heap.size w w' := by
  have hB0 := (Below.refl w.heap.size w).alloc (Nat.le_refl _) (.cells #[vs, vm, vj] 26)
  have cr := hid (read_any _ _ _ o _ (isOv_below ho hB0) hn)
  have HG := hid (isGrid_below hg hB0)
  have HSG := hid hs
  obtain ⟨ag, cg, rfl, _, _⟩ := hg
  obtain ⟨⟨av, cv, rfl, _, _⟩, _, _⟩ := ho
  have HB : Hid (Below w.heap.size w (w.alloc (.cells #[.slice av o.safe.length cv, vm, vj] 26))) := hB0
  obtain ⟨P, hP⟩ : ∃ P, P = o.P := ⟨_, rfl⟩
  rw [show o.safe.length = P from hP.symm] at cr HB HG ⊢
  obtain ⟨W, hW⟩ : ∃ W, W = (w.alloc (.cells #[.slice av P cv, vm, vj] 26)) := ⟨_, rfl⟩
  rw [← hW] at cr HB HG
  obtain ⟨Lg, hLg⟩ : ∃ Lg, Lg = g.length := ⟨_, rfl⟩
  rw [← hLg] at HG ⊢
  have HW := hid hW
  have HP := hid hP
  clear hn hW hs hB0 hLg
  cases hv : o.valid
  · have HR : Hid (holdsV o g = .tuple #[.bool false, .int .i64 1]) := by unfold holdsV; rw [if_neg (by rw [hv]; decide)]; exact rfl
    have cr2 : Hid (Calls Tryd.prog 51 #[.agg #[.slice av P cv, vm, vj]] W (fun e w' => e = .returned (.tuple #[.pointer none, .bool false]) ∧ Below W.heap.size W w')) := (cr.out).mono (by
      rintro e w4 ⟨hb4, h4⟩
      rw [hv, if_neg (by decide)] at h4
      exact ⟨h4, hb4⟩)
    clear hv cr hP
    go_enter Tryd.func36, Tryd.ntmps36
    go_wp2_with (first | (go_at_call 51; rw [← HW.out]; refine (cr2.out).mono ?_; rintro e w4 ⟨rfl, hb4⟩; have HB4 := hid hb4; clear hb4) | fail)
    go_ret2
    exact ⟨ret_eq HR.out.symm, HB.out.trans (HB4.out.mono HB.out.size)⟩
  · have HOK := hid (ok_of_valid hv)
    obtain ⟨R, hR⟩ : ∃ R, R = o.R := ⟨_, rfl⟩
    obtain ⟨C, hC⟩ : ∃ C, C = o.C := ⟨_, rfl⟩
    have HRR := hid hR
    have HCC := hid hC
    have b1 := HOK.out.p
    have b2 := HOK.out.r
    have b3 := HOK.out.c
    rw [← hP] at b1
    rw [← hR] at b2
    rw [← hC] at b3
    have cr2 : Hid (Calls Tryd.prog 51 #[.agg #[.slice av P cv, vm, vj]] W (fun e w' => ∃ xb, e = .returned (.tuple #[.pointer (some ⟨xb, 0, none⟩), .bool true]) ∧ OvAt w' xb (.slice av P cv) vm vj o ∧ Below W.heap.size W w')) := (cr.out).mono (by
      rintro e w4 ⟨hb4, h4⟩
      rw [hv, if_pos rfl] at h4
      obtain ⟨xb, h5, h6⟩ := h4
      exact ⟨xb, h5, h6, hb4⟩)
    have HV := hid hv
    clear hv cr hP hR hC
    go_enter Tryd.func36, Tryd.ntmps36
    go_upto_region 4 with (first | (go_at_call 51; rw [← HW.out]; refine (cr2.out).mono ?_; rintro e w4 ⟨xb, rfl, hov, hb4⟩; have HOV := hid hov; have HB4 := hid hb4; have y0 := hov.c0; have y3 := hov.c3; have y4 := hov.c4; rw [← HRR.out] at y3; rw [← HCC.out] at y4; have HG4 := hid (isGrid_below HG.out hb4); clear hb4 hov) | fail)
    have KEEP : Hid (∀ w', Below w4.heap.size w4 w' → w'.cell? ⟨xb, 0, none⟩ = some (.slice av P cv) ∧ w'.cell? ⟨xb, 3, none⟩ = some (.int .i64 R) ∧ w'.cell? ⟨xb, 4, none⟩ = some (.int .i64 C) ∧ Hid (Below w4.heap.size w4 w')) := by
      intro w' hb
      have h := ovAt_below HOV.out hb
      exact ⟨h.c0, by rw [HRR.out]; exact h.c3, by rw [HCC.out]; exact h.c4, hb⟩
    cases hf : formB P R C g
    · have HR : Hid (holdsV o g = .tuple #[.bool false, .int .i64 2]) := by
        rw [HP.out, HRR.out, HCC.out] at hf
        unfold holdsV; rw [if_pos HV.out, if_neg (by rw [hf]; decide)]; exact rfl
      have HF := hid hf
      clear hf
      go_region_held3 (fun w' => w'.cell? ⟨xb, 0, none⟩ = some (.slice av P cv) ∧ w'.cell? ⟨xb, 3, none⟩ = some (.int .i64 R) ∧ w'.cell? ⟨xb, 4, none⟩ = some (.int .i64 C) ∧ Hid (Below w4.heap.size w4 w'))
        ((refine KEEP.out _ ?_; repeat (first | exact Below.refl _ _ | (apply Hid.out; assumption) | refine Below.drew ?_)))
        ((first | (go_at_call 55; refine (rowed_any _ g P R C _ (isGrid_below HG4.out (by repeat (first | exact Below.refl _ _ | (apply Hid.out; assumption) | refine Below.drew ?_))) HSG.out (by omega) (by omega) (by omega)).mono ?_; rw [HF.out]; rintro e w5 ⟨rfl, hb5⟩; have HB5 : Hid (Below w4.heap.size w4 w5) := ((Below.refl _ _).drew).trans hb5; clear hb5)))
      all_goals
        go_wp2_with fail
        go_ret2
        refine ⟨ret_eq HR.out.symm, ?_⟩
        have hb := HB.out.trans (HB4.out.mono HB.out.size)
        exact hb.trans (HB5.out.mono hb.size)
    · have hf2 : formB o.P o.R o.C g = true := by rw [← HP.out, ← HRR.out, ← HCC.out]; exact hf
      have HR : Hid (holdsV o g = .tuple #[.bool (o.holds g), .int .i64 0]) := by
        unfold holdsV; rw [if_pos HV.out, if_pos hf2]; exact rfl
      have HF := hid hf
      have HF2 := hid hf2
      clear hf hf2
      go_region_held3 (fun w' => w'.cell? ⟨xb, 0, none⟩ = some (.slice av P cv) ∧ w'.cell? ⟨xb, 3, none⟩ = some (.int .i64 R) ∧ w'.cell? ⟨xb, 4, none⟩ = some (.int .i64 C) ∧ Hid (Below w4.heap.size w4 w'))
        ((refine KEEP.out _ ?_; repeat (first | exact Below.refl _ _ | (apply Hid.out; assumption) | refine Below.drew ?_)))
        ((first | (go_at_call 55; refine (rowed_any _ g P R C _ (isGrid_below HG4.out (by repeat (first | exact Below.refl _ _ | (apply Hid.out; assumption) | refine Below.drew ?_))) HSG.out (by omega) (by omega) (by omega)).mono ?_; rw [HF.out]; rintro e w5 ⟨rfl, hb5⟩; have HB5 : Hid (Below w4.heap.size w4 w5) := ((Below.refl _ _).drew).trans hb5; clear hb5)))
      all_goals
        have HOV5 := hid (ovAt_below HOV.out HB5.out)
        have HG5 := hid (isGrid_below HG4.out HB5.out)
        have HBW : Hid (Below w.heap.size w w5) := (HB.out.trans (HB4.out.mono HB.out.size)).trans (HB5.out.mono (HB.out.trans (HB4.out.mono HB.out.size)).size)
        clear KEEP y0 y3 y4
        go_upto_region 6 with fail
        have KEEP6 : Hid (∀ w', Below w5.heap.size w5 w' → w'.cell? ⟨xb, 0, none⟩ = some (.slice av P cv) ∧ Hid (Below w5.heap.size w5 w')) := fun w' hb => ⟨(ovAt_below HOV5.out hb).c0, hb⟩
        go_cut [8, 9] (fun v8 v9 wx => ∃ bi m1 m2, v8 = .pointer (some ⟨bi, 0, none⟩) ∧ v9 = .map (some m2) ∧ w5.heap.size ≤ bi ∧ wx.heap[bi]? = some (.cells #[.map (some m1)] 90) ∧ Hid (SetW wx m1 (o.cells.filter (inG g))) ∧ Hid (SetW wx m2 (o.cells.filter (inG o.safe))) ∧ Hid (Below w5.heap.size w5 wx))
        case first =>
          refine wp_region_held_drew (S := fun w' => w'.cell? ⟨xb, 0, none⟩ = some (.slice av P cv) ∧ Hid (Below w5.heap.size w5 w')) (by kernel_rfl) (KEEP6.out _ ((Below.refl _ _).drew)) (fun hHeld => ?_)
          refine take_at (i := 0) 37 (v := .pointer (some ⟨xb, 0, none⟩)) rfl (by kernel_rfl) (by kernel_rfl) (by kernel_rfl) rfl (fun _ _ _ h => h) (by rfl) (fun w hSw => ?_) hHeld ?_
          · (try dsimp only at hSw); go_simp
          simp only [Act.put, List.setIfInBounds_toArray, List.set_cons_zero, List.set_cons_succ]
          refine take_at (i := 1) 38 (v := .slice ag Lg cg) rfl (by kernel_rfl) (by kernel_rfl) (by kernel_rfl) rfl (fun _ _ _ h => h) (by rfl) (fun w hSw => ?_) hHeld ?_
          · (try dsimp only at hSw); go_simp
          simp only [Act.put, List.setIfInBounds_toArray, List.set_cons_zero, List.set_cons_succ]
          refine take_at (i := 3) 40 (v := .pointer (some ⟨xb, 0, none⟩)) rfl (by kernel_rfl) (by kernel_rfl) (by kernel_rfl) rfl (fun _ _ _ h => h) (by rfl) (fun w hSw => ?_) hHeld ?_
          · (try dsimp only at hSw); go_simp
          simp only [Act.put, List.setIfInBounds_toArray, List.set_cons_zero, List.set_cons_succ]
          refine take_at (i := 4) 41 (v := .pointer (some ⟨xb, 0, none⟩)) rfl (by kernel_rfl) (by kernel_rfl) (by kernel_rfl) rfl (fun _ _ _ h => h) (by rfl) (fun w hSw => ?_) hHeld ?_
          · (try dsimp only at hSw); go_simp
          simp only [Act.put, List.setIfInBounds_toArray, List.set_cons_zero, List.set_cons_succ]
          refine take_at (i := 5) 42 (v := .pointer (some ⟨xb, 0, none⟩)) rfl (by kernel_rfl) (by kernel_rfl) (by kernel_rfl) rfl (fun _ _ _ h => h) (by rfl) (fun w hSw => ?_) hHeld ?_
          · (try dsimp only at hSw); go_simp
          simp only [Act.put, List.setIfInBounds_toArray, List.set_cons_zero, List.set_cons_succ]
          refine take_at (i := 6) 43 (v := .pointer (some ⟨xb, 0, none⟩)) rfl (by kernel_rfl) (by kernel_rfl) (by kernel_rfl) rfl (fun _ _ _ h => h) (by rfl) (fun w hSw => ?_) hHeld ?_
          · (try dsimp only at hSw); go_simp
          simp only [Act.put, List.setIfInBounds_toArray, List.set_cons_zero, List.set_cons_succ]
          refine take_at (i := 7) 44 (v := .pointer (some ⟨xb, 0, none⟩)) rfl (by kernel_rfl) (by kernel_rfl) (by kernel_rfl) rfl (fun _ _ _ h => h) (by rfl) (fun w hSw => ?_) hHeld ?_
          · (try dsimp only at hSw); go_simp
          simp only [Act.put, List.setIfInBounds_toArray, List.set_cons_zero, List.set_cons_succ]
          refine take_at (i := 8) 45 (v := .slice av P cv) rfl (by kernel_rfl) (by kernel_rfl) (by kernel_rfl) rfl (fun _ _ _ h => h) (by rfl) (fun w hSw => ?_) hHeld ?_
          · (try dsimp only at hSw); go_simp
          simp only [Act.put, List.setIfInBounds_toArray, List.set_cons_zero, List.set_cons_succ]
          have R0 := R2.start w5 (o.cells.filter (inG g)) (o.cells.filter (inG o.safe))
          refine wpAnyH_ready (rs := [2, 10]) (by kernel_rfl) (by simp) ?_
          refine node_call54 39 37 38 _ _ rfl rfl rfl rfl rfl rfl ((in_any xb _ vm vj o (.slice ag Lg cg) g _ (ovAt_below HOV5.out R0.below) HOK.out (isGrid_below HG5.out R0.below) HF2.out).mono ?_) ?_
          · rintro e w6 ⟨m1, rfl, hm1, hs1, hb6⟩
            have R1 := R0.call1 hb6 hs1
            refine ⟨_, rfl, KEEP6.out _ R1.below, ?_⟩
            clear hm1 hs1 hb6
            clear R0
            simp only [Act.put, List.setIfInBounds_toArray, List.set_cons_zero, List.set_cons_succ]
            refine wpAnyH_ready (rs := [9, 10]) (by kernel_rfl) (by simp) ?_
            refine node_call54 46 40 45 _ _ rfl rfl rfl rfl rfl rfl ((in_any xb _ vm vj o (.slice av P cv) o.safe _ (ovAt_below HOV5.out R1.below) HOK.out (ovAt_below HOV5.out R1.below).ov.safe HOK.out.form).mono ?_) ?_
            · rintro e w6 ⟨m2, rfl, hm2, hs2, hb6⟩
              have R2 := R1.call2 hb6 hs2
              refine ⟨_, rfl, KEEP6.out _ R2.below, ?_⟩
              clear hm2 hs2 hb6
              clear R1
              simp only [Act.put, List.setIfInBounds_toArray, List.set_cons_zero, List.set_cons_succ]
              refine wpAnyH_ready (rs := [10]) (by kernel_rfl) (by simp) ?_
              refine node_alloc90 8 rfl rfl rfl rfl (KEEP6.out _ R2.box.below) (fun hHeld => ?_) AllReadyH.nil
              · have R3 := R2.box
                clear R2
                simp only [Act.put, List.setIfInBounds_toArray, List.set_cons_zero, List.set_cons_succ]
                have hf := R3.fin
                refine wpAnyH_ready (rs := [11]) (by kernel_rfl) (by simp) ?_
                refine node_store90 8 39 _ _ rfl rfl rfl rfl rfl rfl (R3.hx _ rfl).2 (KEEP6.out _ hf.2.2.2.2) ?_ AllReadyH.nil
                have hHeld := KEEP6.out _ hf.2.2.2.2
                refine take_at (i := 12) 9 (v := .map (some m2)) rfl (by kernel_rfl) (by kernel_rfl) (by kernel_rfl) rfl (fun _ _ _ h => h) (by rfl) (fun w hSw => ?_) hHeld ?_
                · (try dsimp only at hSw); go_simp
                simp only [Act.put, List.setIfInBounds_toArray, List.set_cons_zero, List.set_cons_succ]
                refine wpAnyH_done (by kernel_rfl) ?_ _
                go_wp2_with fail
                go_meet
                exact ⟨_, _, _, rfl, rfl, hf.1, hf.2.1, hf.2.2.1, hf.2.2.2.1, hf.2.2.2.2⟩
            refine node_alloc90 8 rfl rfl rfl rfl (KEEP6.out _ R1.box.below) (fun hHeld => ?_) AllReadyH.nil
            · have R2 := R1.box
              clear R1
              simp only [Act.put, List.setIfInBounds_toArray, List.set_cons_zero, List.set_cons_succ]
              refine wpAnyH_ready (rs := [9]) (by kernel_rfl) (by simp) ?_
              refine node_call54 46 40 45 _ _ rfl rfl rfl rfl rfl rfl ((in_any xb _ vm vj o (.slice av P cv) o.safe _ (ovAt_below HOV5.out R2.below) HOK.out (ovAt_below HOV5.out R2.below).ov.safe HOK.out.form).mono ?_) AllReadyH.nil
              · rintro e w6 ⟨m2, rfl, hm2, hs2, hb6⟩
                have R3 := R2.call2 hb6 hs2
                refine ⟨_, rfl, KEEP6.out _ R3.below, ?_⟩
                clear hm2 hs2 hb6
                clear R2
                simp only [Act.put, List.setIfInBounds_toArray, List.set_cons_zero, List.set_cons_succ]
                have hf := R3.fin
                refine wpAnyH_ready (rs := [11]) (by kernel_rfl) (by simp) ?_
                refine node_store90 8 39 _ _ rfl rfl rfl rfl rfl rfl (R3.hx _ rfl).2 (KEEP6.out _ hf.2.2.2.2) ?_ AllReadyH.nil
                have hHeld := KEEP6.out _ hf.2.2.2.2
                refine take_at (i := 12) 9 (v := .map (some m2)) rfl (by kernel_rfl) (by kernel_rfl) (by kernel_rfl) rfl (fun _ _ _ h => h) (by rfl) (fun w hSw => ?_) hHeld ?_
                · (try dsimp only at hSw); go_simp
                simp only [Act.put, List.setIfInBounds_toArray, List.set_cons_zero, List.set_cons_succ]
                refine wpAnyH_done (by kernel_rfl) ?_ _
                go_wp2_with fail
                go_meet
                exact ⟨_, _, _, rfl, rfl, hf.1, hf.2.1, hf.2.2.1, hf.2.2.2.1, hf.2.2.2.2⟩
          refine node_alloc90 8 rfl rfl rfl rfl (KEEP6.out _ R0.box.below) (fun hHeld => ?_) AllReadyH.nil
          · have R1 := R0.box
            clear R0
            simp only [Act.put, List.setIfInBounds_toArray, List.set_cons_zero, List.set_cons_succ]
            refine wpAnyH_ready (rs := [2]) (by kernel_rfl) (by simp) ?_
            refine node_call54 39 37 38 _ _ rfl rfl rfl rfl rfl rfl ((in_any xb _ vm vj o (.slice ag Lg cg) g _ (ovAt_below HOV5.out R1.below) HOK.out (isGrid_below HG5.out R1.below) HF2.out).mono ?_) AllReadyH.nil
            · rintro e w6 ⟨m1, rfl, hm1, hs1, hb6⟩
              have R2 := R1.call1 hb6 hs1
              refine ⟨_, rfl, KEEP6.out _ R2.below, ?_⟩
              clear hm1 hs1 hb6
              clear R1
              simp only [Act.put, List.setIfInBounds_toArray, List.set_cons_zero, List.set_cons_succ]
              refine wpAnyH_ready (rs := [9]) (by kernel_rfl) (by simp) ?_
              refine node_call54 46 40 45 _ _ rfl rfl rfl rfl rfl rfl ((in_any xb _ vm vj o (.slice av P cv) o.safe _ (ovAt_below HOV5.out R2.below) HOK.out (ovAt_below HOV5.out R2.below).ov.safe HOK.out.form).mono ?_) AllReadyH.nil
              · rintro e w6 ⟨m2, rfl, hm2, hs2, hb6⟩
                have R3 := R2.call2 hb6 hs2
                refine ⟨_, rfl, KEEP6.out _ R3.below, ?_⟩
                clear hm2 hs2 hb6
                clear R2
                simp only [Act.put, List.setIfInBounds_toArray, List.set_cons_zero, List.set_cons_succ]
                have hf := R3.fin
                refine wpAnyH_ready (rs := [11]) (by kernel_rfl) (by simp) ?_
                refine node_store90 8 39 _ _ rfl rfl rfl rfl rfl rfl (R3.hx _ rfl).2 (KEEP6.out _ hf.2.2.2.2) ?_ AllReadyH.nil
                have hHeld := KEEP6.out _ hf.2.2.2.2
                refine take_at (i := 12) 9 (v := .map (some m2)) rfl (by kernel_rfl) (by kernel_rfl) (by kernel_rfl) rfl (fun _ _ _ h => h) (by rfl) (fun w hSw => ?_) hHeld ?_
                · (try dsimp only at hSw); go_simp
                simp only [Act.put, List.setIfInBounds_toArray, List.set_cons_zero, List.set_cons_succ]
                refine wpAnyH_done (by kernel_rfl) ?_ _
                go_wp2_with fail
                go_meet
                exact ⟨_, _, _, rfl, rfl, hf.1, hf.2.1, hf.2.2.1, hf.2.2.2.1, hf.2.2.2.2⟩
        case rest =>
          obtain ⟨bi, m1, m2, rfl, rfl, hbi, hbx, HS1, HS2, HBC⟩ := hcut
          have cb := box1 hbx
          have hm2 := setW_lt HS2.out
          clear KEEP6
          go_wp2_with (first
            | (at_range; refine wpl_range_set rfl _ m1 (o.cells.filter (inG g)) rfl rfl HS1.out ?_; intro w6 hr6 hg6 hz6; have HR6 := hid hr6; have hb6 := Below.grown (Below.refl wc.heap.size wc) hg6 (Nat.le_refl _) (fun k hk => by cases hk); have HS6 := hid (setW_below HS2.out hb6 hm2); have hb6x := (hb6.block bi (heap_lt hbx)).trans hbx; have HB6 : Hid (Below w5.heap.size w5 w6) := HBC.out.trans (hb6.mono HBC.out.size); clear hr6 hg6 hb6)
            | fail)
          go_frame
          go_loopw [10] (fun _ wr => ∃ T, Hid (RangeS wr m1 wc.heap.size (o.cells.filter (inG g)) T) ∧ Hid (SetW wr m2 (o.cells.filter (inG o.safe))) ∧ wr.heap[bi]? = some (.cells #[.map (some m1)] 90) ∧ Hid (∀ d ∈ o.cells.filter (inG g), d ∉ T → o.good g d = true) ∧ Hid (Below w5.heap.size w5 wr)) (fun _ wr => wr.rangeLeft m1 wc.heap.size)
          case atStart => exact ⟨_, HR6, HS6, hb6x, fun d hd hn => absurd hd hn, HB6⟩
          case round =>
            obtain ⟨T, HRS, HSw, hbw, HGD, HBR⟩ := hrel
            have HRN := hid HRS.out.nodup
            have hlr := HRS.out.lt
            have hr5 : w5.heap.size ≤ wc.heap.size := HBC.out.size
            have hbil := heap_lt hbx
            have HGR := hid hbw
            clear hbw cb hb6x
            go_wp2_with (first
              | (at_next; refine wpl_next_set3 rfl _ rfl m1 wc.heap.size _ T rfl HRS.out (fun hT => ?_) (fun p x y v w7 hcT hcL hc hr7 hlt7 hg7 hz7 hen7 => ?_); (have HH : Hid (o.holds g = true) := holds_true (hT ▸ HGD.out)); clear hT; rotate_left 1; have HR7 := hid hr7; have HL7 := hid hlt7; have HB7 : Hid (Below w5.heap.size w5 w7) := HBR.out.grown hg7 HBR.out.size (fun k hk => by cases hk; exact hr5); have hs7 := setW_kept HSw.out hg7 (by intro e; cases e; omega); have hb7 := (hg7.block bi (by omega) (by intro e; cases e; omega)).trans HGR.out; obtain ⟨hexc, hgc⟩ := List.mem_filter.1 hcL; have HEX := hid ((mem_cells o _).1 hexc); have HCL := hid hcL; have HCT := hid hcT; have hlk := setW_look (setW_kept (row := none) hs7 (World.grownBy_alloc w7 (Obj.cells #[.int .i64 p, .int .i64 x, .int .i64 y] 87) none) (by simp)) hc; rw [congrFun (dec_in o (inG o.safe)) _, HEX.out, Bool.true_and] at hlk; unfold spv at hlk; simp only at hlk; have hal7 := (Below.refl w7.heap.size w7).alloc (Nat.le_refl _) (.cells #[.int .i64 p, .int .i64 x, .int .i64 y] 87); have HS8 := hid (setW_below hs7 hal7 (setW_lt hs7)); have hb8 := (hal7.block bi (by omega)).trans hb7; have HB8 : Hid (Below w5.heap.size w5 (w7.alloc (.cells #[.int .i64 p, .int .i64 x, .int .i64 y] 87))) := HB7.out.alloc HB7.out.size _; have HR8 := hid (HR7.out.below hal7); have HG8 := hid hb8; clear hr7 hlt7 hg7 hs7 hb7 hexc hgc hcL hcT hal7 hb8; cases hsb : inG o.safe (p, x, y); (rw [hsb] at hlk; have HH : Hid (o.holds g = false) := holds_false HCL.out (by unfold Ov.good; rw [hsb, Bool.false_and]); clear hsb); rotate_left 1; (rw [hsb] at hlk; have HSB := hid hsb; clear hsb))
              | (go_at_call 46; have cm := move_any xb _ vm vj o (p, x, y) 56 #[.pointer (some ⟨bi, 0, none⟩)] _ (w7.alloc (.cells #[.int .i64 p, .int .i64 x, .int .i64 y] 87)) (ovAt_below HOV5.out HB8.out) HOK.out HEX.out (testC56 (box1 HG8.out) HR8.out.1.set); rw [dec_in] at cm; obtain ⟨mv, hmv⟩ : ∃ mv, mv = o.move (fun d => o.ex d && inG g d) (p, x, y) := ⟨_, rfl⟩; rw [← hmv] at cm; refine cm.mono ?_; rintro e w9 ⟨rfl, hb9⟩; have HB9 : Hid (Below w5.heap.size w5 w9) := HB8.out.trans (hb9.mono HB8.out.size); have HR9 := hid (HR8.out.1.below hb9); have HS9 := hid (setW_below HS8.out hb9 (setW_lt HS8.out)); have HG9 := hid ((hb9.block bi (heap_lt HG8.out)).trans HG8.out); have hng := move_neg o (fun d => o.ex d && inG g d) (p, x, y); rw [← hmv] at hng; clear hmv hb9 cm; cases hcm : o.canM (fun d => o.ex d && inG g d) (p, x, y); (have hlt := hng.2 hcm; have HH : Hid (o.holds g = false) := holds_false HCL.out (by unfold Ov.good; rw [hcm, Bool.and_false]); clear hng hcm); rotate_left 1; (have hlt : ¬ mv < 0 := (fun h => by rw [hng.1 h] at hcm; cases hcm); have HGC : Hid (o.good g (p, x, y) = true) := (by show _ = _; unfold Ov.good; rw [hcm, HSB.out]; rfl); clear hng hcm))
              | fail)
            all_goals first
              | (refine ⟨⟨T.erase (p, x, y), HR9.out.1, HS9, HG9.out, good_step HRN.out HGD.out HGC.out, HB9⟩, ?_⟩; show w9.rangeLeft m1 wc.heap.size < wr.rangeLeft m1 wc.heap.size; rw [HR9.out.2, HR8.out.2]; exact HL7.out)
              | (have hE := HR.out; rw [HH.out] at hE; go_ret2; refine ⟨ret_eq hE.symm, ?_⟩; first | exact HBW.out.trans (HB9.out.mono HBW.out.size) | exact HBW.out.trans (HB8.out.mono HBW.out.size) | exact HBW.out.trans (HBR.out.mono HBW.out.size))
end Go.Proofs.YtjonbhimbhidpaaDoor
