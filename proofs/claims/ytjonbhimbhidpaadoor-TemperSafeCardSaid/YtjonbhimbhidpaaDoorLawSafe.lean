/-
  The law TemperSafe of chapter 6: its contract.
-/
import Derived.Test.YtjonbhimbhidpaaDoorBaseY
namespace Go.Proofs.YtjonbhimbhidpaaDoor
open Go.RowKit
set_option maxHeartbeats 8000000 in
set_option maxRecDepth 100000 in
theorem TemperSafe_ok (ph ro wi : Int) (ca : Option Addr) (cn cc : Nat) (ma : Option Addr) (mn mc : Nat) (ja : Option Addr) (jn jc : Nat) (at' : Int) (ya : Option Addr) (yn yc : Nat) (w : World) (hk : ArgKiln w ph ro wi ca cn cc ma mn mc ja jn jc) (hat : (Lit.int .u16 at').wf = true) (hy : ArgB8 w ya yn) :
    Calls Tryd.prog 11 #[.agg #[.int .u8 ph, .int .u8 ro, .int .u8 wi, .slice ca cn cc, .slice ma mn mc, .slice ja jn jc], .int .u16 at', .slice ya yn yc] w fun e w' => e = .returned (.bool true) ∧ Below w.heap.size w w' := by
  have hb3 : Below w.heap.size w (w.alloc (.cells #[.int .u8 ph, .int .u8 ro, .int .u8 wi, .slice ca cn cc, .slice ma mn mc, .slice ja jn jc] 45)) := (Below.refl _ _).alloc (Nat.le_refl _) _
  have HB3 := hid hb3
  have HK3 := hid (argKiln_below hk hb3)
  have HY := hid hy
  obtain ⟨hat0, hat1⟩ := wf_u16 hat
  clear hy hat
  clear hb3 hk
  go_enter Tryd.func11, Tryd.ntmps11
  go_upto_region 2 with (first | (go_at_call 24; refine (made_ov (w0 := w) HB3.out HK3.out).mono ?_; rintro e w4 ⟨q, a1, c1, a2, c2, a3, c3, rfl, hok, hva, hml, how, hb4⟩; have HOK := hid hok; have HVA := hid hva; have HML := hid hml; have HOW := hid how; have HB34 := hid hb4; clear hok hva hml how hb4) | fail)
  obtain ⟨X, hX⟩ : ∃ X, X = w4.heap.size := ⟨_, rfl⟩
  obtain ⟨W, hW⟩ : ∃ W, W = (w4.alloc (.cells #[.slice a1 q.safe.length c1, .slice a2 q.moves.length c2, .slice a3 q.jolts.length c3] 26)) := ⟨_, rfl⟩
  rw [← hX, ← hW]
  have h4W : Below w4.heap.size w4 W := by rw [hW]; exact (Below.refl _ _).alloc (Nat.le_refl _) _
  have hxw : W.heap[X]? = some (.cells #[.slice a1 q.safe.length c1, .slice a2 q.moves.length c2, .slice a3 q.jolts.length c3] 26) := by rw [hW, hX]; exact heap_alloc_new _ _
  have KP : Hid (∀ w', Below W.heap.size W w' → w'.cell? ⟨X, 0, none⟩ = some (.slice a1 q.safe.length c1) ∧ w'.cell? ⟨X, 1, none⟩ = some (.slice a2 q.moves.length c2) ∧ w'.cell? ⟨X, 2, none⟩ = some (.slice a3 q.jolts.length c3)) := by
    intro w' hb
    exact cells3_of ((hb.block X (heap_lt hxw)).trans hxw)
  have HBW : Hid (Below w.heap.size w W) := HB3.out.trans ((HB34.out.trans (h4W.mono HB34.out.size)).mono HB3.out.size)
  have how := HOW.out.below h4W
  have hiv := ownOv_isOv how HOK.out
  have HXW := hid hxw
  have HO : Hid (∀ w', Below W.heap.size W w' → IsOv w' (.slice a1 q.safe.length c1) (.slice a2 q.moves.length c2) (.slice a3 q.jolts.length c3) q) := fun w' hb => isOv_below hiv hb
  have FIN : Hid (∀ w', Below W.heap.size W w' → Below w.heap.size w w') := fun w' hb => HBW.out.trans (hb.mono HBW.out.size)
  clear hX hW h4W hxw how hiv
  obtain ⟨x0, x1, x2⟩ := KP.out W (Below.refl _ _)
  go_upto_region 3 with (first | (go_at_call 25; with_reducible refine (kernel_set _ _ _ q (HO.out _ (by repeat (first | exact Below.refl _ _ | (apply Hid.out; assumption) | refine Below.drew ?_ | refine below_drewN_r ?_ _))) HOK.out).mono ?_; rintro e w5 ⟨g5, n5, d5, rfl, hg5, hb5⟩; have HG5 : Hid (∀ w', Below w5.heap.size w5 w' → IsGrid w' (.slice g5 n5 d5) (Ov.gridOf q (Ov.KK q))) := hid (fun w' hb => isGrid_below hg5 hb); have HB5 : Hid (Below W.heap.size W w5) := hid (below_step (by repeat (first | exact Below.refl _ _ | (apply Hid.out; assumption) | refine Below.drew ?_ | refine below_drewN_r ?_ _)) hb5); clear hb5 hg5; clear x0 x1 x2; obtain ⟨x0, x1, x2⟩ := KP.out _ HB5.out; skip) | fail)
  replace KP : Hid (∀ w', Below w5.heap.size w5 w' → w'.cell? ⟨X, 0, none⟩ = some (.slice a1 q.safe.length c1) ∧ w'.cell? ⟨X, 1, none⟩ = some (.slice a2 q.moves.length c2) ∧ w'.cell? ⟨X, 2, none⟩ = some (.slice a3 q.jolts.length c3)) := fun w' hb => KP.out w' (HB5.out.trans (hb.mono HB5.out.size))
  replace HO : Hid (∀ w', Below w5.heap.size w5 w' → IsOv w' (.slice a1 q.safe.length c1) (.slice a2 q.moves.length c2) (.slice a3 q.jolts.length c3) q) := fun w' hb => HO.out w' (HB5.out.trans (hb.mono HB5.out.size))
  replace FIN : Hid (∀ w', Below w5.heap.size w5 w' → Below w.heap.size w w') := fun w' hb => FIN.out w' (HB5.out.trans (hb.mono HB5.out.size))
  have HC5 : Hid (Below w5.heap.size w5 w5) := Below.refl _ _
  have HF5 : Hid (formB q.P q.R q.C (q.gridOf q.KK) = true) := form_gridOf q q.KK
  go_upto_region 5 with (first
    | (go_at_call 27; with_reducible refine (form_call (HO.out _ (by repeat (first | exact Below.refl _ _ | (apply Hid.out; assumption) | refine Below.drew ?_ | refine below_drewN_r ?_ _))) HOK.out (HG5.out _ (by repeat (first | exact Below.refl _ _ | (apply Hid.out; assumption) | refine Below.drew ?_ | refine below_drewN_r ?_ _))) HF5.out).mono ?_; rintro e w6 ⟨rfl, hb6⟩; have HC6 : Hid (Below w5.heap.size w5 w6) := hid (below_step (by repeat (first | exact Below.refl _ _ | (apply Hid.out; assumption) | refine Below.drew ?_ | refine below_drewN_r ?_ _)) hb6); clear hb6; clear x0 x1 x2; obtain ⟨x0, x1, x2⟩ := KP.out _ HC6.out; skip)
    | (go_at_call 19; with_reducible refine (lives_any _).mono ?_; rintro e w7 ⟨rfl, hb7⟩; have HC7 : Hid (Below w5.heap.size w5 w7) := hid (below_step (by repeat (first | exact Below.refl _ _ | (apply Hid.out; assumption) | refine Below.drew ?_ | refine below_drewN_r ?_ _)) hb7); clear hb7; clear x0 x1 x2; obtain ⟨x0, x1, x2⟩ := KP.out _ HC7.out; skip)
    | fail)
  go_upto_region 6 with (first | (go_at_call 28; refine (rCells_any _ _ _ q _ (HO.out _ (by repeat (first | exact Below.refl _ _ | (apply Hid.out; assumption) | refine Below.drew ?_ | refine below_drewN_r ?_ _))) HOK.out).mono ?_; rintro e w8 ⟨vl, rfl, hs8, hb8⟩; obtain ⟨l1, l2, rfl⟩ := row_slice hs8; have HS8 := hid hs8; have HC8 : Hid (Below w5.heap.size w5 w8) := hid (below_step (by repeat (first | exact Below.refl _ _ | (apply Hid.out; assumption) | refine Below.drew ?_ | refine below_drewN_r ?_ _)) hb8); clear hb8 hs8) | fail)
  clear x0 x1 x2
  have G0 : Hid (∀ w', Below w8.heap.size w8 w' → IsGrid w' (.slice g5 n5 d5) (q.gridOf q.KK)) := fun w' hb => HG5.out w' (HC8.out.trans (hb.mono HC8.out.size))
  replace KP : Hid (∀ w', Below w8.heap.size w8 w' → w'.cell? ⟨X, 0, none⟩ = some (.slice a1 q.safe.length c1) ∧ w'.cell? ⟨X, 1, none⟩ = some (.slice a2 q.moves.length c2) ∧ w'.cell? ⟨X, 2, none⟩ = some (.slice a3 q.jolts.length c3)) := fun w' hb => KP.out w' (HC8.out.trans (hb.mono HC8.out.size))
  replace HO : Hid (∀ w', Below w8.heap.size w8 w' → IsOv w' (.slice a1 q.safe.length c1) (.slice a2 q.moves.length c2) (.slice a3 q.jolts.length c3) q) := fun w' hb => HO.out w' (HC8.out.trans (hb.mono HC8.out.size))
  replace FIN : Hid (∀ w', Below w8.heap.size w8 w' → Below w.heap.size w w') := fun w' hb => FIN.out w' (HC8.out.trans (hb.mono HC8.out.size))
  obtain ⟨BC, hBC⟩ : ∃ BC : Nat, OwnS w8 BC 28 (.slice l1 q.cells.length l2) q.cells := ⟨_, HS8.out⟩
  have HCS : Hid (∀ w', Below w8.heap.size w8 w' → OwnS w' BC 28 (.slice l1 q.cells.length l2) q.cells) := fun w' hb => ownS_below hBC hb
  have HEXC : Hid (∀ i, i < q.cells.length → q.ex (sAt q.cells i) = true) := cells_ex q
  have hn16 : q.cells.length ≤ 1024 := cells_small HOK.out
  clear hBC HS8
  obtain ⟨n, hn⟩ : ∃ n, n = q.cells.length := ⟨_, rfl⟩
  have HN := hid hn
  rw [← hn] at hn16 ⊢
  clear hn
  obtain ⟨wa, hwa⟩ : ∃ wa, wa = w8.alloc (.cells #[] 3) := ⟨_, rfl⟩
  rw [← hwa]
  have hba : Below w8.heap.size w8 wa := by rw [hwa]; exact (Below.refl _ _).alloc (Nat.le_refl _) _
  have HBA := hid hba
  have HMa : Hid (OwnI wa w8.heap.size (.slice (some ⟨w8.heap.size, 0, none⟩) 0 0) []) := by rw [hwa]; exact ownI_made w8 _ (Nat.le_refl _)
  have hn1 : 1 ≤ n := by rw [HN.out, cells_len]; exact N_pos HOK.out
  obtain ⟨ai, hai⟩ : ∃ ai : Nat, at' % (n : Int) = (ai : Int) := ⟨(at' % (n : Int)).toNat, (Int.toNat_of_nonneg (Int.emod_nonneg _ (by omega))).symm⟩
  have hain : ai < n := by have := Int.emod_lt_of_pos at' (by omega : (0 : Int) < (n : Int)); omega
  have hrem : at'.tmod (n : Int) = (ai : Int) := by rw [Int.tmod_eq_emod_of_nonneg hat0, hai]
  have hnz : ¬ (n : Int) = 0 := by omega
  have hwat : IntKind.i64.wrap at' = at' := by rw [IntKind.wrap_i64]; omega
  have hlo : ai < q.cells.length := by rw [← HN.out]; exact hain
  obtain ⟨g, rfl, -⟩ := sp_at (HCS.out wa HBA.out) ai hlo
  have hex := HEXC.out ai hlo
  obtain ⟨s, hs⟩ : ∃ s, s = sAt q.cells ai := ⟨_, rfl⟩
  obtain ⟨p, x, y⟩ := s
  rw [← hs] at hex
  have HEX := hid hex
  obtain ⟨e0, e1, e2⟩ := sp_all (HCS.out wa HBA.out) hlo hs.symm
  have HRE := hid hrem
  have HWA := hid hwat
  have HNZ := hid hnz
  clear hwa hba hai hs hex hlo hwat hrem hnz
  go_cut [12] (fun v12 wx => ∃ CB, v12 = .pointer (some ⟨CB, 0, none⟩) ∧ wx.heap[CB]? = some (.cells #[.int .i64 p, .int .i64 x, .int .i64 y] 28) ∧ Below wa.heap.size wa wx)
  case first =>
    have hrem := HRE.out
    have hnz := HNZ.out
    have hwat := HWA.out
    go_wp2_with fail
    go_meet
    exact ⟨_, rfl, heap_alloc_new _ _, (Below.refl _ _).alloc (Nat.le_refl _) _⟩
  case rest =>
    obtain ⟨CB, rfl, hcb, hbb⟩ := hcut
    rename World => wb
    have HCB := hid hcb
    have HBb : Hid (Below w8.heap.size w8 wb) := HBA.out.trans (hbb.mono HBA.out.size)
    have HMb : Hid (OwnI wb w8.heap.size (.slice (some ⟨w8.heap.size, 0, none⟩) 0 0) []) := ownI_below HMa.out hbb
    have hyn := HY.out.1
    unfold maxLen at hyn
    have HYW : Hid (∀ i, i < yn → ∃ ad z, ya = some ad ∧ (∀ w', Below w8.heap.size w8 w' → w'.cell? (ad.add i) = some (.int .u8 z)) ∧ 0 ≤ z ∧ z < 256) := by
      intro i hi
      obtain ⟨ad, z, h1, h2, h3, h4⟩ := HY.out.2 i hi
      exact ⟨ad, z, h1, fun w' hb => ((FIN.out w' hb).cell (p := ad.add i) (by rw [add_block]; exact h2)).trans h3, h4⟩
    have hj4 : q.jolts.length ≤ 4 := HOK.out.nj.2
    have hj1 : 1 ≤ q.jolts.length := HOK.out.nj.1
    have NZ : Hid (¬ q.jolts.length = 0) := by show ¬ _; omega
    have NZ2 : Hid (¬ q.jolts = []) := by intro h; rw [h] at hj1; simp at hj1
    have REM : Hid (∀ z : Int, 0 ≤ z → z.tmod (q.jolts.length : Int) = z % (q.jolts.length : Int)) := fun z hz => Int.tmod_eq_emod_of_nonneg hz
    obtain ⟨T, hTy, hT2, HTM⟩ : ∃ T, T ≤ yn ∧ T ≤ 200 ∧ Hid (T = yn ∨ T = 200) := ⟨min yn 200, by omega, by omega, by show _ ∨ _; omega⟩
    clear hcb hbb e0 e1 e2
    go_upto_block 0 with fail
    go_cut [11] (fun v11 wx => ∃ (a : Option Addr) (cc : Nat) (js : List Int), v11 = .slice a T cc ∧ js.length = T ∧ Hid (js.all q.jok = true) ∧ Hid (OwnI wx w8.heap.size (.slice a T cc) js) ∧ Hid (wx.heap[CB]? = some (.cells #[.int .i64 p, .int .i64 x, .int .i64 y] 28)) ∧ Hid (Below w8.heap.size w8 wx))
    case first =>
      go_wp2_with fail
      go_loopw [11, 13] (fun v iv wr => ∃ (i : Nat) (a : Option Addr) (cc : Nat) (js : List Int), v = .slice a i cc ∧ iv = .int .i64 i ∧ i ≤ T ∧ js.length = i ∧ Hid (js.all q.jok = true) ∧ Hid (OwnI wr w8.heap.size (.slice a i cc) js) ∧ Hid (wr.heap[CB]? = some (.cells #[.int .i64 p, .int .i64 x, .int .i64 y] 28)) ∧ Hid (Below w8.heap.size w8 wr)) (fun _ iv _ => T - (intOf iv).toNat)
      case atStart => exact ⟨0, _, 0, [], rfl, rfl, Nat.zero_le _, rfl, rfl, HMb, HCB, HBb⟩
      case round =>
        obtain ⟨i, a, cc, js, rfl, rfl, hi, hjl, HALL, HOI, HCr, HBr⟩ := hrel
        rename World => wr
        by_cases hlt : i < T
        · have hiy : i < yn := by omega
          have hi2 : i < 200 := by omega
          obtain ⟨ad, z, rfl, hcell, hz0, hz1⟩ := HYW.out i hiy
          have HZC := hid hcell
          have KEEP : Hid (∀ w', Below wr.heap.size wr w' → w'.cell? (ad.add i) = some (.int .u8 z) ∧ w'.cell? ⟨X, 2, none⟩ = some (.slice a3 q.jolts.length c3) ∧ Hid (Below wr.heap.size wr w')) := fun w' hb => ⟨HZC.out w' (HBr.out.trans (hb.mono HBr.out.size)), (KP.out w' (HBr.out.trans (hb.mono HBr.out.size))).2.2, hb⟩
          clear hcell
          obtain ⟨x0, x1, -⟩ := KEEP.out wr (Below.refl _ _)
          go_upto_region 10 with fail
          clear x0 x1
          have HW0 : Hid (Below wr.heap.size wr wr.drew) := (Below.refl _ _).drew
          have HOI0 : Hid (OwnI wr.drew w8.heap.size (.slice a i cc) js) := ownI_below HOI.out HW0.out
          have HC0 : Hid (wr.drew.heap[CB]? = some (.cells #[.int .i64 p, .int .i64 x, .int .i64 y] 28)) := HCr.out
          refine wp_region_held_drew (S := fun w' => w'.cell? (ad.add i) = some (.int .u8 z) ∧ w'.cell? ⟨X, 2, none⟩ = some (.slice a3 q.jolts.length c3) ∧ Hid (Below w8.heap.size w8 w')) (by kernel_rfl) (by obtain ⟨f0, f1, -⟩ := KEEP.out _ HW0.out; exact ⟨f0, f1, HBr.out.trans (HW0.out.mono HBr.out.size)⟩) (fun hHeld => ?_)
          have HU0 : Hid (Below w8.heap.size w8 wr.drew) := HBr.out.trans (HW0.out.mono HBr.out.size)
          generalize wr.drew = v0 at *
          have K10 : ∀ w', Below w8.heap.size w8 w' → w'.cell? (ad.add i) = some (.int .u8 z) ∧ w'.cell? ⟨X, 2, none⟩ = some (.slice a3 q.jolts.length c3) ∧ Hid (Below w8.heap.size w8 w') := fun w' hb => ⟨HZC.out w' hb, (KP.out w' hb).2.2, hb⟩
          refine take_at (i := 0) 59 (v := .slice a i cc) rfl (by kernel_rfl) (by kernel_rfl) (by kernel_rfl) rfl (fun _ _ _ h => h) (by rfl) (fun w hSw => ?_) hHeld ?_
          · (try dsimp only at hSw); go_simp
          simp only [Act.put, List.setIfInBounds_toArray, List.set_cons_zero, List.set_cons_succ]
          refine take_at (i := 1) 60 (v := .slice (some ad) yn yc) rfl (by kernel_rfl) (by kernel_rfl) (by kernel_rfl) rfl (fun _ _ _ h => h) (by rfl) (fun w hSw => ?_) hHeld ?_
          · (try dsimp only at hSw); go_simp
          simp only [Act.put, List.setIfInBounds_toArray, List.set_cons_zero, List.set_cons_succ]
          refine take_at (i := 2) 61 (v := .int .i64 i) rfl (by kernel_rfl) (by kernel_rfl) (by kernel_rfl) rfl (fun _ _ _ h => h) (by rfl) (fun w hSw => ?_) hHeld ?_
          · (try dsimp only at hSw); go_simp
          simp only [Act.put, List.setIfInBounds_toArray, List.set_cons_zero, List.set_cons_succ]
          refine take_at (i := 3) 62 (v := .pointer (some (ad.add i))) rfl (by kernel_rfl) (by kernel_rfl) (by kernel_rfl) rfl (fun _ _ _ h => h) (by rfl) (fun w hSw => ?_) hHeld ?_
          · (try dsimp only at hSw); go_simp
          simp only [Act.put, List.setIfInBounds_toArray, List.set_cons_zero, List.set_cons_succ]
          refine take_at (i := 4) 63 (v := .int .u8 z) rfl (by kernel_rfl) (by kernel_rfl) (by kernel_rfl) rfl (fun _ _ _ h => h) (by rfl) (fun w hSw => ?_) hHeld ?_
          · (try dsimp only at hSw); go_simp
          simp only [Act.put, List.setIfInBounds_toArray, List.set_cons_zero, List.set_cons_succ]
          refine take_at (i := 5) 64 (v := .int .i64 z) rfl (by kernel_rfl) (by kernel_rfl) (by kernel_rfl) rfl (fun _ _ _ h => h) (by rfl) (fun w hSw => ?_) hHeld ?_
          · (try dsimp only at hSw); go_simp; exact wrap_small hz0 hz1
          simp only [Act.put, List.setIfInBounds_toArray, List.set_cons_zero, List.set_cons_succ]
          refine take_at (i := 6) 65 (v := .pointer (some ⟨X, 2, none⟩)) rfl (by kernel_rfl) (by kernel_rfl) (by kernel_rfl) rfl (fun _ _ _ h => h) (by rfl) (fun w hSw => ?_) hHeld ?_
          · (try dsimp only at hSw); go_simp
          simp only [Act.put, List.setIfInBounds_toArray, List.set_cons_zero, List.set_cons_succ]
          refine take_at (i := 7) 66 (v := .slice a3 q.jolts.length c3) rfl (by kernel_rfl) (by kernel_rfl) (by kernel_rfl) rfl (fun _ _ _ h => h) (by rfl) (fun w hSw => ?_) hHeld ?_
          · (try dsimp only at hSw); go_simp
          simp only [Act.put, List.setIfInBounds_toArray, List.set_cons_zero, List.set_cons_succ]
          refine take_at (i := 8) 67 (v := .int .i64 q.jolts.length) rfl (by kernel_rfl) (by kernel_rfl) (by kernel_rfl) rfl (fun _ _ _ h => h) (by rfl) (fun w hSw => ?_) hHeld ?_
          · (try dsimp only at hSw); go_simp
          simp only [Act.put, List.setIfInBounds_toArray, List.set_cons_zero, List.set_cons_succ]
          refine take_at (i := 9) 68 (v := .int .i64 (z % (q.jolts.length : Int))) rfl (by kernel_rfl) (by kernel_rfl) (by kernel_rfl) rfl (fun _ _ _ h => h) (by rfl) (fun w hSw => ?_) hHeld ?_
          · (try dsimp only at hSw); go_simp; rw [if_neg (by first | exact NZ.out | exact NZ2.out), REM.out _ hz0]
          simp only [Act.put, List.setIfInBounds_toArray, List.set_cons_zero, List.set_cons_succ]
          refine wpAnyH_ready (rs := [10]) (by kernel_rfl) (by simp) ?_
          refine node_buildI 69 68 (z % (q.jolts.length : Int)) rfl rfl rfl rfl rfl (K10 _ (HU0.out.alloc HU0.out.size _)) (fun hHeld => ?_) AllReadyH.nil
          · have hnew := heap_alloc_new v0 (.cells #[.int .i64 (z % (q.jolts.length : Int))] 3)
            have hoi := ownI_below HOI0.out ((Below.refl _ _).alloc (Nat.le_refl _) (.cells #[.int .i64 (z % (q.jolts.length : Int))] 3))
            have hu := HU0.out.alloc HU0.out.size (.cells #[.int .i64 (z % (q.jolts.length : Int))] 3)
            have hcb := (Below.heap_alloc v0 (.cells #[.int .i64 (z % (q.jolts.length : Int))] 3) CB (heap_lt HC0.out)).trans HC0.out
            simp only [Act.put, List.setIfInBounds_toArray, List.set_cons_zero, List.set_cons_succ]
            refine wpAnyH_ready (rs := [11]) (by kernel_rfl) (by simp) ?_
            refine node_app1 70 w8.heap.size (.tmp 59) (.tmp 69) 36 3 _ 1 8 info3 rfl (by decide) Tryd.underlying36 _ js.length (ints js) _ [.int .i64 (z % (q.jolts.length : Int))] rfl (by intro u hu; simp at hu; subst hu; rfl) rfl rfl rfl rfl rfl rfl hnew hoi hu.size (by omega) (by decide) ?_ AllReadyH.nil
            · intro sa sn sc w9 ho9 hg9
              have ho9' : OwnI w9 w8.heap.size (.slice sa sn sc) (js ++ [(z % (q.jolts.length : Int))]) := by unfold OwnI; rw [ints_append, List.length_append]; exact ho9
              have hne : some CB ≠ (Value.slice a i cc).ownBlock := by intro e; obtain ⟨cs, hcc⟩ := row_type hoi CB e.symm; rw [hcb] at hcc; simp at hcc
              have HC9 : Hid (w9.heap[CB]? = some (.cells #[.int .i64 p, .int .i64 x, .int .i64 y] 28)) := (hg9.block CB (heap_lt hcb) hne).trans hcb
              have HU9 : Hid (Below w8.heap.size w8 w9) := hu.grown hg9 hu.size (fun k hk => (hoi.lt k hk).1)
              have hHeld := K10 _ HU9.out
              refine ⟨hHeld, ?_⟩
              have HO9 := hid ho9'
              clear ho9 ho9' hg9 hne hnew hoi hu hcb
              simp only [Act.put, List.setIfInBounds_toArray, List.set_cons_zero, List.set_cons_succ]
              refine take_at (i := 12) 11 (v := .slice sa sn sc) rfl (by kernel_rfl) (by kernel_rfl) (by kernel_rfl) rfl (fun _ _ _ h => h) (by rfl) (fun w hSw => ?_) hHeld ?_
              · (try dsimp only at hSw); go_simp
              simp only [Act.put, List.setIfInBounds_toArray, List.set_cons_zero, List.set_cons_succ]
              refine wpAnyH_done (by kernel_rfl) ?_ _
              clear hHeld
              obtain ⟨_, _, hsn⟩ := row_slice HO9.out
              obtain rfl : sn = i + 1 := by cases hsn; rw [List.length_append, hjl]; rfl
              clear hsn
              have HA9 : Hid ((js ++ [(z % (q.jolts.length : Int))]).all q.jok = true) := by
                show _ = _
                rw [List.all_append, HALL.out, List.all_cons, List.all_nil, Bool.and_true, Bool.true_and]
                unfold Ov.jok
                have h1 := Int.emod_nonneg z (by omega : (q.jolts.length : Int) ≠ 0)
                have h2 := Int.emod_lt_of_pos z (by omega : (0 : Int) < (q.jolts.length : Int))
                exact decide_eq_true ⟨h1, h2⟩
              go_wp2_with fail
              go_roundw
              case rel => exact ⟨i + 1, sa, sc, js ++ [(z % (q.jolts.length : Int))], rfl, by go_num, by omega, by simp [hjl], HA9, HO9, HC9, HU9⟩
              case measure => simp [intOf]; omega
        · obtain rfl : i = T := by omega
          by_cases hty : i < yn
          · have h200 : ¬ i < 200 := by have := HTM.out; omega
            go_wp2_with fail
            go_meet
            exact ⟨a, cc, js, rfl, hjl, HALL, HOI, HCr, HBr⟩
          · go_wp2_with fail
            go_meet
            exact ⟨a, cc, js, rfl, hjl, HALL, HOI, HCr, HBr⟩
    case rest =>
      obtain ⟨a, cc, js, rfl, hjl, HALL, HOI, HCc, HBc⟩ := hcut
      rename World => wc
      have hcap := row_cap HOI.out
      have HJS : Hid (∀ w', Below wc.heap.size wc w' → IsInts w' (.slice a T cc) js) := fun w' hb => ownI_ints (ownI_below HOI.out hb) (by omega)
      have HBX : Hid (∀ w', Below wc.heap.size wc w' → w'.cell? ⟨CB, 0, none⟩ = some (.int .i64 p) ∧ w'.cell? ⟨CB, 1, none⟩ = some (.int .i64 x) ∧ w'.cell? ⟨CB, 2, none⟩ = some (.int .i64 y)) := fun w' hb => cells3_of ((hb.block CB (heap_lt HCc.out)).trans HCc.out)
      replace G0 : Hid (∀ w', Below wc.heap.size wc w' → IsGrid w' (.slice g5 n5 d5) (q.gridOf q.KK)) := fun w' hb => G0.out w' (HBc.out.trans (hb.mono HBc.out.size))
      replace KP : Hid (∀ w', Below wc.heap.size wc w' → w'.cell? ⟨X, 0, none⟩ = some (.slice a1 q.safe.length c1) ∧ w'.cell? ⟨X, 1, none⟩ = some (.slice a2 q.moves.length c2) ∧ w'.cell? ⟨X, 2, none⟩ = some (.slice a3 q.jolts.length c3)) := fun w' hb => KP.out w' (HBc.out.trans (hb.mono HBc.out.size))
      replace HO : Hid (∀ w', Below wc.heap.size wc w' → IsOv w' (.slice a1 q.safe.length c1) (.slice a2 q.moves.length c2) (.slice a3 q.jolts.length c3) q) := fun w' hb => HO.out w' (HBc.out.trans (hb.mono HBc.out.size))
      replace FIN : Hid (∀ w', Below wc.heap.size wc w' → Below w.heap.size w w') := fun w' hb => FIN.out w' (HBc.out.trans (hb.mono HBc.out.size))
      have HE0 : Hid (Below wc.heap.size wc wc) := Below.refl _ _
      have hT200 : T ≤ 200 := by omega
      have HJL := hid hjl
      have hTc : T ≤ cc := hcap.2.1
      have hcm : cc ≤ maxLen := hcap.2.2.1
      unfold maxLen at hcm
      clear hcap HOI HCc HCB HBb HMb HMa
      obtain ⟨x0, x1, x2⟩ := KP.out wc HE0.out
      obtain ⟨z0, z1, z2⟩ := HBX.out wc HE0.out
      cases hkk : q.KK (p, x, y)
      · have CP : Hid (∀ w', Below wc.heap.size wc w' → Calls Tryd.prog 39 #[.agg #[.slice a1 q.safe.length c1, .slice a2 q.moves.length c2, .slice a3 q.jolts.length c3], .agg #[.int .i64 p, .int .i64 x, .int .i64 y], .slice a T cc] w' fun e w'' => e = .returned (.tuple #[.slice none 0 0, .int .i64 5]) ∧ Below w'.heap.size w' w'') := fun w' hb => by
          have h := play_out (c := (p, x, y)) (HO.out w' hb) HOK.out (HJS.out w' hb) HEX.out (by omega) HALL.out hkk
          exact h
        have CI : Hid (∀ w', Below wc.heap.size wc w' → Calls Tryd.prog 29 #[.slice g5 n5 d5, .agg #[.int .i64 p, .int .i64 x, .int .i64 y]] w' fun e w'' => e = .returned (.bool false) ∧ Below w'.heap.size w' w'') := fun w' hb => (in_kk HOK.out (G0.out w' hb) (p, x, y) HEX.out).mono (by rw [hkk]; rintro e w'' ⟨rfl, h⟩; exact ⟨rfl, h⟩)
        clear hkk
        go_wp2_with (first
          | (go_at_call 39; with_reducible refine (CP.out _ (by repeat (first | exact Below.refl _ _ | (apply Hid.out; assumption) | refine Below.drew ?_ | refine below_drewN_r ?_ _))).mono ?_; rintro e w11 ⟨rfl, hb11⟩; have HE11 : Hid (Below wc.heap.size wc w11) := hid (below_step (by repeat (first | exact Below.refl _ _ | (apply Hid.out; assumption) | refine Below.drew ?_ | refine below_drewN_r ?_ _)) hb11); clear hb11; clear x0 x1 x2; obtain ⟨x0, x1, x2⟩ := KP.out _ HE11.out; clear z0 z1 z2; obtain ⟨z0, z1, z2⟩ := HBX.out _ HE11.out; skip)
          | (go_at_call 29; with_reducible refine (CI.out _ (by repeat (first | exact Below.refl _ _ | (apply Hid.out; assumption) | refine Below.drew ?_ | refine below_drewN_r ?_ _))).mono ?_; rintro e w12 ⟨rfl, hb12⟩; have HE12 : Hid (Below wc.heap.size wc w12) := hid (below_step (by repeat (first | exact Below.refl _ _ | (apply Hid.out; assumption) | refine Below.drew ?_ | refine below_drewN_r ?_ _)) hb12); clear hb12; clear x0 x1 x2; obtain ⟨x0, x1, x2⟩ := KP.out _ HE12.out; clear z0 z1 z2; obtain ⟨z0, z1, z2⟩ := HBX.out _ HE12.out; skip)
          | fail)
        go_ret
        exact ⟨rfl, FIN.out _ HE12.out⟩
      · have CP : Hid (∀ w', Below wc.heap.size wc w' → Calls Tryd.prog 39 #[.agg #[.slice a1 q.safe.length c1, .slice a2 q.moves.length c2, .slice a3 q.jolts.length c3], .agg #[.int .i64 p, .int .i64 x, .int .i64 y], .slice a T cc] w' fun e w'' => ∃ a cc, e = .returned (.tuple #[.slice a T cc, .int .i64 0]) ∧ OwnS w'' w'.heap.size 28 (.slice a T cc) (q.play (p, x, y) js) ∧ Below w'.heap.size w' w'') := fun w' hb => by
          have h := play_in (HO.out w' hb) HOK.out (HJS.out w' hb) HEX.out (by omega) HALL.out hkk
          rw [hjl] at h
          exact h
        have CI : Hid (∀ w', Below wc.heap.size wc w' → Calls Tryd.prog 29 #[.slice g5 n5 d5, .agg #[.int .i64 p, .int .i64 x, .int .i64 y]] w' fun e w'' => e = .returned (.bool true) ∧ Below w'.heap.size w' w'') := fun w' hb => (in_kk HOK.out (G0.out w' hb) (p, x, y) HEX.out).mono (by rw [hkk]; rintro e w'' ⟨rfl, h⟩; exact ⟨rfl, h⟩)
        obtain ⟨h, hh⟩ : ∃ h, h = T / 2 := ⟨_, rfl⟩
        have hhT : h ≤ T := by omega
        have hhc : h ≤ cc := by omega
        have hquo : (T : Int).tdiv 2 = (h : Int) := by rw [Int.tdiv_eq_ediv_of_nonneg (by omega)]; omega
        have HQUO := hid hquo
        have HHH := hid hh
        have htl : (js.take h).length = h := by rw [List.length_take]; omega
        have HTL := hid htl
        have HAT : Hid ((js.take h).all q.jok = true) := by
          show _ = _
          rw [List.all_eq_true]
          intro z hz
          exact List.all_eq_true.1 HALL.out z (List.mem_of_mem_take hz)
        have CP2 : Hid (∀ w', Below wc.heap.size wc w' → Calls Tryd.prog 39 #[.agg #[.slice a1 q.safe.length c1, .slice a2 q.moves.length c2, .slice a3 q.jolts.length c3], .agg #[.int .i64 p, .int .i64 x, .int .i64 y], .slice a h cc] w' fun e w'' => ∃ a cc, e = .returned (.tuple #[.slice a h cc, .int .i64 0]) ∧ OwnS w'' w'.heap.size 28 (.slice a h cc) (q.play (p, x, y) (js.take h)) ∧ Below w'.heap.size w' w'') := fun w' hb => by
          have h1 := play_in (HO.out w' hb) HOK.out (isInts_take (HJS.out w' hb) h (by omega)) HEX.out (by omega) HAT.out hkk
          rw [htl] at h1
          exact h1
        have HKK := hid hkk
        clear hkk hh hquo htl
        go_upto_region 14 with (first
          | (go_at_call 39; with_reducible refine (CP.out _ (by repeat (first | exact Below.refl _ _ | (apply Hid.out; assumption) | refine Below.drew ?_ | refine below_drewN_r ?_ _))).mono ?_; rintro e w11 ⟨la, lc, rfl, hs11, hb11⟩; have HS11 := hid hs11; have HL11 : Hid (Below w11.heap.size w11 w11) := hid (Below.refl _ _); have HE11 : Hid (Below wc.heap.size wc w11) := hid (below_step (by repeat (first | exact Below.refl _ _ | (apply Hid.out; assumption) | refine Below.drew ?_ | refine below_drewN_r ?_ _)) hb11); clear hb11 hs11; clear x0 x1 x2; obtain ⟨x0, x1, x2⟩ := KP.out _ HE11.out; clear z0 z1 z2; obtain ⟨z0, z1, z2⟩ := HBX.out _ HE11.out; skip)
          | (go_at_call 29; with_reducible refine (CI.out _ (by repeat (first | exact Below.refl _ _ | (apply Hid.out; assumption) | refine Below.drew ?_ | refine below_drewN_r ?_ _))).mono ?_; rintro e w12 ⟨rfl, hb12⟩; have HL12 : Hid (Below w11.heap.size w11 w12) := hid (below_step (by repeat (first | exact Below.refl _ _ | (apply Hid.out; assumption) | refine Below.drew ?_ | refine below_drewN_r ?_ _)) hb12); have HE12 : Hid (Below wc.heap.size wc w12) := hid (below_step (by repeat (first | exact Below.refl _ _ | (apply Hid.out; assumption) | refine Below.drew ?_ | refine below_drewN_r ?_ _)) hb12); clear hb12; clear x0 x1 x2; obtain ⟨x0, x1, x2⟩ := KP.out _ HE12.out; clear z0 z1 z2; obtain ⟨z0, z1, z2⟩ := HBX.out _ HE12.out; skip)
          | fail)
        have HS12 : Hid (OwnS w12 w12.heap.size 28 (.slice la T lc) (q.play (p, x, y) js) ∨ True) := .inr trivial
        clear HS12
        have K14 : Hid (∀ w', Below wc.heap.size wc w' → w'.cell? ⟨X, 0, none⟩ = some (.slice a1 q.safe.length c1) ∧ w'.cell? ⟨X, 1, none⟩ = some (.slice a2 q.moves.length c2) ∧ w'.cell? ⟨X, 2, none⟩ = some (.slice a3 q.jolts.length c3) ∧ w'.cell? ⟨CB, 0, none⟩ = some (.int .i64 p) ∧ w'.cell? ⟨CB, 1, none⟩ = some (.int .i64 x) ∧ w'.cell? ⟨CB, 2, none⟩ = some (.int .i64 y) ∧ Hid (Below wc.heap.size wc w')) := fun w' hb => by
          obtain ⟨f0, f1, f2⟩ := KP.out w' hb
          obtain ⟨c0, c1, c2⟩ := HBX.out w' hb
          exact ⟨f0, f1, f2, c0, c1, c2, hb⟩
        clear x0 x1 x2 z0 z1 z2
        refine wp_region_held_drew (S := fun w' => w'.cell? ⟨X, 0, none⟩ = some (.slice a1 q.safe.length c1) ∧ w'.cell? ⟨X, 1, none⟩ = some (.slice a2 q.moves.length c2) ∧ w'.cell? ⟨X, 2, none⟩ = some (.slice a3 q.jolts.length c3) ∧ w'.cell? ⟨CB, 0, none⟩ = some (.int .i64 p) ∧ w'.cell? ⟨CB, 1, none⟩ = some (.int .i64 x) ∧ w'.cell? ⟨CB, 2, none⟩ = some (.int .i64 y) ∧ Hid (Below wc.heap.size wc w')) (by kernel_rfl) (K14.out _ HE12.out.drew) (fun hHeld => ?_)
        refine take_at (i := 0) 90 (v := .agg #[.slice a1 q.safe.length c1, .slice a2 q.moves.length c2, .slice a3 q.jolts.length c3]) rfl (by kernel_rfl) (by kernel_rfl) (by kernel_rfl) rfl (fun _ _ _ h => h) (by rfl) (fun w hSw => ?_) hHeld ?_
        · (try dsimp only at hSw); go_simp
        simp only [Act.put, List.setIfInBounds_toArray, List.set_cons_zero, List.set_cons_succ]
        refine take_at (i := 1) 91 (v := .agg #[.int .i64 p, .int .i64 x, .int .i64 y]) rfl (by kernel_rfl) (by kernel_rfl) (by kernel_rfl) rfl (fun _ _ _ h => h) (by rfl) (fun w hSw => ?_) hHeld ?_
        · (try dsimp only at hSw); go_simp
        simp only [Act.put, List.setIfInBounds_toArray, List.set_cons_zero, List.set_cons_succ]
        refine take_at (i := 2) 92 (v := .slice a T cc) rfl (by kernel_rfl) (by kernel_rfl) (by kernel_rfl) rfl (fun _ _ _ h => h) (by rfl) (fun w hSw => ?_) hHeld ?_
        · (try dsimp only at hSw); go_simp
        simp only [Act.put, List.setIfInBounds_toArray, List.set_cons_zero, List.set_cons_succ]
        refine take_at (i := 3) 93 (v := .slice a T cc) rfl (by kernel_rfl) (by kernel_rfl) (by kernel_rfl) rfl (fun _ _ _ h => h) (by rfl) (fun w hSw => ?_) hHeld ?_
        · (try dsimp only at hSw); go_simp
        simp only [Act.put, List.setIfInBounds_toArray, List.set_cons_zero, List.set_cons_succ]
        refine take_at (i := 4) 94 (v := .int .i64 T) rfl (by kernel_rfl) (by kernel_rfl) (by kernel_rfl) rfl (fun _ _ _ h => h) (by rfl) (fun w hSw => ?_) hHeld ?_
        · (try dsimp only at hSw); go_simp
        simp only [Act.put, List.setIfInBounds_toArray, List.set_cons_zero, List.set_cons_succ]
        refine take_at (i := 5) 95 (v := .int .i64 h) rfl (by kernel_rfl) (by kernel_rfl) (by kernel_rfl) rfl (fun _ _ _ h => h) (by rfl) (fun w hSw => ?_) hHeld ?_
        · (try dsimp only at hSw); go_simp; rw [IntKind.wrap_i64]; have := HHH.out; omega
        simp only [Act.put, List.setIfInBounds_toArray, List.set_cons_zero, List.set_cons_succ]
        refine take_at (i := 6) 96 (v := .slice a h cc) rfl (by kernel_rfl) (by kernel_rfl) (by kernel_rfl) rfl (fun _ _ _ h => h) (by rfl) (fun w hSw => ?_) hHeld ?_
        · (try dsimp only at hSw); go_simp
        simp only [Act.put, List.setIfInBounds_toArray, List.set_cons_zero, List.set_cons_succ]
        refine wpAnyH_ready (rs := [7]) (by kernel_rfl) (by simp) ?_
        refine node_f39 97 90 91 96 _ _ _ rfl (by rfl) rfl rfl rfl rfl rfl ((CP2.out _ HE12.out.drew).mono ?_) AllReadyH.nil
        · rintro e w14 ⟨ma, mc, rfl, hs14, hb14⟩
          have HS14 := hid hs14
          have HE14 : Hid (Below wc.heap.size wc w14) := hid (below_step HE12.out.drew hb14)
          have HL14 : Hid (Below w12.heap.size w12 w14) := hid (below_step ((Below.refl _ _).drew) hb14)
          have hHeld := K14.out _ HE14.out
          refine ⟨_, rfl, hHeld, ?_⟩
          clear hs14 hb14
          simp only [Act.put, List.setIfInBounds_toArray, List.set_cons_zero, List.set_cons_succ]
          refine take_at (i := 8) 89 (v := .tuple #[.slice ma h mc, .int .i64 0]) rfl (by kernel_rfl) (by kernel_rfl) (by kernel_rfl) rfl (fun _ _ _ h => h) (by rfl) (fun w hSw => ?_) hHeld ?_
          · (try dsimp only at hSw); go_simp
          simp only [Act.put, List.setIfInBounds_toArray, List.set_cons_zero, List.set_cons_succ]
          refine take_at (i := 9) 98 (v := .slice ma h mc) rfl (by kernel_rfl) (by kernel_rfl) (by kernel_rfl) rfl (fun _ _ _ h => h) (by rfl) (fun w hSw => ?_) hHeld ?_
          · (try dsimp only at hSw); go_simp
          simp only [Act.put, List.setIfInBounds_toArray, List.set_cons_zero, List.set_cons_succ]
          refine take_at (i := 10) 99 (v := .int .i64 0) rfl (by kernel_rfl) (by kernel_rfl) (by kernel_rfl) rfl (fun _ _ _ h => h) (by rfl) (fun w hSw => ?_) hHeld ?_
          · (try dsimp only at hSw); go_simp
          simp only [Act.put, List.setIfInBounds_toArray, List.set_cons_zero, List.set_cons_succ]
          refine take_at (i := 11) 16 (v := .slice ma h mc) rfl (by kernel_rfl) (by kernel_rfl) (by kernel_rfl) rfl (fun _ _ _ h => h) (by rfl) (fun w hSw => ?_) hHeld ?_
          · (try dsimp only at hSw); go_simp
          simp only [Act.put, List.setIfInBounds_toArray, List.set_cons_zero, List.set_cons_succ]
          refine take_at (i := 12) 17 (v := .int .i64 0) rfl (by kernel_rfl) (by kernel_rfl) (by kernel_rfl) rfl (fun _ _ _ h => h) (by rfl) (fun w hSw => ?_) hHeld ?_
          · (try dsimp only at hSw); go_simp
          simp only [Act.put, List.setIfInBounds_toArray, List.set_cons_zero, List.set_cons_succ]
          refine wpAnyH_done (by kernel_rfl) ?_ _
          clear hHeld
          obtain ⟨x0, x1, x2⟩ := KP.out w14 HE14.out
          have HSL : Hid (∀ w', Below w14.heap.size w14 w' → ∃ B, OwnS w' B 28 (.slice la T lc) (q.play (p, x, y) js)) := fun w' hb => ⟨_, ownS_below HS11.out (HL12.out.trans ((HL14.out.trans (hb.mono HL14.out.size)).mono HL12.out.size))⟩
          have HSM : Hid (∀ w', Below w14.heap.size w14 w' → ∃ B, OwnS w' B 28 (.slice ma h mc) (q.play (p, x, y) (js.take h))) := fun w' hb => ⟨_, ownS_below HS14.out hb⟩
          have hquo := HQUO.out
          have hq2 : (T : Int) / 2 = (h : Int) := by rw [← hquo, Int.tdiv_eq_ediv_of_nonneg (by omega)]
          go_upto_region 17 with fail
          clear x0 x1 x2 hquo hq2
          go_wp2_with fail
          go_loopw [18] (fun iv wr => ∃ (i : Nat), iv = .int .i64 i ∧ i ≤ T ∧ Hid (Below w14.heap.size w14 wr)) (fun iv _ => T - (intOf iv).toNat)
          case atStart => exact ⟨0, rfl, Nat.zero_le _, Below.refl _ _⟩
          case round =>
            obtain ⟨i, rfl, hi, HBr⟩ := hrel
            rename World => wr
            by_cases hlt : i < T
            · have hij : i < js.length := by omega
              have hlp : i < (q.play (p, x, y) js).length := by rw [play_len]; exact hij
              obtain ⟨BL, hSL⟩ := HSL.out wr HBr.out
              obtain ⟨gl, rfl, -⟩ := sp_at hSL i hlp
              obtain ⟨d, hd⟩ : ∃ d, d = q.walk (p, x, y) js (i + 1) := ⟨_, rfl⟩
              have hdk : q.KK d = true := by rw [hd]; exact walk_KK q (p, x, y) js HKK.out HALL.out (i + 1) (by omega)
              have hde : q.ex d = true := KK_ex q d hdk
              have hsd : sAt (q.play (p, x, y) js) i = d := by rw [hd]; exact sAt_play q (p, x, y) js i hij
              have hsm : i < h → sAt (q.play (p, x, y) (js.take h)) i = d := fun hih => by rw [sAt_play q (p, x, y) (js.take h) i (by rw [HTL.out]; exact hih), walk_take q (p, x, y) js (by omega), hd]
              have HSM2 := hid hsm
              clear hd hsm
              obtain ⟨dp, dx, dy⟩ := d
              have UP : Hid (∀ w', Below w14.heap.size w14 w' → Below wc.heap.size wc w') := fun w' hb => HE14.out.trans (hb.mono HE14.out.size)
              have HLC : Hid (∀ w', Below w14.heap.size w14 w' → w'.cell? ⟨gl, i * 3, none⟩ = some (.int .i64 dp) ∧ w'.cell? ⟨gl, i * 3 + 1, none⟩ = some (.int .i64 dx) ∧ w'.cell? ⟨gl, i * 3 + 2, none⟩ = some (.int .i64 dy)) := fun w' hb => by
                obtain ⟨B, h1⟩ := HSL.out w' hb
                exact sp_all h1 hlp hsd
              have CE : Hid (∀ w', Below w14.heap.size w14 w' → Calls Tryd.prog 18 #[.agg #[.slice a1 q.safe.length c1, .slice a2 q.moves.length c2, .slice a3 q.jolts.length c3], .agg #[.int .i64 dp, .int .i64 dx, .int .i64 dy]] w' fun e w'' => e = .returned (.bool true) ∧ Below w14.heap.size w14 w'') := fun w' hb => (exists_any _ _ _ q (dp, dx, dy) w' (HO.out w' (UP.out w' hb)) (dim_of_ok HOK.out)).mono (by rw [hde]; rintro e w'' ⟨rfl, h⟩; exact ⟨rfl, below_step hb h⟩)
              have CN : Hid (∀ w', Below w14.heap.size w14 w' → Calls Tryd.prog 29 #[.slice g5 n5 d5, .agg #[.int .i64 dp, .int .i64 dx, .int .i64 dy]] w' fun e w'' => e = .returned (.bool true) ∧ Below w14.heap.size w14 w'') := fun w' hb => (in_kk HOK.out (G0.out w' (UP.out w' hb)) (dp, dx, dy) hde).mono (by rw [hdk]; rintro e w'' ⟨rfl, h⟩; exact ⟨rfl, below_step hb h⟩)
              clear hdk hde hsd hSL
              by_cases hih : i < h
              · have hlm : i < (q.play (p, x, y) (js.take h)).length := by rw [play_len, HTL.out]; exact hih
                obtain ⟨BM, hSM⟩ := HSM.out wr HBr.out
                obtain ⟨gm, rfl, -⟩ := sp_at hSM i hlm
                have HMC : Hid (∀ w', Below w14.heap.size w14 w' → w'.cell? ⟨gm, i * 3, none⟩ = some (.int .i64 dp) ∧ w'.cell? ⟨gm, i * 3 + 1, none⟩ = some (.int .i64 dx) ∧ w'.cell? ⟨gm, i * 3 + 2, none⟩ = some (.int .i64 dy)) := fun w' hb => by
                  obtain ⟨B, h1⟩ := HSM.out w' hb
                  exact sp_all h1 hlm (HSM2.out hih)
                clear hSM
                have K20 : Hid (∀ w', Below w14.heap.size w14 w' → w'.cell? ⟨X, 0, none⟩ = some (.slice a1 q.safe.length c1) ∧ w'.cell? ⟨X, 1, none⟩ = some (.slice a2 q.moves.length c2) ∧ w'.cell? ⟨X, 2, none⟩ = some (.slice a3 q.jolts.length c3) ∧ w'.cell? ⟨gl, i * 3, none⟩ = some (.int .i64 dp) ∧ w'.cell? ⟨gl, i * 3 + 1, none⟩ = some (.int .i64 dx) ∧ w'.cell? ⟨gl, i * 3 + 2, none⟩ = some (.int .i64 dy) ∧ w'.cell? ⟨gm, i * 3, none⟩ = some (.int .i64 dp) ∧ w'.cell? ⟨gm, i * 3 + 1, none⟩ = some (.int .i64 dx) ∧ w'.cell? ⟨gm, i * 3 + 2, none⟩ = some (.int .i64 dy) ∧ Hid (Below w14.heap.size w14 w')) := fun w' hb => by
                  obtain ⟨f0, f1, f2⟩ := KP.out w' (UP.out w' hb)
                  obtain ⟨c0, c1, c2⟩ := HLC.out w' hb
                  obtain ⟨b0, b1, b2⟩ := HMC.out w' hb
                  exact ⟨f0, f1, f2, c0, c1, c2, b0, b1, b2, hb⟩
                obtain ⟨y0, y1, y2, -⟩ := K20.out wr HBr.out
                go_upto_region 20 with fail
                clear y0 y1 y2
                refine wp_region_held_drew (S := fun w' => w'.cell? ⟨X, 0, none⟩ = some (.slice a1 q.safe.length c1) ∧ w'.cell? ⟨X, 1, none⟩ = some (.slice a2 q.moves.length c2) ∧ w'.cell? ⟨X, 2, none⟩ = some (.slice a3 q.jolts.length c3) ∧ w'.cell? ⟨gl, i * 3, none⟩ = some (.int .i64 dp) ∧ w'.cell? ⟨gl, i * 3 + 1, none⟩ = some (.int .i64 dx) ∧ w'.cell? ⟨gl, i * 3 + 2, none⟩ = some (.int .i64 dy) ∧ w'.cell? ⟨gm, i * 3, none⟩ = some (.int .i64 dp) ∧ w'.cell? ⟨gm, i * 3 + 1, none⟩ = some (.int .i64 dx) ∧ w'.cell? ⟨gm, i * 3 + 2, none⟩ = some (.int .i64 dy) ∧ Hid (Below w14.heap.size w14 w')) (by kernel_rfl) (K20.out _ HBr.out.drew) (fun hHeld => ?_)
                refine take_at (i := 0) 127 (v := .agg #[.slice a1 q.safe.length c1, .slice a2 q.moves.length c2, .slice a3 q.jolts.length c3]) rfl (by kernel_rfl) (by kernel_rfl) (by kernel_rfl) rfl (fun _ _ _ h => h) (by rfl) (fun w hSw => ?_) hHeld ?_
                · (try dsimp only at hSw); go_simp
                simp only [Act.put, List.setIfInBounds_toArray, List.set_cons_zero, List.set_cons_succ]
                refine take_at (i := 1) 128 (v := .slice (some ⟨gl, 0, none⟩) T lc) rfl (by kernel_rfl) (by kernel_rfl) (by kernel_rfl) rfl (fun _ _ _ h => h) (by rfl) (fun w hSw => ?_) hHeld ?_
                · (try dsimp only at hSw); go_simp
                simp only [Act.put, List.setIfInBounds_toArray, List.set_cons_zero, List.set_cons_succ]
                refine take_at (i := 2) 129 (v := .int .i64 i) rfl (by kernel_rfl) (by kernel_rfl) (by kernel_rfl) rfl (fun _ _ _ h => h) (by rfl) (fun w hSw => ?_) hHeld ?_
                · (try dsimp only at hSw); go_simp
                simp only [Act.put, List.setIfInBounds_toArray, List.set_cons_zero, List.set_cons_succ]
                refine take_at (i := 3) 130 (v := .pointer (some ⟨gl, i * 3, none⟩)) rfl (by kernel_rfl) (by kernel_rfl) (by kernel_rfl) rfl (fun _ _ _ h => h) (by rfl) (fun w hSw => ?_) hHeld ?_
                · (try dsimp only at hSw); go_simp
                simp only [Act.put, List.setIfInBounds_toArray, List.set_cons_zero, List.set_cons_succ]
                refine take_at (i := 4) 131 (v := .agg #[.int .i64 dp, .int .i64 dx, .int .i64 dy]) rfl (by kernel_rfl) (by kernel_rfl) (by kernel_rfl) rfl (fun _ _ _ h => h) (by rfl) (fun w hSw => ?_) hHeld ?_
                · (try dsimp only at hSw); go_simp
                simp only [Act.put, List.setIfInBounds_toArray, List.set_cons_zero, List.set_cons_succ]
                refine wpAnyH_ready (rs := [5]) (by kernel_rfl) (by simp) ?_
                refine node_f18 132 127 131 _ _ rfl (by rfl) rfl rfl rfl rfl ((CE.out _ HBr.out.drew).mono ?_) AllReadyH.nil
                · rintro e w20 ⟨rfl, hb20⟩
                  have hHeld := K20.out _ hb20
                  refine ⟨_, rfl, hHeld, ?_⟩
                  have HB20 := hid hb20
                  clear hb20
                  simp only [Act.put, List.setIfInBounds_toArray, List.set_cons_zero, List.set_cons_succ]
                  refine take_at (i := 6) 133 (v := .bool false) rfl (by kernel_rfl) (by kernel_rfl) (by kernel_rfl) rfl (fun _ _ _ h => h) (by rfl) (fun w hSw => ?_) hHeld ?_
                  · (try dsimp only at hSw); go_simp
                  simp only [Act.put, List.setIfInBounds_toArray, List.set_cons_zero, List.set_cons_succ]
                  refine take_at (i := 7) 134 (v := .bool false) rfl (by kernel_rfl) (by kernel_rfl) (by kernel_rfl) rfl (fun _ _ _ h => h) (by rfl) (fun w hSw => ?_) hHeld ?_
                  · (try dsimp only at hSw); go_simp
                  simp only [Act.put, List.setIfInBounds_toArray, List.set_cons_zero, List.set_cons_succ]
                  refine take_at (i := 8) 135 (v := .slice g5 n5 d5) rfl (by kernel_rfl) (by kernel_rfl) (by kernel_rfl) rfl (fun _ _ _ h => h) (by rfl) (fun w hSw => ?_) hHeld ?_
                  · (try dsimp only at hSw); go_simp
                  simp only [Act.put, List.setIfInBounds_toArray, List.set_cons_zero, List.set_cons_succ]
                  refine take_at (i := 9) 136 (v := .slice (some ⟨gl, 0, none⟩) T lc) rfl (by kernel_rfl) (by kernel_rfl) (by kernel_rfl) rfl (fun _ _ _ h => h) (by rfl) (fun w hSw => ?_) hHeld ?_
                  · (try dsimp only at hSw); go_simp
                  simp only [Act.put, List.setIfInBounds_toArray, List.set_cons_zero, List.set_cons_succ]
                  refine take_at (i := 10) 137 (v := .int .i64 i) rfl (by kernel_rfl) (by kernel_rfl) (by kernel_rfl) rfl (fun _ _ _ h => h) (by rfl) (fun w hSw => ?_) hHeld ?_
                  · (try dsimp only at hSw); go_simp
                  simp only [Act.put, List.setIfInBounds_toArray, List.set_cons_zero, List.set_cons_succ]
                  refine take_at (i := 11) 138 (v := .pointer (some ⟨gl, i * 3, none⟩)) rfl (by kernel_rfl) (by kernel_rfl) (by kernel_rfl) rfl (fun _ _ _ h => h) (by rfl) (fun w hSw => ?_) hHeld ?_
                  · (try dsimp only at hSw); go_simp
                  simp only [Act.put, List.setIfInBounds_toArray, List.set_cons_zero, List.set_cons_succ]
                  refine take_at (i := 12) 139 (v := .agg #[.int .i64 dp, .int .i64 dx, .int .i64 dy]) rfl (by kernel_rfl) (by kernel_rfl) (by kernel_rfl) rfl (fun _ _ _ h => h) (by rfl) (fun w hSw => ?_) hHeld ?_
                  · (try dsimp only at hSw); go_simp
                  simp only [Act.put, List.setIfInBounds_toArray, List.set_cons_zero, List.set_cons_succ]
                  refine wpAnyH_ready (rs := [13]) (by kernel_rfl) (by simp) ?_
                  refine node_f29 140 135 139 _ _ rfl (by rfl) rfl rfl rfl rfl ((CN.out _ HB20.out).mono ?_) AllReadyH.nil
                  · rintro e w21 ⟨rfl, hb21⟩
                    have hHeld := K20.out _ hb21
                    refine ⟨_, rfl, hHeld, ?_⟩
                    have HB21 := hid hb21
                    clear hb21
                    simp only [Act.put, List.setIfInBounds_toArray, List.set_cons_zero, List.set_cons_succ]
                    refine take_at (i := 14) 141 (v := .bool false) rfl (by kernel_rfl) (by kernel_rfl) (by kernel_rfl) rfl (fun _ _ _ h => h) (by rfl) (fun w hSw => ?_) hHeld ?_
                    · (try dsimp only at hSw); go_simp
                    simp only [Act.put, List.setIfInBounds_toArray, List.set_cons_zero, List.set_cons_succ]
                    refine take_at (i := 15) 142 (v := .bool false) rfl (by kernel_rfl) (by kernel_rfl) (by kernel_rfl) rfl (fun _ _ _ h => h) (by rfl) (fun w hSw => ?_) hHeld ?_
                    · (try dsimp only at hSw); go_simp
                    simp only [Act.put, List.setIfInBounds_toArray, List.set_cons_zero, List.set_cons_succ]
                    refine take_at (i := 16) 143 (v := .bool false) rfl (by kernel_rfl) (by kernel_rfl) (by kernel_rfl) rfl (fun _ _ _ h => h) (by rfl) (fun w hSw => ?_) hHeld ?_
                    · (try dsimp only at hSw); go_simp
                    simp only [Act.put, List.setIfInBounds_toArray, List.set_cons_zero, List.set_cons_succ]
                    refine take_at (i := 17) 144 (v := .int .i64 i) rfl (by kernel_rfl) (by kernel_rfl) (by kernel_rfl) rfl (fun _ _ _ h => h) (by rfl) (fun w hSw => ?_) hHeld ?_
                    · (try dsimp only at hSw); go_simp
                    simp only [Act.put, List.setIfInBounds_toArray, List.set_cons_zero, List.set_cons_succ]
                    refine take_at (i := 18) 145 (v := .slice (some ⟨gm, 0, none⟩) h mc) rfl (by kernel_rfl) (by kernel_rfl) (by kernel_rfl) rfl (fun _ _ _ h => h) (by rfl) (fun w hSw => ?_) hHeld ?_
                    · (try dsimp only at hSw); go_simp
                    simp only [Act.put, List.setIfInBounds_toArray, List.set_cons_zero, List.set_cons_succ]
                    refine take_at (i := 19) 146 (v := .int .i64 h) rfl (by kernel_rfl) (by kernel_rfl) (by kernel_rfl) rfl (fun _ _ _ h => h) (by rfl) (fun w hSw => ?_) hHeld ?_
                    · (try dsimp only at hSw); go_simp
                    simp only [Act.put, List.setIfInBounds_toArray, List.set_cons_zero, List.set_cons_succ]
                    refine take_at (i := 20) 147 (v := .bool true) rfl (by kernel_rfl) (by kernel_rfl) (by kernel_rfl) rfl (fun _ _ _ h => h) (by rfl) (fun w hSw => ?_) hHeld ?_
                    · (try dsimp only at hSw); go_simp
                    simp only [Act.put, List.setIfInBounds_toArray, List.set_cons_zero, List.set_cons_succ]
                    refine take_at (i := 21) 148 (v := .bool true) rfl (by kernel_rfl) (by kernel_rfl) (by kernel_rfl) rfl (fun _ _ _ h => h) (by rfl) (fun w hSw => ?_) hHeld ?_
                    · (try dsimp only at hSw); go_simp
                    simp only [Act.put, List.setIfInBounds_toArray, List.set_cons_zero, List.set_cons_succ]
                    refine take_at (i := 22) 149 (v := .slice (some ⟨gm, 0, none⟩) h mc) rfl (by kernel_rfl) (by kernel_rfl) (by kernel_rfl) rfl (fun _ _ _ h => h) (by rfl) (fun w hSw => ?_) hHeld ?_
                    · (try dsimp only at hSw); go_simp
                    simp only [Act.put, List.setIfInBounds_toArray, List.set_cons_zero, List.set_cons_succ]
                    refine take_at (i := 23) 150 (v := .int .i64 i) rfl (by kernel_rfl) (by kernel_rfl) (by kernel_rfl) rfl (fun _ _ _ h => h) (by rfl) (fun w hSw => ?_) hHeld ?_
                    · (try dsimp only at hSw); go_simp
                    simp only [Act.put, List.setIfInBounds_toArray, List.set_cons_zero, List.set_cons_succ]
                    refine take_at (i := 24) 151 (v := .pointer (some ⟨gm, i * 3, none⟩)) rfl (by kernel_rfl) (by kernel_rfl) (by kernel_rfl) rfl (fun _ _ _ h => h) (by rfl) (fun w hSw => ?_) hHeld ?_
                    · (try dsimp only at hSw); go_simp
                    simp only [Act.put, List.setIfInBounds_toArray, List.set_cons_zero, List.set_cons_succ]
                    refine take_at (i := 25) 152 (v := .agg #[.int .i64 dp, .int .i64 dx, .int .i64 dy]) rfl (by kernel_rfl) (by kernel_rfl) (by kernel_rfl) rfl (fun _ _ _ h => h) (by rfl) (fun w hSw => ?_) hHeld ?_
                    · (try dsimp only at hSw); go_simp
                    simp only [Act.put, List.setIfInBounds_toArray, List.set_cons_zero, List.set_cons_succ]
                    refine take_at (i := 26) 153 (v := .slice (some ⟨gl, 0, none⟩) T lc) rfl (by kernel_rfl) (by kernel_rfl) (by kernel_rfl) rfl (fun _ _ _ h => h) (by rfl) (fun w hSw => ?_) hHeld ?_
                    · (try dsimp only at hSw); go_simp
                    simp only [Act.put, List.setIfInBounds_toArray, List.set_cons_zero, List.set_cons_succ]
                    refine take_at (i := 27) 154 (v := .int .i64 i) rfl (by kernel_rfl) (by kernel_rfl) (by kernel_rfl) rfl (fun _ _ _ h => h) (by rfl) (fun w hSw => ?_) hHeld ?_
                    · (try dsimp only at hSw); go_simp
                    simp only [Act.put, List.setIfInBounds_toArray, List.set_cons_zero, List.set_cons_succ]
                    refine take_at (i := 28) 155 (v := .pointer (some ⟨gl, i * 3, none⟩)) rfl (by kernel_rfl) (by kernel_rfl) (by kernel_rfl) rfl (fun _ _ _ h => h) (by rfl) (fun w hSw => ?_) hHeld ?_
                    · (try dsimp only at hSw); go_simp
                    simp only [Act.put, List.setIfInBounds_toArray, List.set_cons_zero, List.set_cons_succ]
                    refine take_at (i := 29) 156 (v := .agg #[.int .i64 dp, .int .i64 dx, .int .i64 dy]) rfl (by kernel_rfl) (by kernel_rfl) (by kernel_rfl) rfl (fun _ _ _ h => h) (by rfl) (fun w hSw => ?_) hHeld ?_
                    · (try dsimp only at hSw); go_simp
                    simp only [Act.put, List.setIfInBounds_toArray, List.set_cons_zero, List.set_cons_succ]
                    refine take_at (i := 30) 157 (v := .bool false) rfl (by kernel_rfl) (by kernel_rfl) (by kernel_rfl) rfl (fun _ _ _ h => h) (by rfl) (fun w hSw => ?_) hHeld ?_
                    · (try dsimp only at hSw); go_simp
                    simp only [Act.put, List.setIfInBounds_toArray, List.set_cons_zero, List.set_cons_succ]
                    refine take_at (i := 31) 158 (v := .bool false) rfl (by kernel_rfl) (by kernel_rfl) (by kernel_rfl) rfl (fun _ _ _ h => h) (by rfl) (fun w hSw => ?_) hHeld ?_
                    · (try dsimp only at hSw); go_simp
                    simp only [Act.put, List.setIfInBounds_toArray, List.set_cons_zero, List.set_cons_succ]
                    refine take_at (i := 32) 159 (v := .bool false) rfl (by kernel_rfl) (by kernel_rfl) (by kernel_rfl) rfl (fun _ _ _ h => h) (by rfl) (fun w hSw => ?_) hHeld ?_
                    · (try dsimp only at hSw); go_simp
                    simp only [Act.put, List.setIfInBounds_toArray, List.set_cons_zero, List.set_cons_succ]
                    refine wpAnyH_done (by kernel_rfl) ?_ _
                    clear hHeld
                    go_wp2_with fail
                    go_roundw
                    case rel => exact ⟨i + 1, by go_num, by omega, HB21⟩
                    case measure => simp [intOf]; omega
              · clear HSM2
                have K20 : Hid (∀ w', Below w14.heap.size w14 w' → w'.cell? ⟨X, 0, none⟩ = some (.slice a1 q.safe.length c1) ∧ w'.cell? ⟨X, 1, none⟩ = some (.slice a2 q.moves.length c2) ∧ w'.cell? ⟨X, 2, none⟩ = some (.slice a3 q.jolts.length c3) ∧ w'.cell? ⟨gl, i * 3, none⟩ = some (.int .i64 dp) ∧ w'.cell? ⟨gl, i * 3 + 1, none⟩ = some (.int .i64 dx) ∧ w'.cell? ⟨gl, i * 3 + 2, none⟩ = some (.int .i64 dy) ∧ Hid (Below w14.heap.size w14 w')) := fun w' hb => by
                  obtain ⟨f0, f1, f2⟩ := KP.out w' (UP.out w' hb)
                  obtain ⟨c0, c1, c2⟩ := HLC.out w' hb
                  exact ⟨f0, f1, f2, c0, c1, c2, hb⟩
                obtain ⟨y0, y1, y2, -⟩ := K20.out wr HBr.out
                go_upto_region 20 with fail
                clear y0 y1 y2
                refine wp_region_held_drew (S := fun w' => w'.cell? ⟨X, 0, none⟩ = some (.slice a1 q.safe.length c1) ∧ w'.cell? ⟨X, 1, none⟩ = some (.slice a2 q.moves.length c2) ∧ w'.cell? ⟨X, 2, none⟩ = some (.slice a3 q.jolts.length c3) ∧ w'.cell? ⟨gl, i * 3, none⟩ = some (.int .i64 dp) ∧ w'.cell? ⟨gl, i * 3 + 1, none⟩ = some (.int .i64 dx) ∧ w'.cell? ⟨gl, i * 3 + 2, none⟩ = some (.int .i64 dy) ∧ Hid (Below w14.heap.size w14 w')) (by kernel_rfl) (K20.out _ HBr.out.drew) (fun hHeld => ?_)
                refine take_at (i := 0) 127 (v := .agg #[.slice a1 q.safe.length c1, .slice a2 q.moves.length c2, .slice a3 q.jolts.length c3]) rfl (by kernel_rfl) (by kernel_rfl) (by kernel_rfl) rfl (fun _ _ _ h => h) (by rfl) (fun w hSw => ?_) hHeld ?_
                · (try dsimp only at hSw); go_simp
                simp only [Act.put, List.setIfInBounds_toArray, List.set_cons_zero, List.set_cons_succ]
                refine take_at (i := 1) 128 (v := .slice (some ⟨gl, 0, none⟩) T lc) rfl (by kernel_rfl) (by kernel_rfl) (by kernel_rfl) rfl (fun _ _ _ h => h) (by rfl) (fun w hSw => ?_) hHeld ?_
                · (try dsimp only at hSw); go_simp
                simp only [Act.put, List.setIfInBounds_toArray, List.set_cons_zero, List.set_cons_succ]
                refine take_at (i := 2) 129 (v := .int .i64 i) rfl (by kernel_rfl) (by kernel_rfl) (by kernel_rfl) rfl (fun _ _ _ h => h) (by rfl) (fun w hSw => ?_) hHeld ?_
                · (try dsimp only at hSw); go_simp
                simp only [Act.put, List.setIfInBounds_toArray, List.set_cons_zero, List.set_cons_succ]
                refine take_at (i := 3) 130 (v := .pointer (some ⟨gl, i * 3, none⟩)) rfl (by kernel_rfl) (by kernel_rfl) (by kernel_rfl) rfl (fun _ _ _ h => h) (by rfl) (fun w hSw => ?_) hHeld ?_
                · (try dsimp only at hSw); go_simp
                simp only [Act.put, List.setIfInBounds_toArray, List.set_cons_zero, List.set_cons_succ]
                refine take_at (i := 4) 131 (v := .agg #[.int .i64 dp, .int .i64 dx, .int .i64 dy]) rfl (by kernel_rfl) (by kernel_rfl) (by kernel_rfl) rfl (fun _ _ _ h => h) (by rfl) (fun w hSw => ?_) hHeld ?_
                · (try dsimp only at hSw); go_simp
                simp only [Act.put, List.setIfInBounds_toArray, List.set_cons_zero, List.set_cons_succ]
                refine wpAnyH_ready (rs := [5]) (by kernel_rfl) (by simp) ?_
                refine node_f18 132 127 131 _ _ rfl (by rfl) rfl rfl rfl rfl ((CE.out _ HBr.out.drew).mono ?_) AllReadyH.nil
                · rintro e w20 ⟨rfl, hb20⟩
                  have hHeld := K20.out _ hb20
                  refine ⟨_, rfl, hHeld, ?_⟩
                  have HB20 := hid hb20
                  clear hb20
                  simp only [Act.put, List.setIfInBounds_toArray, List.set_cons_zero, List.set_cons_succ]
                  refine take_at (i := 6) 133 (v := .bool false) rfl (by kernel_rfl) (by kernel_rfl) (by kernel_rfl) rfl (fun _ _ _ h => h) (by rfl) (fun w hSw => ?_) hHeld ?_
                  · (try dsimp only at hSw); go_simp
                  simp only [Act.put, List.setIfInBounds_toArray, List.set_cons_zero, List.set_cons_succ]
                  refine take_at (i := 7) 134 (v := .bool false) rfl (by kernel_rfl) (by kernel_rfl) (by kernel_rfl) rfl (fun _ _ _ h => h) (by rfl) (fun w hSw => ?_) hHeld ?_
                  · (try dsimp only at hSw); go_simp
                  simp only [Act.put, List.setIfInBounds_toArray, List.set_cons_zero, List.set_cons_succ]
                  refine take_at (i := 8) 135 (v := .slice g5 n5 d5) rfl (by kernel_rfl) (by kernel_rfl) (by kernel_rfl) rfl (fun _ _ _ h => h) (by rfl) (fun w hSw => ?_) hHeld ?_
                  · (try dsimp only at hSw); go_simp
                  simp only [Act.put, List.setIfInBounds_toArray, List.set_cons_zero, List.set_cons_succ]
                  refine take_at (i := 9) 136 (v := .slice (some ⟨gl, 0, none⟩) T lc) rfl (by kernel_rfl) (by kernel_rfl) (by kernel_rfl) rfl (fun _ _ _ h => h) (by rfl) (fun w hSw => ?_) hHeld ?_
                  · (try dsimp only at hSw); go_simp
                  simp only [Act.put, List.setIfInBounds_toArray, List.set_cons_zero, List.set_cons_succ]
                  refine take_at (i := 10) 137 (v := .int .i64 i) rfl (by kernel_rfl) (by kernel_rfl) (by kernel_rfl) rfl (fun _ _ _ h => h) (by rfl) (fun w hSw => ?_) hHeld ?_
                  · (try dsimp only at hSw); go_simp
                  simp only [Act.put, List.setIfInBounds_toArray, List.set_cons_zero, List.set_cons_succ]
                  refine take_at (i := 11) 138 (v := .pointer (some ⟨gl, i * 3, none⟩)) rfl (by kernel_rfl) (by kernel_rfl) (by kernel_rfl) rfl (fun _ _ _ h => h) (by rfl) (fun w hSw => ?_) hHeld ?_
                  · (try dsimp only at hSw); go_simp
                  simp only [Act.put, List.setIfInBounds_toArray, List.set_cons_zero, List.set_cons_succ]
                  refine take_at (i := 12) 139 (v := .agg #[.int .i64 dp, .int .i64 dx, .int .i64 dy]) rfl (by kernel_rfl) (by kernel_rfl) (by kernel_rfl) rfl (fun _ _ _ h => h) (by rfl) (fun w hSw => ?_) hHeld ?_
                  · (try dsimp only at hSw); go_simp
                  simp only [Act.put, List.setIfInBounds_toArray, List.set_cons_zero, List.set_cons_succ]
                  refine wpAnyH_ready (rs := [13]) (by kernel_rfl) (by simp) ?_
                  refine node_f29 140 135 139 _ _ rfl (by rfl) rfl rfl rfl rfl ((CN.out _ HB20.out).mono ?_) AllReadyH.nil
                  · rintro e w21 ⟨rfl, hb21⟩
                    have hHeld := K20.out _ hb21
                    refine ⟨_, rfl, hHeld, ?_⟩
                    have HB21 := hid hb21
                    clear hb21
                    simp only [Act.put, List.setIfInBounds_toArray, List.set_cons_zero, List.set_cons_succ]
                    refine take_at (i := 14) 141 (v := .bool false) rfl (by kernel_rfl) (by kernel_rfl) (by kernel_rfl) rfl (fun _ _ _ h => h) (by rfl) (fun w hSw => ?_) hHeld ?_
                    · (try dsimp only at hSw); go_simp
                    simp only [Act.put, List.setIfInBounds_toArray, List.set_cons_zero, List.set_cons_succ]
                    refine take_at (i := 15) 142 (v := .bool false) rfl (by kernel_rfl) (by kernel_rfl) (by kernel_rfl) rfl (fun _ _ _ h => h) (by rfl) (fun w hSw => ?_) hHeld ?_
                    · (try dsimp only at hSw); go_simp
                    simp only [Act.put, List.setIfInBounds_toArray, List.set_cons_zero, List.set_cons_succ]
                    refine take_at (i := 16) 143 (v := .bool false) rfl (by kernel_rfl) (by kernel_rfl) (by kernel_rfl) rfl (fun _ _ _ h => h) (by rfl) (fun w hSw => ?_) hHeld ?_
                    · (try dsimp only at hSw); go_simp
                    simp only [Act.put, List.setIfInBounds_toArray, List.set_cons_zero, List.set_cons_succ]
                    refine take_at (i := 17) 144 (v := .int .i64 i) rfl (by kernel_rfl) (by kernel_rfl) (by kernel_rfl) rfl (fun _ _ _ h => h) (by rfl) (fun w hSw => ?_) hHeld ?_
                    · (try dsimp only at hSw); go_simp
                    simp only [Act.put, List.setIfInBounds_toArray, List.set_cons_zero, List.set_cons_succ]
                    refine take_at (i := 18) 145 (v := .slice ma h mc) rfl (by kernel_rfl) (by kernel_rfl) (by kernel_rfl) rfl (fun _ _ _ h => h) (by rfl) (fun w hSw => ?_) hHeld ?_
                    · (try dsimp only at hSw); go_simp
                    simp only [Act.put, List.setIfInBounds_toArray, List.set_cons_zero, List.set_cons_succ]
                    refine take_at (i := 19) 146 (v := .int .i64 h) rfl (by kernel_rfl) (by kernel_rfl) (by kernel_rfl) rfl (fun _ _ _ h => h) (by rfl) (fun w hSw => ?_) hHeld ?_
                    · (try dsimp only at hSw); go_simp
                    simp only [Act.put, List.setIfInBounds_toArray, List.set_cons_zero, List.set_cons_succ]
                    refine take_at (i := 20) 147 (v := .bool false) rfl (by kernel_rfl) (by kernel_rfl) (by kernel_rfl) rfl (fun _ _ _ h => h) (by rfl) (fun w hSw => ?_) hHeld ?_
                    · (try dsimp only at hSw); go_simp
                    simp only [Act.put, List.setIfInBounds_toArray, List.set_cons_zero, List.set_cons_succ]
                    refine take_at (i := 21) 148 (v := .bool false) rfl (by kernel_rfl) (by kernel_rfl) (by kernel_rfl) rfl (fun _ _ _ h => h) (by rfl) (fun w hSw => ?_) hHeld ?_
                    · (try dsimp only at hSw); go_simp
                    simp only [Act.put, List.setIfInBounds_toArray, List.set_cons_zero, List.set_cons_succ]
                    refine skip_at (i := 22) 149 rfl (by kernel_rfl) (by kernel_rfl) (by kernel_rfl) rfl (fun _ _ _ h => h) (by rfl) hHeld ?_
                    simp only [Act.put, List.setIfInBounds_toArray, List.set_cons_zero, List.set_cons_succ]
                    refine skip_at (i := 23) 150 rfl (by kernel_rfl) (by kernel_rfl) (by kernel_rfl) rfl (fun _ _ _ h => h) (by rfl) hHeld ?_
                    simp only [Act.put, List.setIfInBounds_toArray, List.set_cons_zero, List.set_cons_succ]
                    refine skip_at (i := 24) 151 rfl (by kernel_rfl) (by kernel_rfl) (by kernel_rfl) rfl (fun _ _ _ h => h) (by rfl) hHeld ?_
                    simp only [Act.put, List.setIfInBounds_toArray, List.set_cons_zero, List.set_cons_succ]
                    refine skip_at (i := 25) 152 rfl (by kernel_rfl) (by kernel_rfl) (by kernel_rfl) rfl (fun _ _ _ h => h) (by rfl) hHeld ?_
                    simp only [Act.put, List.setIfInBounds_toArray, List.set_cons_zero, List.set_cons_succ]
                    refine skip_at (i := 26) 153 rfl (by kernel_rfl) (by kernel_rfl) (by kernel_rfl) rfl (fun _ _ _ h => h) (by rfl) hHeld ?_
                    simp only [Act.put, List.setIfInBounds_toArray, List.set_cons_zero, List.set_cons_succ]
                    refine skip_at (i := 27) 154 rfl (by kernel_rfl) (by kernel_rfl) (by kernel_rfl) rfl (fun _ _ _ h => h) (by rfl) hHeld ?_
                    simp only [Act.put, List.setIfInBounds_toArray, List.set_cons_zero, List.set_cons_succ]
                    refine skip_at (i := 28) 155 rfl (by kernel_rfl) (by kernel_rfl) (by kernel_rfl) rfl (fun _ _ _ h => h) (by rfl) hHeld ?_
                    simp only [Act.put, List.setIfInBounds_toArray, List.set_cons_zero, List.set_cons_succ]
                    refine skip_at (i := 29) 156 rfl (by kernel_rfl) (by kernel_rfl) (by kernel_rfl) rfl (fun _ _ _ h => h) (by rfl) hHeld ?_
                    simp only [Act.put, List.setIfInBounds_toArray, List.set_cons_zero, List.set_cons_succ]
                    refine skip_at (i := 30) 157 rfl (by kernel_rfl) (by kernel_rfl) (by kernel_rfl) rfl (fun _ _ _ h => h) (by rfl) hHeld ?_
                    simp only [Act.put, List.setIfInBounds_toArray, List.set_cons_zero, List.set_cons_succ]
                    refine take_at (i := 31) 158 (v := .bool false) rfl (by kernel_rfl) (by kernel_rfl) (by kernel_rfl) rfl (fun _ _ _ h => h) (by rfl) (fun w hSw => ?_) hHeld ?_
                    · (try dsimp only at hSw); go_simp
                    simp only [Act.put, List.setIfInBounds_toArray, List.set_cons_zero, List.set_cons_succ]
                    refine take_at (i := 32) 159 (v := .bool false) rfl (by kernel_rfl) (by kernel_rfl) (by kernel_rfl) rfl (fun _ _ _ h => h) (by rfl) (fun w hSw => ?_) hHeld ?_
                    · (try dsimp only at hSw); go_simp
                    simp only [Act.put, List.setIfInBounds_toArray, List.set_cons_zero, List.set_cons_succ]
                    refine wpAnyH_done (by kernel_rfl) ?_ _
                    clear hHeld
                    go_wp2_with fail
                    go_roundw
                    case rel => exact ⟨i + 1, by go_num, by omega, HB21⟩
                    case measure => simp [intOf]; omega
            · obtain rfl : i = T := by omega
              go_wp2_with fail
              go_ret
              exact ⟨rfl, FIN.out _ (HE14.out.trans (HBr.out.mono HE14.out.size))⟩
end Go.Proofs.YtjonbhimbhidpaaDoor
