/-
  The law TemperLosses of chapter 6: its contract.
-/
import Derived.Test.YtjonbhimbhidpaaDoorBaseX
namespace Go.Proofs.YtjonbhimbhidpaaDoor
open Go.RowKit
set_option maxHeartbeats 8000000 in
set_option maxRecDepth 100000 in
theorem TemperLosses_ok (ph ro wi : Int) (ca : Option Addr) (cn cc : Nat) (ma : Option Addr) (mn mc : Nat) (ja : Option Addr) (jn jc : Nat) (w : World) (hk : ArgKiln w ph ro wi ca cn cc ma mn mc ja jn jc) :
    Calls Tryd.prog 5 #[.agg #[.int .u8 ph, .int .u8 ro, .int .u8 wi, .slice ca cn cc, .slice ma mn mc, .slice ja jn jc]] w fun e w' => e = .returned (.bool true) ∧ Below w.heap.size w w' := by
  have hb3 : Below w.heap.size w (w.alloc (.cells #[.int .u8 ph, .int .u8 ro, .int .u8 wi, .slice ca cn cc, .slice ma mn mc, .slice ja jn jc] 45)) := (Below.refl _ _).alloc (Nat.le_refl _) _
  have HB3 := hid hb3
  have HK3 := hid (argKiln_below hk hb3)
  clear hb3 hk
  go_enter Tryd.func5, Tryd.ntmps5
  go_upto_region 2 with (first | (go_at_call 24; refine (made_ov (w0 := w) HB3.out HK3.out).mono ?_; rintro e w4 ⟨q, a1, c1, a2, c2, a3, c3, rfl, hok, hva, hml, how, hb4⟩; have HOK := hid hok; have HVA := hid hva; have HML := hid hml; have HOW := hid how; have HB34 := hid hb4; clear hok hva hml how hb4) | fail)
  obtain ⟨X, hX⟩ : ∃ X, X = w4.heap.size := ⟨_, rfl⟩
  obtain ⟨W, hW⟩ : ∃ W, W = (w4.alloc (.cells #[.slice a1 q.safe.length c1, .slice a2 q.moves.length c2, .slice a3 q.jolts.length c3] 26)) := ⟨_, rfl⟩
  rw [← hX, ← hW]
  have h4W : Below w4.heap.size w4 W := by rw [hW]; exact (Below.refl _ _).alloc (Nat.le_refl _) _
  have hxw : W.heap[X]? = some (.cells #[.slice a1 q.safe.length c1, .slice a2 q.moves.length c2, .slice a3 q.jolts.length c3] 26) := by rw [hW, hX]; exact heap_alloc_new _ _
  have KP : Hid (∀ w', Below W.heap.size W w' → w'.cell? ⟨X, 0, none⟩ = some (.slice a1 q.safe.length c1) ∧ w'.cell? ⟨X, 1, none⟩ = some (.slice a2 q.moves.length c2) ∧ w'.cell? ⟨X, 2, none⟩ = some (.slice a3 q.jolts.length c3)) := by
    intro w' hb
    exact cells3_of ((hb.block X (heap_lt hxw)).trans hxw)
  have HBW : Hid (Below w.heap.size w W) := HB3.out.trans ((HB34.out.trans (h4W.mono HB34.out.size)).mono HB3.out.size)
  have how := HOW.out.below h4W
  have hiv := ownOv_isOv how HOK.out
  have HXW := hid hxw
  have HO : Hid (∀ w', Below W.heap.size W w' → IsOv w' (.slice a1 q.safe.length c1) (.slice a2 q.moves.length c2) (.slice a3 q.jolts.length c3) q) := fun w' hb => isOv_below hiv hb
  have FIN : Hid (∀ w', Below W.heap.size W w' → Below w.heap.size w w') := fun w' hb => HBW.out.trans (hb.mono HBW.out.size)
  clear hX hW h4W hxw how hiv
  obtain ⟨x0, x1, x2⟩ := KP.out W (Below.refl _ _)
  go_upto_region 3 with (first | (go_at_call 25; with_reducible refine (kernel_set _ _ _ q (HO.out _ (by repeat (first | exact Below.refl _ _ | (apply Hid.out; assumption) | refine Below.drew ?_ | refine below_drewN_r ?_ _))) HOK.out).mono ?_; rintro e w5 ⟨g5, n5, d5, rfl, hg5, hb5⟩; have HG5 : Hid (∀ w', Below w5.heap.size w5 w' → IsGrid w' (.slice g5 n5 d5) (Ov.gridOf q (Ov.KK q))) := hid (fun w' hb => isGrid_below hg5 hb); have HB5 : Hid (Below W.heap.size W w5) := hid (below_step (by repeat (first | exact Below.refl _ _ | (apply Hid.out; assumption) | refine Below.drew ?_ | refine below_drewN_r ?_ _)) hb5); clear hb5 hg5; clear x0 x1 x2; obtain ⟨x0, x1, x2⟩ := KP.out _ HB5.out; skip) | fail)
  replace KP : Hid (∀ w', Below w5.heap.size w5 w' → w'.cell? ⟨X, 0, none⟩ = some (.slice a1 q.safe.length c1) ∧ w'.cell? ⟨X, 1, none⟩ = some (.slice a2 q.moves.length c2) ∧ w'.cell? ⟨X, 2, none⟩ = some (.slice a3 q.jolts.length c3)) := fun w' hb => KP.out w' (HB5.out.trans (hb.mono HB5.out.size))
  replace HO : Hid (∀ w', Below w5.heap.size w5 w' → IsOv w' (.slice a1 q.safe.length c1) (.slice a2 q.moves.length c2) (.slice a3 q.jolts.length c3) q) := fun w' hb => HO.out w' (HB5.out.trans (hb.mono HB5.out.size))
  replace FIN : Hid (∀ w', Below w5.heap.size w5 w' → Below w.heap.size w w') := fun w' hb => FIN.out w' (HB5.out.trans (hb.mono HB5.out.size))
  have HC5 : Hid (Below w5.heap.size w5 w5) := Below.refl _ _
  have HF5 : Hid (formB q.P q.R q.C (q.gridOf q.KK) = true) := form_gridOf q q.KK
  go_upto_region 5 with (first
    | (go_at_call 27; with_reducible refine (form_call (HO.out _ (by repeat (first | exact Below.refl _ _ | (apply Hid.out; assumption) | refine Below.drew ?_ | refine below_drewN_r ?_ _))) HOK.out (HG5.out _ (by repeat (first | exact Below.refl _ _ | (apply Hid.out; assumption) | refine Below.drew ?_ | refine below_drewN_r ?_ _))) HF5.out).mono ?_; rintro e w6 ⟨rfl, hb6⟩; have HC6 : Hid (Below w5.heap.size w5 w6) := hid (below_step (by repeat (first | exact Below.refl _ _ | (apply Hid.out; assumption) | refine Below.drew ?_ | refine below_drewN_r ?_ _)) hb6); clear hb6; clear x0 x1 x2; obtain ⟨x0, x1, x2⟩ := KP.out _ HC6.out; skip)
    | (go_at_call 19; with_reducible refine (lives_any _).mono ?_; rintro e w7 ⟨rfl, hb7⟩; have HC7 : Hid (Below w5.heap.size w5 w7) := hid (below_step (by repeat (first | exact Below.refl _ _ | (apply Hid.out; assumption) | refine Below.drew ?_ | refine below_drewN_r ?_ _)) hb7); clear hb7; clear x0 x1 x2; obtain ⟨x0, x1, x2⟩ := KP.out _ HC7.out; skip)
    | fail)
  go_upto_region 6 with (first | (go_at_call 28; refine (rCells_any _ _ _ q _ (HO.out _ (by repeat (first | exact Below.refl _ _ | (apply Hid.out; assumption) | refine Below.drew ?_ | refine below_drewN_r ?_ _))) HOK.out).mono ?_; rintro e w8 ⟨vl, rfl, hs8, hb8⟩; obtain ⟨l1, l2, rfl⟩ := row_slice hs8; have HS8 := hid hs8; have HC8 : Hid (Below w5.heap.size w5 w8) := hid (below_step (by repeat (first | exact Below.refl _ _ | (apply Hid.out; assumption) | refine Below.drew ?_ | refine below_drewN_r ?_ _)) hb8); clear hb8 hs8) | fail)
  clear x0 x1 x2
  have G0 : Hid (∀ w', Below w8.heap.size w8 w' → IsGrid w' (.slice g5 n5 d5) (q.gridOf q.KK)) := fun w' hb => HG5.out w' (HC8.out.trans (hb.mono HC8.out.size))
  replace KP : Hid (∀ w', Below w8.heap.size w8 w' → w'.cell? ⟨X, 0, none⟩ = some (.slice a1 q.safe.length c1) ∧ w'.cell? ⟨X, 1, none⟩ = some (.slice a2 q.moves.length c2) ∧ w'.cell? ⟨X, 2, none⟩ = some (.slice a3 q.jolts.length c3)) := fun w' hb => KP.out w' (HC8.out.trans (hb.mono HC8.out.size))
  replace HO : Hid (∀ w', Below w8.heap.size w8 w' → IsOv w' (.slice a1 q.safe.length c1) (.slice a2 q.moves.length c2) (.slice a3 q.jolts.length c3) q) := fun w' hb => HO.out w' (HC8.out.trans (hb.mono HC8.out.size))
  replace FIN : Hid (∀ w', Below w8.heap.size w8 w' → Below w.heap.size w w') := fun w' hb => FIN.out w' (HC8.out.trans (hb.mono HC8.out.size))
  obtain ⟨BC, hBC⟩ : ∃ BC : Nat, OwnS w8 BC 28 (.slice l1 q.cells.length l2) q.cells := ⟨_, HS8.out⟩
  have HCS : Hid (∀ w', Below w8.heap.size w8 w' → OwnS w' BC 28 (.slice l1 q.cells.length l2) q.cells) := fun w' hb => ownS_below hBC hb
  have HEXC : Hid (∀ i, i < q.cells.length → q.ex (sAt q.cells i) = true) := cells_ex q
  have hn16 : q.cells.length ≤ 1024 := cells_small HOK.out
  clear hBC HS8
  obtain ⟨n, hn⟩ : ∃ n, n = q.cells.length := ⟨_, rfl⟩
  have HN := hid hn
  rw [← hn] at hn16 ⊢
  clear hn
  have HM : Hid (OwnI (w8.alloc (.cells #[] 3)) w8.heap.size (.slice (some ⟨w8.heap.size, 0, none⟩) 0 0) []) := ownI_made w8 _ (Nat.le_refl _)
  have HM0 : Hid (Below w8.heap.size w8 (w8.alloc (.cells #[] 3))) := (Below.refl _ _).alloc (Nat.le_refl _) _
  go_upto_block 0 with fail
  go_cut [7] (fun v7 wx => ∃ (a : Option Addr) (cc : Nat), v7 = .slice a n cc ∧ Hid (OwnI wx w8.heap.size (.slice a n cc) (q.cells.map q.valL)) ∧ Hid (Below w8.heap.size w8 wx))
  case first =>
    go_wp2_with fail
    go_loopw [7, 8] (fun v iv wr => ∃ (i : Nat) (a : Option Addr) (cc : Nat), v = .slice a i cc ∧ iv = .int .i64 i ∧ i ≤ n ∧ Hid (OwnI wr w8.heap.size (.slice a i cc) ((q.cells.take i).map q.valL)) ∧ Hid (Below w8.heap.size w8 wr)) (fun _ iv _ => n - (intOf iv).toNat)
    case atStart => exact ⟨0, _, 0, rfl, rfl, Nat.zero_le _, HM, HM0⟩
    case round =>
      obtain ⟨i, a, cc, rfl, rfl, hi, HOW, HBr⟩ := hrel
      by_cases hlt : i < n
      · have hlo : i < q.cells.length := by rw [← HN.out]; exact hlt
        obtain ⟨g, rfl, -⟩ := sp_at (HCS.out wr HBr.out) i hlo
        have hl6 : ((q.cells.take i).map q.valL).length < 100000000 := by rw [List.length_map, List.length_take]; omega
        have HL6 := hid hl6
        have HTK := hid (take_vals q.valL hlo)
        have hex := HEXC.out i hlo
        obtain ⟨s, hs⟩ : ∃ s, s = sAt q.cells i := ⟨_, rfl⟩
        obtain ⟨p, x, y⟩ := s
        rw [← hs] at hex HTK
        have HEX := hid hex
        have UP : Hid (∀ w', Below wr.heap.size wr w' → Below w8.heap.size w8 w') := fun w' hb => HBr.out.trans (hb.mono HBr.out.size)
        have KEEP : Hid (∀ w', Below wr.heap.size wr w' → w'.cell? ⟨X, 0, none⟩ = some (.slice a1 q.safe.length c1) ∧ w'.cell? ⟨X, 1, none⟩ = some (.slice a2 q.moves.length c2) ∧ w'.cell? ⟨X, 2, none⟩ = some (.slice a3 q.jolts.length c3) ∧ w'.cell? ⟨g, i * 3, none⟩ = some (.int .i64 p) ∧ w'.cell? ⟨g, i * 3 + 1, none⟩ = some (.int .i64 x) ∧ w'.cell? ⟨g, i * 3 + 2, none⟩ = some (.int .i64 y) ∧ Hid (Below wr.heap.size wr w')) := fun w' hb => by
          obtain ⟨e0, e1, e2⟩ := KP.out w' (UP.out w' hb)
          obtain ⟨f0, f1, f2⟩ := sp_all (HCS.out w' (UP.out w' hb)) hlo hs.symm
          exact ⟨e0, e1, e2, f0, f1, f2, hb⟩
        clear hs hex hlo hl6
        cases hl : q.LL (p, x, y) with
        | none =>
          have HV := hid (valL_none hl)
          have hkk := (LL_none q (p, x, y)).1 hl
          have hlv : lostV q (p, x, y) = .tuple #[.int .i64 0, .int .i64 5] := by unfold lostV; rw [hl, valid_ok HOK.out, HEX.out]; rfl
          have CK : Hid (∀ w', Below wr.heap.size wr w' → Calls Tryd.prog 29 #[.slice g5 n5 d5, .agg #[.int .i64 p, .int .i64 x, .int .i64 y]] w' fun e w'' => e = .returned (.bool true) ∧ Below wr.heap.size wr w'') := fun w' hb => (in_kk HOK.out (G0.out w' (UP.out w' hb)) (p, x, y) HEX.out).mono (by rw [hkk]; rintro e w'' ⟨rfl, h⟩; exact ⟨rfl, below_step hb h⟩)
          have LOST : Hid (∀ w', Below wr.heap.size wr w' → Calls Tryd.prog 16 #[.agg #[.slice a1 q.safe.length c1, .slice a2 q.moves.length c2, .slice a3 q.jolts.length c3], .agg #[.int .i64 p, .int .i64 x, .int .i64 y]] w' fun e w'' => e = .returned (.tuple #[.int .i64 0, .int .i64 5]) ∧ Below wr.heap.size wr w'') := fun w' hb => (lost_any _ _ _ q (p, x, y) w' (HO.out w' (UP.out w' hb)) (num_ok HOK.out)).mono (by rw [hlv]; rintro e w'' ⟨rfl, h⟩; exact ⟨rfl, below_step hb h⟩)
          clear hl hkk hlv
          obtain ⟨x0, x1, x2, x3, x4, x5, -⟩ := KEEP.out wr (Below.refl _ _)
          go_upto_region 9 with fail
          clear x0 x1 x2 x3 x4 x5
          refine wp_region_held_drew (S := fun w' => w'.cell? ⟨X, 0, none⟩ = some (.slice a1 q.safe.length c1) ∧ w'.cell? ⟨X, 1, none⟩ = some (.slice a2 q.moves.length c2) ∧ w'.cell? ⟨X, 2, none⟩ = some (.slice a3 q.jolts.length c3) ∧ w'.cell? ⟨g, i * 3, none⟩ = some (.int .i64 p) ∧ w'.cell? ⟨g, i * 3 + 1, none⟩ = some (.int .i64 x) ∧ w'.cell? ⟨g, i * 3 + 2, none⟩ = some (.int .i64 y) ∧ Hid (Below wr.heap.size wr w')) (by kernel_rfl) (KEEP.out _ ((Below.refl _ _).drew)) (fun hHeld => ?_)
          refine take_at (i := 0) 48 (v := .agg #[.slice a1 q.safe.length c1, .slice a2 q.moves.length c2, .slice a3 q.jolts.length c3]) rfl (by kernel_rfl) (by kernel_rfl) (by kernel_rfl) rfl (fun _ _ _ h => h) (by rfl) (fun w hSw => ?_) hHeld ?_
          · (try dsimp only at hSw); go_simp
          simp only [Act.put, List.setIfInBounds_toArray, List.set_cons_zero, List.set_cons_succ]
          refine take_at (i := 1) 49 (v := .slice (some ⟨g, 0, none⟩) n l2) rfl (by kernel_rfl) (by kernel_rfl) (by kernel_rfl) rfl (fun _ _ _ h => h) (by rfl) (fun w hSw => ?_) hHeld ?_
          · (try dsimp only at hSw); go_simp
          simp only [Act.put, List.setIfInBounds_toArray, List.set_cons_zero, List.set_cons_succ]
          refine take_at (i := 2) 50 (v := .int .i64 i) rfl (by kernel_rfl) (by kernel_rfl) (by kernel_rfl) rfl (fun _ _ _ h => h) (by rfl) (fun w hSw => ?_) hHeld ?_
          · (try dsimp only at hSw); go_simp
          simp only [Act.put, List.setIfInBounds_toArray, List.set_cons_zero, List.set_cons_succ]
          refine take_at (i := 3) 51 (v := .pointer (some ⟨g, i * 3, none⟩)) rfl (by kernel_rfl) (by kernel_rfl) (by kernel_rfl) rfl (fun _ _ _ h => h) (by rfl) (fun w hSw => ?_) hHeld ?_
          · (try dsimp only at hSw); go_simp
          simp only [Act.put, List.setIfInBounds_toArray, List.set_cons_zero, List.set_cons_succ]
          refine take_at (i := 4) 52 (v := .agg #[.int .i64 p, .int .i64 x, .int .i64 y]) rfl (by kernel_rfl) (by kernel_rfl) (by kernel_rfl) rfl (fun _ _ _ h => h) (by rfl) (fun w hSw => ?_) hHeld ?_
          · (try dsimp only at hSw); go_simp
          simp only [Act.put, List.setIfInBounds_toArray, List.set_cons_zero, List.set_cons_succ]
          refine wpAnyH_ready (rs := [5]) (by kernel_rfl) (by simp) ?_
          refine node_f16 53 48 52 _ _ rfl (by rfl) rfl rfl rfl rfl ((LOST.out _ ((Below.refl _ _).drew)).mono ?_) AllReadyH.nil
          · rintro e w9 ⟨rfl, hb9⟩
            have hHeld := KEEP.out _ hb9
            refine ⟨_, rfl, hHeld, ?_⟩
            have HB9 := hid hb9
            clear hb9
            simp only [Act.put, List.setIfInBounds_toArray, List.set_cons_zero, List.set_cons_succ]
            refine take_at (i := 6) 47 (v := .tuple #[.int .i64 0, .int .i64 5]) rfl (by kernel_rfl) (by kernel_rfl) (by kernel_rfl) rfl (fun _ _ _ h => h) (by rfl) (fun w hSw => ?_) hHeld ?_
            · (try dsimp only at hSw); go_simp
            simp only [Act.put, List.setIfInBounds_toArray, List.set_cons_zero, List.set_cons_succ]
            refine take_at (i := 7) 54 (v := .int .i64 0) rfl (by kernel_rfl) (by kernel_rfl) (by kernel_rfl) rfl (fun _ _ _ h => h) (by rfl) (fun w hSw => ?_) hHeld ?_
            · (try dsimp only at hSw); go_simp
            simp only [Act.put, List.setIfInBounds_toArray, List.set_cons_zero, List.set_cons_succ]
            refine take_at (i := 8) 55 (v := .int .i64 5) rfl (by kernel_rfl) (by kernel_rfl) (by kernel_rfl) rfl (fun _ _ _ h => h) (by rfl) (fun w hSw => ?_) hHeld ?_
            · (try dsimp only at hSw); go_simp
            simp only [Act.put, List.setIfInBounds_toArray, List.set_cons_zero, List.set_cons_succ]
            refine take_at (i := 9) 9 (v := .int .i64 0) rfl (by kernel_rfl) (by kernel_rfl) (by kernel_rfl) rfl (fun _ _ _ h => h) (by rfl) (fun w hSw => ?_) hHeld ?_
            · (try dsimp only at hSw); go_simp
            simp only [Act.put, List.setIfInBounds_toArray, List.set_cons_zero, List.set_cons_succ]
            refine take_at (i := 10) 10 (v := .int .i64 5) rfl (by kernel_rfl) (by kernel_rfl) (by kernel_rfl) rfl (fun _ _ _ h => h) (by rfl) (fun w hSw => ?_) hHeld ?_
            · (try dsimp only at hSw); go_simp
            simp only [Act.put, List.setIfInBounds_toArray, List.set_cons_zero, List.set_cons_succ]
            refine wpAnyH_done (by kernel_rfl) ?_ _
            clear hHeld
            obtain ⟨y0, y1, y2, -⟩ := KEEP.out w9 HB9.out
            go_upto_region 10 with fail
            clear y0 y1 y2
            refine wp_region_held_drew (S := fun w' => w'.cell? ⟨X, 0, none⟩ = some (.slice a1 q.safe.length c1) ∧ w'.cell? ⟨X, 1, none⟩ = some (.slice a2 q.moves.length c2) ∧ w'.cell? ⟨X, 2, none⟩ = some (.slice a3 q.jolts.length c3) ∧ w'.cell? ⟨g, i * 3, none⟩ = some (.int .i64 p) ∧ w'.cell? ⟨g, i * 3 + 1, none⟩ = some (.int .i64 x) ∧ w'.cell? ⟨g, i * 3 + 2, none⟩ = some (.int .i64 y) ∧ Hid (Below wr.heap.size wr w')) (by kernel_rfl) (KEEP.out _ HB9.out.drew) (fun hHeld => ?_)
            refine take_at (i := 0) 56 (v := .int .i64 5) rfl (by kernel_rfl) (by kernel_rfl) (by kernel_rfl) rfl (fun _ _ _ h => h) (by rfl) (fun w hSw => ?_) hHeld ?_
            · (try dsimp only at hSw); go_simp
            simp only [Act.put, List.setIfInBounds_toArray, List.set_cons_zero, List.set_cons_succ]
            refine take_at (i := 1) 57 (v := .bool true) rfl (by kernel_rfl) (by kernel_rfl) (by kernel_rfl) rfl (fun _ _ _ h => h) (by rfl) (fun w hSw => ?_) hHeld ?_
            · (try dsimp only at hSw); go_simp
            simp only [Act.put, List.setIfInBounds_toArray, List.set_cons_zero, List.set_cons_succ]
            refine take_at (i := 2) 58 (v := .slice g5 n5 d5) rfl (by kernel_rfl) (by kernel_rfl) (by kernel_rfl) rfl (fun _ _ _ h => h) (by rfl) (fun w hSw => ?_) hHeld ?_
            · (try dsimp only at hSw); go_simp
            simp only [Act.put, List.setIfInBounds_toArray, List.set_cons_zero, List.set_cons_succ]
            refine take_at (i := 3) 59 (v := .slice (some ⟨g, 0, none⟩) n l2) rfl (by kernel_rfl) (by kernel_rfl) (by kernel_rfl) rfl (fun _ _ _ h => h) (by rfl) (fun w hSw => ?_) hHeld ?_
            · (try dsimp only at hSw); go_simp
            simp only [Act.put, List.setIfInBounds_toArray, List.set_cons_zero, List.set_cons_succ]
            refine take_at (i := 4) 60 (v := .int .i64 i) rfl (by kernel_rfl) (by kernel_rfl) (by kernel_rfl) rfl (fun _ _ _ h => h) (by rfl) (fun w hSw => ?_) hHeld ?_
            · (try dsimp only at hSw); go_simp
            simp only [Act.put, List.setIfInBounds_toArray, List.set_cons_zero, List.set_cons_succ]
            refine take_at (i := 5) 61 (v := .pointer (some ⟨g, i * 3, none⟩)) rfl (by kernel_rfl) (by kernel_rfl) (by kernel_rfl) rfl (fun _ _ _ h => h) (by rfl) (fun w hSw => ?_) hHeld ?_
            · (try dsimp only at hSw); go_simp
            simp only [Act.put, List.setIfInBounds_toArray, List.set_cons_zero, List.set_cons_succ]
            refine take_at (i := 6) 62 (v := .agg #[.int .i64 p, .int .i64 x, .int .i64 y]) rfl (by kernel_rfl) (by kernel_rfl) (by kernel_rfl) rfl (fun _ _ _ h => h) (by rfl) (fun w hSw => ?_) hHeld ?_
            · (try dsimp only at hSw); go_simp
            simp only [Act.put, List.setIfInBounds_toArray, List.set_cons_zero, List.set_cons_succ]
            refine wpAnyH_ready (rs := [7]) (by kernel_rfl) (by simp) ?_
            refine node_f29 63 58 62 _ _ rfl (by rfl) rfl rfl rfl rfl ((CK.out _ HB9.out.drew).mono ?_) AllReadyH.nil
            · rintro e w10 ⟨rfl, hb10⟩
              have hHeld := KEEP.out _ hb10
              refine ⟨_, rfl, hHeld, ?_⟩
              have HB10 := hid hb10
              clear hb10
              simp only [Act.put, List.setIfInBounds_toArray, List.set_cons_zero, List.set_cons_succ]
              refine take_at (i := 8) 64 (v := .bool false) rfl (by kernel_rfl) (by kernel_rfl) (by kernel_rfl) rfl (fun _ _ _ h => h) (by rfl) (fun w hSw => ?_) hHeld ?_
              · (try dsimp only at hSw); go_simp
              simp only [Act.put, List.setIfInBounds_toArray, List.set_cons_zero, List.set_cons_succ]
              refine take_at (i := 9) 65 (v := .bool false) rfl (by kernel_rfl) (by kernel_rfl) (by kernel_rfl) rfl (fun _ _ _ h => h) (by rfl) (fun w hSw => ?_) hHeld ?_
              · (try dsimp only at hSw); go_simp
              simp only [Act.put, List.setIfInBounds_toArray, List.set_cons_zero, List.set_cons_succ]
              refine take_at (i := 10) 66 (v := .int .i64 5) rfl (by kernel_rfl) (by kernel_rfl) (by kernel_rfl) rfl (fun _ _ _ h => h) (by rfl) (fun w hSw => ?_) hHeld ?_
              · (try dsimp only at hSw); go_simp
              simp only [Act.put, List.setIfInBounds_toArray, List.set_cons_zero, List.set_cons_succ]
              refine take_at (i := 11) 67 (v := .bool true) rfl (by kernel_rfl) (by kernel_rfl) (by kernel_rfl) rfl (fun _ _ _ h => h) (by rfl) (fun w hSw => ?_) hHeld ?_
              · (try dsimp only at hSw); go_simp
              simp only [Act.put, List.setIfInBounds_toArray, List.set_cons_zero, List.set_cons_succ]
              refine take_at (i := 12) 68 (v := .bool true) rfl (by kernel_rfl) (by kernel_rfl) (by kernel_rfl) rfl (fun _ _ _ h => h) (by rfl) (fun w hSw => ?_) hHeld ?_
              · (try dsimp only at hSw); go_simp
              simp only [Act.put, List.setIfInBounds_toArray, List.set_cons_zero, List.set_cons_succ]
              refine take_at (i := 13) 69 (v := .int .i64 5) rfl (by kernel_rfl) (by kernel_rfl) (by kernel_rfl) rfl (fun _ _ _ h => h) (by rfl) (fun w hSw => ?_) hHeld ?_
              · (try dsimp only at hSw); go_simp
              simp only [Act.put, List.setIfInBounds_toArray, List.set_cons_zero, List.set_cons_succ]
              refine take_at (i := 14) 70 (v := .bool false) rfl (by kernel_rfl) (by kernel_rfl) (by kernel_rfl) rfl (fun _ _ _ h => h) (by rfl) (fun w hSw => ?_) hHeld ?_
              · (try dsimp only at hSw); go_simp
              simp only [Act.put, List.setIfInBounds_toArray, List.set_cons_zero, List.set_cons_succ]
              refine take_at (i := 15) 71 (v := .bool false) rfl (by kernel_rfl) (by kernel_rfl) (by kernel_rfl) rfl (fun _ _ _ h => h) (by rfl) (fun w hSw => ?_) hHeld ?_
              · (try dsimp only at hSw); go_simp
              simp only [Act.put, List.setIfInBounds_toArray, List.set_cons_zero, List.set_cons_succ]
              refine take_at (i := 16) 72 (v := .bool false) rfl (by kernel_rfl) (by kernel_rfl) (by kernel_rfl) rfl (fun _ _ _ h => h) (by rfl) (fun w hSw => ?_) hHeld ?_
              · (try dsimp only at hSw); go_simp
              simp only [Act.put, List.setIfInBounds_toArray, List.set_cons_zero, List.set_cons_succ]
              refine take_at (i := 17) 73 (v := .bool false) rfl (by kernel_rfl) (by kernel_rfl) (by kernel_rfl) rfl (fun _ _ _ h => h) (by rfl) (fun w hSw => ?_) hHeld ?_
              · (try dsimp only at hSw); go_simp
              simp only [Act.put, List.setIfInBounds_toArray, List.set_cons_zero, List.set_cons_succ]
              refine take_at (i := 18) 74 (v := .int .i64 5) rfl (by kernel_rfl) (by kernel_rfl) (by kernel_rfl) rfl (fun _ _ _ h => h) (by rfl) (fun w hSw => ?_) hHeld ?_
              · (try dsimp only at hSw); go_simp
              simp only [Act.put, List.setIfInBounds_toArray, List.set_cons_zero, List.set_cons_succ]
              refine take_at (i := 19) 75 (v := .bool false) rfl (by kernel_rfl) (by kernel_rfl) (by kernel_rfl) rfl (fun _ _ _ h => h) (by rfl) (fun w hSw => ?_) hHeld ?_
              · (try dsimp only at hSw); go_simp
              simp only [Act.put, List.setIfInBounds_toArray, List.set_cons_zero, List.set_cons_succ]
              refine take_at (i := 20) 76 (v := .bool false) rfl (by kernel_rfl) (by kernel_rfl) (by kernel_rfl) rfl (fun _ _ _ h => h) (by rfl) (fun w hSw => ?_) hHeld ?_
              · (try dsimp only at hSw); go_simp
              simp only [Act.put, List.setIfInBounds_toArray, List.set_cons_zero, List.set_cons_succ]
              refine skip_at (i := 21) 77 rfl (by kernel_rfl) (by kernel_rfl) (by kernel_rfl) rfl (fun _ _ _ h => h) (by rfl) hHeld ?_
              simp only [Act.put, List.setIfInBounds_toArray, List.set_cons_zero, List.set_cons_succ]
              refine skip_at (i := 22) 78 rfl (by kernel_rfl) (by kernel_rfl) (by kernel_rfl) rfl (fun _ _ _ h => h) (by rfl) hHeld ?_
              simp only [Act.put, List.setIfInBounds_toArray, List.set_cons_zero, List.set_cons_succ]
              refine skip_at (i := 23) 79 rfl (by kernel_rfl) (by kernel_rfl) (by kernel_rfl) rfl (fun _ _ _ h => h) (by rfl) hHeld ?_
              simp only [Act.put, List.setIfInBounds_toArray, List.set_cons_zero, List.set_cons_succ]
              refine skip_at (i := 24) 80 rfl (by kernel_rfl) (by kernel_rfl) (by kernel_rfl) rfl (fun _ _ _ h => h) (by rfl) hHeld ?_
              simp only [Act.put, List.setIfInBounds_toArray, List.set_cons_zero, List.set_cons_succ]
              refine skip_at (i := 25) 81 rfl (by kernel_rfl) (by kernel_rfl) (by kernel_rfl) rfl (fun _ _ _ h => h) (by rfl) hHeld ?_
              simp only [Act.put, List.setIfInBounds_toArray, List.set_cons_zero, List.set_cons_succ]
              refine skip_at (i := 26) 82 rfl (by kernel_rfl) (by kernel_rfl) (by kernel_rfl) rfl (fun _ _ _ h => h) (by rfl) hHeld ?_
              simp only [Act.put, List.setIfInBounds_toArray, List.set_cons_zero, List.set_cons_succ]
              refine skip_at (i := 27) 83 rfl (by kernel_rfl) (by kernel_rfl) (by kernel_rfl) rfl (fun _ _ _ h => h) (by rfl) hHeld ?_
              simp only [Act.put, List.setIfInBounds_toArray, List.set_cons_zero, List.set_cons_succ]
              refine skip_at (i := 28) 84 rfl (by kernel_rfl) (by kernel_rfl) (by kernel_rfl) rfl (fun _ _ _ h => h) (by rfl) hHeld ?_
              simp only [Act.put, List.setIfInBounds_toArray, List.set_cons_zero, List.set_cons_succ]
              refine skip_at (i := 29) 85 rfl (by kernel_rfl) (by kernel_rfl) (by kernel_rfl) rfl (fun _ _ _ h => h) (by rfl) hHeld ?_
              simp only [Act.put, List.setIfInBounds_toArray, List.set_cons_zero, List.set_cons_succ]
              refine skip_at (i := 30) 86 rfl (by kernel_rfl) (by kernel_rfl) (by kernel_rfl) rfl (fun _ _ _ h => h) (by rfl) hHeld ?_
              simp only [Act.put, List.setIfInBounds_toArray, List.set_cons_zero, List.set_cons_succ]
              refine take_at (i := 31) 87 (v := .bool false) rfl (by kernel_rfl) (by kernel_rfl) (by kernel_rfl) rfl (fun _ _ _ h => h) (by rfl) (fun w hSw => ?_) hHeld ?_
              · (try dsimp only at hSw); go_simp
              simp only [Act.put, List.setIfInBounds_toArray, List.set_cons_zero, List.set_cons_succ]
              refine take_at (i := 32) 88 (v := .bool false) rfl (by kernel_rfl) (by kernel_rfl) (by kernel_rfl) rfl (fun _ _ _ h => h) (by rfl) (fun w hSw => ?_) hHeld ?_
              · (try dsimp only at hSw); go_simp
              simp only [Act.put, List.setIfInBounds_toArray, List.set_cons_zero, List.set_cons_succ]
              refine wpAnyH_done (by kernel_rfl) ?_ _
              clear hHeld
              obtain ⟨y0, y1, y2, -⟩ := KEEP.out w10 HB10.out
              have HOI := hid (ownI_below HOW.out HB10.out)
              have HU := hid (UP.out _ HB10.out)
              rw [HV.out] at HTK
              go_wp2_with (first | (at_builtin; refine wpl_app_int (-1) _ _ (.slice a i cc) w8.heap.size ((q.cells.take i).map q.valL) (by rfl) (by rfl) (by rfl) (by rfl) HOI.out HL6.out HU.out.size ?_; intro v' w12 ho12 hb12 _; rw [HTK.out] at ho12; obtain ⟨sa, sn, sc, rfl⟩ := ownI_slice ho12; have HO12 := hid ho12; have HB12 := hid (HU.out.trans hb12); clear ho12 hb12) | fail)
              obtain ⟨_, _, hsn⟩ := row_slice HO12.out
              obtain rfl : sn = i + 1 := by cases hsn; rw [List.length_map, List.length_take]; have := HN.out; omega
              clear hsn
              go_roundw
              case rel => exact ⟨i + 1, sa, sc, rfl, by go_num, by omega, HO12, HB12⟩
              case measure => simp [intOf]; omega
        | some j =>
          cases j with
          | zero =>
            have HV : Hid (q.valL (p, x, y) = 0) := valL_some hl
            have hkk := LL_kk hl
            have hlv : lostV q (p, x, y) = .tuple #[.int .i64 0, .int .i64 0] := by unfold lostV; rw [hl, valid_ok HOK.out, HEX.out]; rfl
            have hin : inG q.safe (p, x, y) = false := LL_zero HEX.out hl
            have CS : Hid (∀ w', Below wr.heap.size wr w' → Calls Tryd.prog 29 #[.slice a1 q.safe.length c1, .agg #[.int .i64 p, .int .i64 x, .int .i64 y]] w' fun e w'' => e = .returned (.bool false) ∧ Below wr.heap.size wr w'') := fun w' hb => (rIn_any _ q.safe q (p, x, y) w' (HO.out w' (UP.out w' hb)).safe HOK.out HOK.out.form HEX.out).mono (by rw [hin]; rintro e w'' ⟨rfl, h⟩; exact ⟨rfl, below_step hb h⟩)
            have CK : Hid (∀ w', Below wr.heap.size wr w' → Calls Tryd.prog 29 #[.slice g5 n5 d5, .agg #[.int .i64 p, .int .i64 x, .int .i64 y]] w' fun e w'' => e = .returned (.bool false) ∧ Below wr.heap.size wr w'') := fun w' hb => (in_kk HOK.out (G0.out w' (UP.out w' hb)) (p, x, y) HEX.out).mono (by rw [hkk]; rintro e w'' ⟨rfl, h⟩; exact ⟨rfl, below_step hb h⟩)
            have LOST : Hid (∀ w', Below wr.heap.size wr w' → Calls Tryd.prog 16 #[.agg #[.slice a1 q.safe.length c1, .slice a2 q.moves.length c2, .slice a3 q.jolts.length c3], .agg #[.int .i64 p, .int .i64 x, .int .i64 y]] w' fun e w'' => e = .returned (.tuple #[.int .i64 0, .int .i64 0]) ∧ Below wr.heap.size wr w'') := fun w' hb => (lost_any _ _ _ q (p, x, y) w' (HO.out w' (UP.out w' hb)) (num_ok HOK.out)).mono (by rw [hlv]; rintro e w'' ⟨rfl, h⟩; exact ⟨rfl, below_step hb h⟩)
            clear hl hkk hlv hin
            obtain ⟨x0, x1, x2, x3, x4, x5, -⟩ := KEEP.out wr (Below.refl _ _)
            go_upto_region 9 with fail
            clear x0 x1 x2 x3 x4 x5
            refine wp_region_held_drew (S := fun w' => w'.cell? ⟨X, 0, none⟩ = some (.slice a1 q.safe.length c1) ∧ w'.cell? ⟨X, 1, none⟩ = some (.slice a2 q.moves.length c2) ∧ w'.cell? ⟨X, 2, none⟩ = some (.slice a3 q.jolts.length c3) ∧ w'.cell? ⟨g, i * 3, none⟩ = some (.int .i64 p) ∧ w'.cell? ⟨g, i * 3 + 1, none⟩ = some (.int .i64 x) ∧ w'.cell? ⟨g, i * 3 + 2, none⟩ = some (.int .i64 y) ∧ Hid (Below wr.heap.size wr w')) (by kernel_rfl) (KEEP.out _ ((Below.refl _ _).drew)) (fun hHeld => ?_)
            refine take_at (i := 0) 48 (v := .agg #[.slice a1 q.safe.length c1, .slice a2 q.moves.length c2, .slice a3 q.jolts.length c3]) rfl (by kernel_rfl) (by kernel_rfl) (by kernel_rfl) rfl (fun _ _ _ h => h) (by rfl) (fun w hSw => ?_) hHeld ?_
            · (try dsimp only at hSw); go_simp
            simp only [Act.put, List.setIfInBounds_toArray, List.set_cons_zero, List.set_cons_succ]
            refine take_at (i := 1) 49 (v := .slice (some ⟨g, 0, none⟩) n l2) rfl (by kernel_rfl) (by kernel_rfl) (by kernel_rfl) rfl (fun _ _ _ h => h) (by rfl) (fun w hSw => ?_) hHeld ?_
            · (try dsimp only at hSw); go_simp
            simp only [Act.put, List.setIfInBounds_toArray, List.set_cons_zero, List.set_cons_succ]
            refine take_at (i := 2) 50 (v := .int .i64 i) rfl (by kernel_rfl) (by kernel_rfl) (by kernel_rfl) rfl (fun _ _ _ h => h) (by rfl) (fun w hSw => ?_) hHeld ?_
            · (try dsimp only at hSw); go_simp
            simp only [Act.put, List.setIfInBounds_toArray, List.set_cons_zero, List.set_cons_succ]
            refine take_at (i := 3) 51 (v := .pointer (some ⟨g, i * 3, none⟩)) rfl (by kernel_rfl) (by kernel_rfl) (by kernel_rfl) rfl (fun _ _ _ h => h) (by rfl) (fun w hSw => ?_) hHeld ?_
            · (try dsimp only at hSw); go_simp
            simp only [Act.put, List.setIfInBounds_toArray, List.set_cons_zero, List.set_cons_succ]
            refine take_at (i := 4) 52 (v := .agg #[.int .i64 p, .int .i64 x, .int .i64 y]) rfl (by kernel_rfl) (by kernel_rfl) (by kernel_rfl) rfl (fun _ _ _ h => h) (by rfl) (fun w hSw => ?_) hHeld ?_
            · (try dsimp only at hSw); go_simp
            simp only [Act.put, List.setIfInBounds_toArray, List.set_cons_zero, List.set_cons_succ]
            refine wpAnyH_ready (rs := [5]) (by kernel_rfl) (by simp) ?_
            refine node_f16 53 48 52 _ _ rfl (by rfl) rfl rfl rfl rfl ((LOST.out _ ((Below.refl _ _).drew)).mono ?_) AllReadyH.nil
            · rintro e w9 ⟨rfl, hb9⟩
              have hHeld := KEEP.out _ hb9
              refine ⟨_, rfl, hHeld, ?_⟩
              have HB9 := hid hb9
              clear hb9
              simp only [Act.put, List.setIfInBounds_toArray, List.set_cons_zero, List.set_cons_succ]
              refine take_at (i := 6) 47 (v := .tuple #[.int .i64 0, .int .i64 0]) rfl (by kernel_rfl) (by kernel_rfl) (by kernel_rfl) rfl (fun _ _ _ h => h) (by rfl) (fun w hSw => ?_) hHeld ?_
              · (try dsimp only at hSw); go_simp
              simp only [Act.put, List.setIfInBounds_toArray, List.set_cons_zero, List.set_cons_succ]
              refine take_at (i := 7) 54 (v := .int .i64 0) rfl (by kernel_rfl) (by kernel_rfl) (by kernel_rfl) rfl (fun _ _ _ h => h) (by rfl) (fun w hSw => ?_) hHeld ?_
              · (try dsimp only at hSw); go_simp
              simp only [Act.put, List.setIfInBounds_toArray, List.set_cons_zero, List.set_cons_succ]
              refine take_at (i := 8) 55 (v := .int .i64 0) rfl (by kernel_rfl) (by kernel_rfl) (by kernel_rfl) rfl (fun _ _ _ h => h) (by rfl) (fun w hSw => ?_) hHeld ?_
              · (try dsimp only at hSw); go_simp
              simp only [Act.put, List.setIfInBounds_toArray, List.set_cons_zero, List.set_cons_succ]
              refine take_at (i := 9) 9 (v := .int .i64 0) rfl (by kernel_rfl) (by kernel_rfl) (by kernel_rfl) rfl (fun _ _ _ h => h) (by rfl) (fun w hSw => ?_) hHeld ?_
              · (try dsimp only at hSw); go_simp
              simp only [Act.put, List.setIfInBounds_toArray, List.set_cons_zero, List.set_cons_succ]
              refine take_at (i := 10) 10 (v := .int .i64 0) rfl (by kernel_rfl) (by kernel_rfl) (by kernel_rfl) rfl (fun _ _ _ h => h) (by rfl) (fun w hSw => ?_) hHeld ?_
              · (try dsimp only at hSw); go_simp
              simp only [Act.put, List.setIfInBounds_toArray, List.set_cons_zero, List.set_cons_succ]
              refine wpAnyH_done (by kernel_rfl) ?_ _
              clear hHeld
              obtain ⟨y0, y1, y2, -⟩ := KEEP.out w9 HB9.out
              go_upto_region 10 with fail
              clear y0 y1 y2
              refine wp_region_held_drew (S := fun w' => w'.cell? ⟨X, 0, none⟩ = some (.slice a1 q.safe.length c1) ∧ w'.cell? ⟨X, 1, none⟩ = some (.slice a2 q.moves.length c2) ∧ w'.cell? ⟨X, 2, none⟩ = some (.slice a3 q.jolts.length c3) ∧ w'.cell? ⟨g, i * 3, none⟩ = some (.int .i64 p) ∧ w'.cell? ⟨g, i * 3 + 1, none⟩ = some (.int .i64 x) ∧ w'.cell? ⟨g, i * 3 + 2, none⟩ = some (.int .i64 y) ∧ Hid (Below wr.heap.size wr w')) (by kernel_rfl) (KEEP.out _ HB9.out.drew) (fun hHeld => ?_)
              refine take_at (i := 0) 56 (v := .int .i64 0) rfl (by kernel_rfl) (by kernel_rfl) (by kernel_rfl) rfl (fun _ _ _ h => h) (by rfl) (fun w hSw => ?_) hHeld ?_
              · (try dsimp only at hSw); go_simp
              simp only [Act.put, List.setIfInBounds_toArray, List.set_cons_zero, List.set_cons_succ]
              refine take_at (i := 1) 57 (v := .bool false) rfl (by kernel_rfl) (by kernel_rfl) (by kernel_rfl) rfl (fun _ _ _ h => h) (by rfl) (fun w hSw => ?_) hHeld ?_
              · (try dsimp only at hSw); go_simp
              simp only [Act.put, List.setIfInBounds_toArray, List.set_cons_zero, List.set_cons_succ]
              refine take_at (i := 2) 58 (v := .slice g5 n5 d5) rfl (by kernel_rfl) (by kernel_rfl) (by kernel_rfl) rfl (fun _ _ _ h => h) (by rfl) (fun w hSw => ?_) hHeld ?_
              · (try dsimp only at hSw); go_simp
              simp only [Act.put, List.setIfInBounds_toArray, List.set_cons_zero, List.set_cons_succ]
              refine take_at (i := 3) 59 (v := .slice (some ⟨g, 0, none⟩) n l2) rfl (by kernel_rfl) (by kernel_rfl) (by kernel_rfl) rfl (fun _ _ _ h => h) (by rfl) (fun w hSw => ?_) hHeld ?_
              · (try dsimp only at hSw); go_simp
              simp only [Act.put, List.setIfInBounds_toArray, List.set_cons_zero, List.set_cons_succ]
              refine take_at (i := 4) 60 (v := .int .i64 i) rfl (by kernel_rfl) (by kernel_rfl) (by kernel_rfl) rfl (fun _ _ _ h => h) (by rfl) (fun w hSw => ?_) hHeld ?_
              · (try dsimp only at hSw); go_simp
              simp only [Act.put, List.setIfInBounds_toArray, List.set_cons_zero, List.set_cons_succ]
              refine take_at (i := 5) 61 (v := .pointer (some ⟨g, i * 3, none⟩)) rfl (by kernel_rfl) (by kernel_rfl) (by kernel_rfl) rfl (fun _ _ _ h => h) (by rfl) (fun w hSw => ?_) hHeld ?_
              · (try dsimp only at hSw); go_simp
              simp only [Act.put, List.setIfInBounds_toArray, List.set_cons_zero, List.set_cons_succ]
              refine take_at (i := 6) 62 (v := .agg #[.int .i64 p, .int .i64 x, .int .i64 y]) rfl (by kernel_rfl) (by kernel_rfl) (by kernel_rfl) rfl (fun _ _ _ h => h) (by rfl) (fun w hSw => ?_) hHeld ?_
              · (try dsimp only at hSw); go_simp
              simp only [Act.put, List.setIfInBounds_toArray, List.set_cons_zero, List.set_cons_succ]
              refine wpAnyH_ready (rs := [7]) (by kernel_rfl) (by simp) ?_
              refine node_f29 63 58 62 _ _ rfl (by rfl) rfl rfl rfl rfl ((CK.out _ HB9.out.drew).mono ?_) AllReadyH.nil
              · rintro e w10 ⟨rfl, hb10⟩
                have hHeld := KEEP.out _ hb10
                refine ⟨_, rfl, hHeld, ?_⟩
                have HB10 := hid hb10
                clear hb10
                simp only [Act.put, List.setIfInBounds_toArray, List.set_cons_zero, List.set_cons_succ]
                refine take_at (i := 8) 64 (v := .bool false) rfl (by kernel_rfl) (by kernel_rfl) (by kernel_rfl) rfl (fun _ _ _ h => h) (by rfl) (fun w hSw => ?_) hHeld ?_
                · (try dsimp only at hSw); go_simp
                simp only [Act.put, List.setIfInBounds_toArray, List.set_cons_zero, List.set_cons_succ]
                refine take_at (i := 9) 65 (v := .bool false) rfl (by kernel_rfl) (by kernel_rfl) (by kernel_rfl) rfl (fun _ _ _ h => h) (by rfl) (fun w hSw => ?_) hHeld ?_
                · (try dsimp only at hSw); go_simp
                simp only [Act.put, List.setIfInBounds_toArray, List.set_cons_zero, List.set_cons_succ]
                refine take_at (i := 10) 66 (v := .int .i64 0) rfl (by kernel_rfl) (by kernel_rfl) (by kernel_rfl) rfl (fun _ _ _ h => h) (by rfl) (fun w hSw => ?_) hHeld ?_
                · (try dsimp only at hSw); go_simp
                simp only [Act.put, List.setIfInBounds_toArray, List.set_cons_zero, List.set_cons_succ]
                refine take_at (i := 11) 67 (v := .bool false) rfl (by kernel_rfl) (by kernel_rfl) (by kernel_rfl) rfl (fun _ _ _ h => h) (by rfl) (fun w hSw => ?_) hHeld ?_
                · (try dsimp only at hSw); go_simp
                simp only [Act.put, List.setIfInBounds_toArray, List.set_cons_zero, List.set_cons_succ]
                refine take_at (i := 12) 68 (v := .bool false) rfl (by kernel_rfl) (by kernel_rfl) (by kernel_rfl) rfl (fun _ _ _ h => h) (by rfl) (fun w hSw => ?_) hHeld ?_
                · (try dsimp only at hSw); go_simp
                simp only [Act.put, List.setIfInBounds_toArray, List.set_cons_zero, List.set_cons_succ]
                refine skip_at (i := 13) 69 rfl (by kernel_rfl) (by kernel_rfl) (by kernel_rfl) rfl (fun _ _ _ h => h) (by rfl) hHeld ?_
                simp only [Act.put, List.setIfInBounds_toArray, List.set_cons_zero, List.set_cons_succ]
                refine skip_at (i := 14) 70 rfl (by kernel_rfl) (by kernel_rfl) (by kernel_rfl) rfl (fun _ _ _ h => h) (by rfl) hHeld ?_
                simp only [Act.put, List.setIfInBounds_toArray, List.set_cons_zero, List.set_cons_succ]
                refine take_at (i := 15) 71 (v := .bool false) rfl (by kernel_rfl) (by kernel_rfl) (by kernel_rfl) rfl (fun _ _ _ h => h) (by rfl) (fun w hSw => ?_) hHeld ?_
                · (try dsimp only at hSw); go_simp
                simp only [Act.put, List.setIfInBounds_toArray, List.set_cons_zero, List.set_cons_succ]
                refine take_at (i := 16) 72 (v := .bool false) rfl (by kernel_rfl) (by kernel_rfl) (by kernel_rfl) rfl (fun _ _ _ h => h) (by rfl) (fun w hSw => ?_) hHeld ?_
                · (try dsimp only at hSw); go_simp
                simp only [Act.put, List.setIfInBounds_toArray, List.set_cons_zero, List.set_cons_succ]
                refine take_at (i := 17) 73 (v := .bool false) rfl (by kernel_rfl) (by kernel_rfl) (by kernel_rfl) rfl (fun _ _ _ h => h) (by rfl) (fun w hSw => ?_) hHeld ?_
                · (try dsimp only at hSw); go_simp
                simp only [Act.put, List.setIfInBounds_toArray, List.set_cons_zero, List.set_cons_succ]
                refine take_at (i := 18) 74 (v := .int .i64 0) rfl (by kernel_rfl) (by kernel_rfl) (by kernel_rfl) rfl (fun _ _ _ h => h) (by rfl) (fun w hSw => ?_) hHeld ?_
                · (try dsimp only at hSw); go_simp
                simp only [Act.put, List.setIfInBounds_toArray, List.set_cons_zero, List.set_cons_succ]
                refine take_at (i := 19) 75 (v := .bool true) rfl (by kernel_rfl) (by kernel_rfl) (by kernel_rfl) rfl (fun _ _ _ h => h) (by rfl) (fun w hSw => ?_) hHeld ?_
                · (try dsimp only at hSw); go_simp
                simp only [Act.put, List.setIfInBounds_toArray, List.set_cons_zero, List.set_cons_succ]
                refine take_at (i := 20) 76 (v := .bool true) rfl (by kernel_rfl) (by kernel_rfl) (by kernel_rfl) rfl (fun _ _ _ h => h) (by rfl) (fun w hSw => ?_) hHeld ?_
                · (try dsimp only at hSw); go_simp
                simp only [Act.put, List.setIfInBounds_toArray, List.set_cons_zero, List.set_cons_succ]
                refine take_at (i := 21) 77 (v := .int .i64 0) rfl (by kernel_rfl) (by kernel_rfl) (by kernel_rfl) rfl (fun _ _ _ h => h) (by rfl) (fun w hSw => ?_) hHeld ?_
                · (try dsimp only at hSw); go_simp
                simp only [Act.put, List.setIfInBounds_toArray, List.set_cons_zero, List.set_cons_succ]
                refine take_at (i := 22) 78 (v := .bool true) rfl (by kernel_rfl) (by kernel_rfl) (by kernel_rfl) rfl (fun _ _ _ h => h) (by rfl) (fun w hSw => ?_) hHeld ?_
                · (try dsimp only at hSw); go_simp
                simp only [Act.put, List.setIfInBounds_toArray, List.set_cons_zero, List.set_cons_succ]
                refine take_at (i := 23) 79 (v := .pointer (some ⟨X, 0, none⟩)) rfl (by kernel_rfl) (by kernel_rfl) (by kernel_rfl) rfl (fun _ _ _ h => h) (by rfl) (fun w hSw => ?_) hHeld ?_
                · (try dsimp only at hSw); go_simp
                simp only [Act.put, List.setIfInBounds_toArray, List.set_cons_zero, List.set_cons_succ]
                refine take_at (i := 24) 80 (v := .slice a1 q.safe.length c1) rfl (by kernel_rfl) (by kernel_rfl) (by kernel_rfl) rfl (fun _ _ _ h => h) (by rfl) (fun w hSw => ?_) hHeld ?_
                · (try dsimp only at hSw); go_simp
                simp only [Act.put, List.setIfInBounds_toArray, List.set_cons_zero, List.set_cons_succ]
                refine take_at (i := 25) 81 (v := .slice (some ⟨g, 0, none⟩) n l2) rfl (by kernel_rfl) (by kernel_rfl) (by kernel_rfl) rfl (fun _ _ _ h => h) (by rfl) (fun w hSw => ?_) hHeld ?_
                · (try dsimp only at hSw); go_simp
                simp only [Act.put, List.setIfInBounds_toArray, List.set_cons_zero, List.set_cons_succ]
                refine take_at (i := 26) 82 (v := .int .i64 i) rfl (by kernel_rfl) (by kernel_rfl) (by kernel_rfl) rfl (fun _ _ _ h => h) (by rfl) (fun w hSw => ?_) hHeld ?_
                · (try dsimp only at hSw); go_simp
                simp only [Act.put, List.setIfInBounds_toArray, List.set_cons_zero, List.set_cons_succ]
                refine take_at (i := 27) 83 (v := .pointer (some ⟨g, i * 3, none⟩)) rfl (by kernel_rfl) (by kernel_rfl) (by kernel_rfl) rfl (fun _ _ _ h => h) (by rfl) (fun w hSw => ?_) hHeld ?_
                · (try dsimp only at hSw); go_simp
                simp only [Act.put, List.setIfInBounds_toArray, List.set_cons_zero, List.set_cons_succ]
                refine take_at (i := 28) 84 (v := .agg #[.int .i64 p, .int .i64 x, .int .i64 y]) rfl (by kernel_rfl) (by kernel_rfl) (by kernel_rfl) rfl (fun _ _ _ h => h) (by rfl) (fun w hSw => ?_) hHeld ?_
                · (try dsimp only at hSw); go_simp
                simp only [Act.put, List.setIfInBounds_toArray, List.set_cons_zero, List.set_cons_succ]
                refine wpAnyH_ready (rs := [29]) (by kernel_rfl) (by simp) ?_
                refine node_f29 85 80 84 _ _ rfl (by rfl) rfl rfl rfl rfl ((CS.out _ HB10.out).mono ?_) AllReadyH.nil
                · rintro e w11 ⟨rfl, hb11⟩
                  have hHeld := KEEP.out _ hb11
                  refine ⟨_, rfl, hHeld, ?_⟩
                  have HB11 := hid hb11
                  clear hb11
                  simp only [Act.put, List.setIfInBounds_toArray, List.set_cons_zero, List.set_cons_succ]
                  refine take_at (i := 30) 86 (v := .bool false) rfl (by kernel_rfl) (by kernel_rfl) (by kernel_rfl) rfl (fun _ _ _ h => h) (by rfl) (fun w hSw => ?_) hHeld ?_
                  · (try dsimp only at hSw); go_simp
                  simp only [Act.put, List.setIfInBounds_toArray, List.set_cons_zero, List.set_cons_succ]
                  refine take_at (i := 31) 87 (v := .bool false) rfl (by kernel_rfl) (by kernel_rfl) (by kernel_rfl) rfl (fun _ _ _ h => h) (by rfl) (fun w hSw => ?_) hHeld ?_
                  · (try dsimp only at hSw); go_simp
                  simp only [Act.put, List.setIfInBounds_toArray, List.set_cons_zero, List.set_cons_succ]
                  refine take_at (i := 32) 88 (v := .bool false) rfl (by kernel_rfl) (by kernel_rfl) (by kernel_rfl) rfl (fun _ _ _ h => h) (by rfl) (fun w hSw => ?_) hHeld ?_
                  · (try dsimp only at hSw); go_simp
                  simp only [Act.put, List.setIfInBounds_toArray, List.set_cons_zero, List.set_cons_succ]
                  refine wpAnyH_done (by kernel_rfl) ?_ _
                  clear hHeld
                  obtain ⟨y0, y1, y2, -⟩ := KEEP.out w11 HB11.out
                  have HOI := hid (ownI_below HOW.out HB11.out)
                  have HU := hid (UP.out _ HB11.out)
                  rw [HV.out] at HTK
                  go_wp2_with (first | (at_builtin; refine wpl_app_int 0 _ _ (.slice a i cc) w8.heap.size ((q.cells.take i).map q.valL) (by rfl) (by rfl) (by rfl) (by rfl) HOI.out HL6.out HU.out.size ?_; intro v' w12 ho12 hb12 _; rw [HTK.out] at ho12; obtain ⟨sa, sn, sc, rfl⟩ := ownI_slice ho12; have HO12 := hid ho12; have HB12 := hid (HU.out.trans hb12); clear ho12 hb12) | fail)
                  obtain ⟨_, _, hsn⟩ := row_slice HO12.out
                  obtain rfl : sn = i + 1 := by cases hsn; rw [List.length_map, List.length_take]; have := HN.out; omega
                  clear hsn
                  go_roundw
                  case rel => exact ⟨i + 1, sa, sc, rfl, by go_num, by omega, HO12, HB12⟩
                  case measure => simp [intOf]; omega
          | succ j =>
            have HV : Hid (q.valL (p, x, y) = ((j : Int) + 1)) := valL_some hl
            have hkk := LL_kk hl
            have hlv : lostV q (p, x, y) = .tuple #[.int .i64 ((j : Int) + 1), .int .i64 0] := by unfold lostV; rw [hl, valid_ok HOK.out, HEX.out]; rfl
            have hj9 : (j : Int) + 1 ≤ 1024 := by have h9 := (valL_range HOK.out (p, x, y)).2; rw [HV.out] at h9; exact h9
            have hj0 : ¬ (j : Int) + 1 = 0 := by omega
            have hin : inG q.safe (p, x, y) = true := LL_succ hl
            have CS : Hid (∀ w', Below wr.heap.size wr w' → Calls Tryd.prog 29 #[.slice a1 q.safe.length c1, .agg #[.int .i64 p, .int .i64 x, .int .i64 y]] w' fun e w'' => e = .returned (.bool true) ∧ Below wr.heap.size wr w'') := fun w' hb => (rIn_any _ q.safe q (p, x, y) w' (HO.out w' (UP.out w' hb)).safe HOK.out HOK.out.form HEX.out).mono (by rw [hin]; rintro e w'' ⟨rfl, h⟩; exact ⟨rfl, below_step hb h⟩)
            have CK : Hid (∀ w', Below wr.heap.size wr w' → Calls Tryd.prog 29 #[.slice g5 n5 d5, .agg #[.int .i64 p, .int .i64 x, .int .i64 y]] w' fun e w'' => e = .returned (.bool false) ∧ Below wr.heap.size wr w'') := fun w' hb => (in_kk HOK.out (G0.out w' (UP.out w' hb)) (p, x, y) HEX.out).mono (by rw [hkk]; rintro e w'' ⟨rfl, h⟩; exact ⟨rfl, below_step hb h⟩)
            have LOST : Hid (∀ w', Below wr.heap.size wr w' → Calls Tryd.prog 16 #[.agg #[.slice a1 q.safe.length c1, .slice a2 q.moves.length c2, .slice a3 q.jolts.length c3], .agg #[.int .i64 p, .int .i64 x, .int .i64 y]] w' fun e w'' => e = .returned (.tuple #[.int .i64 ((j : Int) + 1), .int .i64 0]) ∧ Below wr.heap.size wr w'') := fun w' hb => (lost_any _ _ _ q (p, x, y) w' (HO.out w' (UP.out w' hb)) (num_ok HOK.out)).mono (by rw [hlv]; rintro e w'' ⟨rfl, h⟩; exact ⟨rfl, below_step hb h⟩)
            clear hl hkk hlv hin
            obtain ⟨x0, x1, x2, x3, x4, x5, -⟩ := KEEP.out wr (Below.refl _ _)
            go_upto_region 9 with fail
            clear x0 x1 x2 x3 x4 x5
            refine wp_region_held_drew (S := fun w' => w'.cell? ⟨X, 0, none⟩ = some (.slice a1 q.safe.length c1) ∧ w'.cell? ⟨X, 1, none⟩ = some (.slice a2 q.moves.length c2) ∧ w'.cell? ⟨X, 2, none⟩ = some (.slice a3 q.jolts.length c3) ∧ w'.cell? ⟨g, i * 3, none⟩ = some (.int .i64 p) ∧ w'.cell? ⟨g, i * 3 + 1, none⟩ = some (.int .i64 x) ∧ w'.cell? ⟨g, i * 3 + 2, none⟩ = some (.int .i64 y) ∧ Hid (Below wr.heap.size wr w')) (by kernel_rfl) (KEEP.out _ ((Below.refl _ _).drew)) (fun hHeld => ?_)
            refine take_at (i := 0) 48 (v := .agg #[.slice a1 q.safe.length c1, .slice a2 q.moves.length c2, .slice a3 q.jolts.length c3]) rfl (by kernel_rfl) (by kernel_rfl) (by kernel_rfl) rfl (fun _ _ _ h => h) (by rfl) (fun w hSw => ?_) hHeld ?_
            · (try dsimp only at hSw); go_simp
            simp only [Act.put, List.setIfInBounds_toArray, List.set_cons_zero, List.set_cons_succ]
            refine take_at (i := 1) 49 (v := .slice (some ⟨g, 0, none⟩) n l2) rfl (by kernel_rfl) (by kernel_rfl) (by kernel_rfl) rfl (fun _ _ _ h => h) (by rfl) (fun w hSw => ?_) hHeld ?_
            · (try dsimp only at hSw); go_simp
            simp only [Act.put, List.setIfInBounds_toArray, List.set_cons_zero, List.set_cons_succ]
            refine take_at (i := 2) 50 (v := .int .i64 i) rfl (by kernel_rfl) (by kernel_rfl) (by kernel_rfl) rfl (fun _ _ _ h => h) (by rfl) (fun w hSw => ?_) hHeld ?_
            · (try dsimp only at hSw); go_simp
            simp only [Act.put, List.setIfInBounds_toArray, List.set_cons_zero, List.set_cons_succ]
            refine take_at (i := 3) 51 (v := .pointer (some ⟨g, i * 3, none⟩)) rfl (by kernel_rfl) (by kernel_rfl) (by kernel_rfl) rfl (fun _ _ _ h => h) (by rfl) (fun w hSw => ?_) hHeld ?_
            · (try dsimp only at hSw); go_simp
            simp only [Act.put, List.setIfInBounds_toArray, List.set_cons_zero, List.set_cons_succ]
            refine take_at (i := 4) 52 (v := .agg #[.int .i64 p, .int .i64 x, .int .i64 y]) rfl (by kernel_rfl) (by kernel_rfl) (by kernel_rfl) rfl (fun _ _ _ h => h) (by rfl) (fun w hSw => ?_) hHeld ?_
            · (try dsimp only at hSw); go_simp
            simp only [Act.put, List.setIfInBounds_toArray, List.set_cons_zero, List.set_cons_succ]
            refine wpAnyH_ready (rs := [5]) (by kernel_rfl) (by simp) ?_
            refine node_f16 53 48 52 _ _ rfl (by rfl) rfl rfl rfl rfl ((LOST.out _ ((Below.refl _ _).drew)).mono ?_) AllReadyH.nil
            · rintro e w9 ⟨rfl, hb9⟩
              have hHeld := KEEP.out _ hb9
              refine ⟨_, rfl, hHeld, ?_⟩
              have HB9 := hid hb9
              clear hb9
              simp only [Act.put, List.setIfInBounds_toArray, List.set_cons_zero, List.set_cons_succ]
              refine take_at (i := 6) 47 (v := .tuple #[.int .i64 ((j : Int) + 1), .int .i64 0]) rfl (by kernel_rfl) (by kernel_rfl) (by kernel_rfl) rfl (fun _ _ _ h => h) (by rfl) (fun w hSw => ?_) hHeld ?_
              · (try dsimp only at hSw); go_simp
              simp only [Act.put, List.setIfInBounds_toArray, List.set_cons_zero, List.set_cons_succ]
              refine take_at (i := 7) 54 (v := .int .i64 ((j : Int) + 1)) rfl (by kernel_rfl) (by kernel_rfl) (by kernel_rfl) rfl (fun _ _ _ h => h) (by rfl) (fun w hSw => ?_) hHeld ?_
              · (try dsimp only at hSw); go_simp
              simp only [Act.put, List.setIfInBounds_toArray, List.set_cons_zero, List.set_cons_succ]
              refine take_at (i := 8) 55 (v := .int .i64 0) rfl (by kernel_rfl) (by kernel_rfl) (by kernel_rfl) rfl (fun _ _ _ h => h) (by rfl) (fun w hSw => ?_) hHeld ?_
              · (try dsimp only at hSw); go_simp
              simp only [Act.put, List.setIfInBounds_toArray, List.set_cons_zero, List.set_cons_succ]
              refine take_at (i := 9) 9 (v := .int .i64 ((j : Int) + 1)) rfl (by kernel_rfl) (by kernel_rfl) (by kernel_rfl) rfl (fun _ _ _ h => h) (by rfl) (fun w hSw => ?_) hHeld ?_
              · (try dsimp only at hSw); go_simp
              simp only [Act.put, List.setIfInBounds_toArray, List.set_cons_zero, List.set_cons_succ]
              refine take_at (i := 10) 10 (v := .int .i64 0) rfl (by kernel_rfl) (by kernel_rfl) (by kernel_rfl) rfl (fun _ _ _ h => h) (by rfl) (fun w hSw => ?_) hHeld ?_
              · (try dsimp only at hSw); go_simp
              simp only [Act.put, List.setIfInBounds_toArray, List.set_cons_zero, List.set_cons_succ]
              refine wpAnyH_done (by kernel_rfl) ?_ _
              clear hHeld
              obtain ⟨y0, y1, y2, -⟩ := KEEP.out w9 HB9.out
              go_upto_region 10 with fail
              clear y0 y1 y2
              refine wp_region_held_drew (S := fun w' => w'.cell? ⟨X, 0, none⟩ = some (.slice a1 q.safe.length c1) ∧ w'.cell? ⟨X, 1, none⟩ = some (.slice a2 q.moves.length c2) ∧ w'.cell? ⟨X, 2, none⟩ = some (.slice a3 q.jolts.length c3) ∧ w'.cell? ⟨g, i * 3, none⟩ = some (.int .i64 p) ∧ w'.cell? ⟨g, i * 3 + 1, none⟩ = some (.int .i64 x) ∧ w'.cell? ⟨g, i * 3 + 2, none⟩ = some (.int .i64 y) ∧ Hid (Below wr.heap.size wr w')) (by kernel_rfl) (KEEP.out _ HB9.out.drew) (fun hHeld => ?_)
              refine take_at (i := 0) 56 (v := .int .i64 0) rfl (by kernel_rfl) (by kernel_rfl) (by kernel_rfl) rfl (fun _ _ _ h => h) (by rfl) (fun w hSw => ?_) hHeld ?_
              · (try dsimp only at hSw); go_simp
              simp only [Act.put, List.setIfInBounds_toArray, List.set_cons_zero, List.set_cons_succ]
              refine take_at (i := 1) 57 (v := .bool false) rfl (by kernel_rfl) (by kernel_rfl) (by kernel_rfl) rfl (fun _ _ _ h => h) (by rfl) (fun w hSw => ?_) hHeld ?_
              · (try dsimp only at hSw); go_simp
              simp only [Act.put, List.setIfInBounds_toArray, List.set_cons_zero, List.set_cons_succ]
              refine take_at (i := 2) 58 (v := .slice g5 n5 d5) rfl (by kernel_rfl) (by kernel_rfl) (by kernel_rfl) rfl (fun _ _ _ h => h) (by rfl) (fun w hSw => ?_) hHeld ?_
              · (try dsimp only at hSw); go_simp
              simp only [Act.put, List.setIfInBounds_toArray, List.set_cons_zero, List.set_cons_succ]
              refine take_at (i := 3) 59 (v := .slice (some ⟨g, 0, none⟩) n l2) rfl (by kernel_rfl) (by kernel_rfl) (by kernel_rfl) rfl (fun _ _ _ h => h) (by rfl) (fun w hSw => ?_) hHeld ?_
              · (try dsimp only at hSw); go_simp
              simp only [Act.put, List.setIfInBounds_toArray, List.set_cons_zero, List.set_cons_succ]
              refine take_at (i := 4) 60 (v := .int .i64 i) rfl (by kernel_rfl) (by kernel_rfl) (by kernel_rfl) rfl (fun _ _ _ h => h) (by rfl) (fun w hSw => ?_) hHeld ?_
              · (try dsimp only at hSw); go_simp
              simp only [Act.put, List.setIfInBounds_toArray, List.set_cons_zero, List.set_cons_succ]
              refine take_at (i := 5) 61 (v := .pointer (some ⟨g, i * 3, none⟩)) rfl (by kernel_rfl) (by kernel_rfl) (by kernel_rfl) rfl (fun _ _ _ h => h) (by rfl) (fun w hSw => ?_) hHeld ?_
              · (try dsimp only at hSw); go_simp
              simp only [Act.put, List.setIfInBounds_toArray, List.set_cons_zero, List.set_cons_succ]
              refine take_at (i := 6) 62 (v := .agg #[.int .i64 p, .int .i64 x, .int .i64 y]) rfl (by kernel_rfl) (by kernel_rfl) (by kernel_rfl) rfl (fun _ _ _ h => h) (by rfl) (fun w hSw => ?_) hHeld ?_
              · (try dsimp only at hSw); go_simp
              simp only [Act.put, List.setIfInBounds_toArray, List.set_cons_zero, List.set_cons_succ]
              refine wpAnyH_ready (rs := [7]) (by kernel_rfl) (by simp) ?_
              refine node_f29 63 58 62 _ _ rfl (by rfl) rfl rfl rfl rfl ((CK.out _ HB9.out.drew).mono ?_) AllReadyH.nil
              · rintro e w10 ⟨rfl, hb10⟩
                have hHeld := KEEP.out _ hb10
                refine ⟨_, rfl, hHeld, ?_⟩
                have HB10 := hid hb10
                clear hb10
                simp only [Act.put, List.setIfInBounds_toArray, List.set_cons_zero, List.set_cons_succ]
                refine take_at (i := 8) 64 (v := .bool false) rfl (by kernel_rfl) (by kernel_rfl) (by kernel_rfl) rfl (fun _ _ _ h => h) (by rfl) (fun w hSw => ?_) hHeld ?_
                · (try dsimp only at hSw); go_simp
                simp only [Act.put, List.setIfInBounds_toArray, List.set_cons_zero, List.set_cons_succ]
                refine take_at (i := 9) 65 (v := .bool false) rfl (by kernel_rfl) (by kernel_rfl) (by kernel_rfl) rfl (fun _ _ _ h => h) (by rfl) (fun w hSw => ?_) hHeld ?_
                · (try dsimp only at hSw); go_simp
                simp only [Act.put, List.setIfInBounds_toArray, List.set_cons_zero, List.set_cons_succ]
                refine take_at (i := 10) 66 (v := .int .i64 0) rfl (by kernel_rfl) (by kernel_rfl) (by kernel_rfl) rfl (fun _ _ _ h => h) (by rfl) (fun w hSw => ?_) hHeld ?_
                · (try dsimp only at hSw); go_simp
                simp only [Act.put, List.setIfInBounds_toArray, List.set_cons_zero, List.set_cons_succ]
                refine take_at (i := 11) 67 (v := .bool false) rfl (by kernel_rfl) (by kernel_rfl) (by kernel_rfl) rfl (fun _ _ _ h => h) (by rfl) (fun w hSw => ?_) hHeld ?_
                · (try dsimp only at hSw); go_simp
                simp only [Act.put, List.setIfInBounds_toArray, List.set_cons_zero, List.set_cons_succ]
                refine take_at (i := 12) 68 (v := .bool false) rfl (by kernel_rfl) (by kernel_rfl) (by kernel_rfl) rfl (fun _ _ _ h => h) (by rfl) (fun w hSw => ?_) hHeld ?_
                · (try dsimp only at hSw); go_simp
                simp only [Act.put, List.setIfInBounds_toArray, List.set_cons_zero, List.set_cons_succ]
                refine skip_at (i := 13) 69 rfl (by kernel_rfl) (by kernel_rfl) (by kernel_rfl) rfl (fun _ _ _ h => h) (by rfl) hHeld ?_
                simp only [Act.put, List.setIfInBounds_toArray, List.set_cons_zero, List.set_cons_succ]
                refine skip_at (i := 14) 70 rfl (by kernel_rfl) (by kernel_rfl) (by kernel_rfl) rfl (fun _ _ _ h => h) (by rfl) hHeld ?_
                simp only [Act.put, List.setIfInBounds_toArray, List.set_cons_zero, List.set_cons_succ]
                refine take_at (i := 15) 71 (v := .bool false) rfl (by kernel_rfl) (by kernel_rfl) (by kernel_rfl) rfl (fun _ _ _ h => h) (by rfl) (fun w hSw => ?_) hHeld ?_
                · (try dsimp only at hSw); go_simp
                simp only [Act.put, List.setIfInBounds_toArray, List.set_cons_zero, List.set_cons_succ]
                refine take_at (i := 16) 72 (v := .bool false) rfl (by kernel_rfl) (by kernel_rfl) (by kernel_rfl) rfl (fun _ _ _ h => h) (by rfl) (fun w hSw => ?_) hHeld ?_
                · (try dsimp only at hSw); go_simp
                simp only [Act.put, List.setIfInBounds_toArray, List.set_cons_zero, List.set_cons_succ]
                refine take_at (i := 17) 73 (v := .bool false) rfl (by kernel_rfl) (by kernel_rfl) (by kernel_rfl) rfl (fun _ _ _ h => h) (by rfl) (fun w hSw => ?_) hHeld ?_
                · (try dsimp only at hSw); go_simp
                simp only [Act.put, List.setIfInBounds_toArray, List.set_cons_zero, List.set_cons_succ]
                refine take_at (i := 18) 74 (v := .int .i64 0) rfl (by kernel_rfl) (by kernel_rfl) (by kernel_rfl) rfl (fun _ _ _ h => h) (by rfl) (fun w hSw => ?_) hHeld ?_
                · (try dsimp only at hSw); go_simp
                simp only [Act.put, List.setIfInBounds_toArray, List.set_cons_zero, List.set_cons_succ]
                refine take_at (i := 19) 75 (v := .bool true) rfl (by kernel_rfl) (by kernel_rfl) (by kernel_rfl) rfl (fun _ _ _ h => h) (by rfl) (fun w hSw => ?_) hHeld ?_
                · (try dsimp only at hSw); go_simp
                simp only [Act.put, List.setIfInBounds_toArray, List.set_cons_zero, List.set_cons_succ]
                refine take_at (i := 20) 76 (v := .bool true) rfl (by kernel_rfl) (by kernel_rfl) (by kernel_rfl) rfl (fun _ _ _ h => h) (by rfl) (fun w hSw => ?_) hHeld ?_
                · (try dsimp only at hSw); go_simp
                simp only [Act.put, List.setIfInBounds_toArray, List.set_cons_zero, List.set_cons_succ]
                refine take_at (i := 21) 77 (v := .int .i64 ((j : Int) + 1)) rfl (by kernel_rfl) (by kernel_rfl) (by kernel_rfl) rfl (fun _ _ _ h => h) (by rfl) (fun w hSw => ?_) hHeld ?_
                · (try dsimp only at hSw); go_simp
                simp only [Act.put, List.setIfInBounds_toArray, List.set_cons_zero, List.set_cons_succ]
                refine take_at (i := 22) 78 (v := .bool false) rfl (by kernel_rfl) (by kernel_rfl) (by kernel_rfl) rfl (fun _ _ _ h => h) (by rfl) (fun w hSw => ?_) hHeld ?_
                · (try dsimp only at hSw); go_simp
                simp only [Act.put, List.setIfInBounds_toArray, List.set_cons_zero, List.set_cons_succ]
                refine take_at (i := 23) 79 (v := .pointer (some ⟨X, 0, none⟩)) rfl (by kernel_rfl) (by kernel_rfl) (by kernel_rfl) rfl (fun _ _ _ h => h) (by rfl) (fun w hSw => ?_) hHeld ?_
                · (try dsimp only at hSw); go_simp
                simp only [Act.put, List.setIfInBounds_toArray, List.set_cons_zero, List.set_cons_succ]
                refine take_at (i := 24) 80 (v := .slice a1 q.safe.length c1) rfl (by kernel_rfl) (by kernel_rfl) (by kernel_rfl) rfl (fun _ _ _ h => h) (by rfl) (fun w hSw => ?_) hHeld ?_
                · (try dsimp only at hSw); go_simp
                simp only [Act.put, List.setIfInBounds_toArray, List.set_cons_zero, List.set_cons_succ]
                refine take_at (i := 25) 81 (v := .slice (some ⟨g, 0, none⟩) n l2) rfl (by kernel_rfl) (by kernel_rfl) (by kernel_rfl) rfl (fun _ _ _ h => h) (by rfl) (fun w hSw => ?_) hHeld ?_
                · (try dsimp only at hSw); go_simp
                simp only [Act.put, List.setIfInBounds_toArray, List.set_cons_zero, List.set_cons_succ]
                refine take_at (i := 26) 82 (v := .int .i64 i) rfl (by kernel_rfl) (by kernel_rfl) (by kernel_rfl) rfl (fun _ _ _ h => h) (by rfl) (fun w hSw => ?_) hHeld ?_
                · (try dsimp only at hSw); go_simp
                simp only [Act.put, List.setIfInBounds_toArray, List.set_cons_zero, List.set_cons_succ]
                refine take_at (i := 27) 83 (v := .pointer (some ⟨g, i * 3, none⟩)) rfl (by kernel_rfl) (by kernel_rfl) (by kernel_rfl) rfl (fun _ _ _ h => h) (by rfl) (fun w hSw => ?_) hHeld ?_
                · (try dsimp only at hSw); go_simp
                simp only [Act.put, List.setIfInBounds_toArray, List.set_cons_zero, List.set_cons_succ]
                refine take_at (i := 28) 84 (v := .agg #[.int .i64 p, .int .i64 x, .int .i64 y]) rfl (by kernel_rfl) (by kernel_rfl) (by kernel_rfl) rfl (fun _ _ _ h => h) (by rfl) (fun w hSw => ?_) hHeld ?_
                · (try dsimp only at hSw); go_simp
                simp only [Act.put, List.setIfInBounds_toArray, List.set_cons_zero, List.set_cons_succ]
                refine wpAnyH_ready (rs := [29]) (by kernel_rfl) (by simp) ?_
                refine node_f29 85 80 84 _ _ rfl (by rfl) rfl rfl rfl rfl ((CS.out _ HB10.out).mono ?_) AllReadyH.nil
                · rintro e w11 ⟨rfl, hb11⟩
                  have hHeld := KEEP.out _ hb11
                  refine ⟨_, rfl, hHeld, ?_⟩
                  have HB11 := hid hb11
                  clear hb11
                  simp only [Act.put, List.setIfInBounds_toArray, List.set_cons_zero, List.set_cons_succ]
                  refine take_at (i := 30) 86 (v := .bool false) rfl (by kernel_rfl) (by kernel_rfl) (by kernel_rfl) rfl (fun _ _ _ h => h) (by rfl) (fun w hSw => ?_) hHeld ?_
                  · (try dsimp only at hSw); go_simp
                  simp only [Act.put, List.setIfInBounds_toArray, List.set_cons_zero, List.set_cons_succ]
                  refine take_at (i := 31) 87 (v := .bool false) rfl (by kernel_rfl) (by kernel_rfl) (by kernel_rfl) rfl (fun _ _ _ h => h) (by rfl) (fun w hSw => ?_) hHeld ?_
                  · (try dsimp only at hSw); go_simp
                  simp only [Act.put, List.setIfInBounds_toArray, List.set_cons_zero, List.set_cons_succ]
                  refine take_at (i := 32) 88 (v := .bool false) rfl (by kernel_rfl) (by kernel_rfl) (by kernel_rfl) rfl (fun _ _ _ h => h) (by rfl) (fun w hSw => ?_) hHeld ?_
                  · (try dsimp only at hSw); go_simp
                  simp only [Act.put, List.setIfInBounds_toArray, List.set_cons_zero, List.set_cons_succ]
                  refine wpAnyH_done (by kernel_rfl) ?_ _
                  clear hHeld
                  obtain ⟨y0, y1, y2, -⟩ := KEEP.out w11 HB11.out
                  have HOI := hid (ownI_below HOW.out HB11.out)
                  have HU := hid (UP.out _ HB11.out)
                  rw [HV.out] at HTK
                  go_wp2_with (first | (at_builtin; refine wpl_app_int ((j : Int) + 1) _ _ (.slice a i cc) w8.heap.size ((q.cells.take i).map q.valL) (by rfl) (by rfl) (by rfl) (by rfl) HOI.out HL6.out HU.out.size ?_; intro v' w12 ho12 hb12 _; rw [HTK.out] at ho12; obtain ⟨sa, sn, sc, rfl⟩ := ownI_slice ho12; have HO12 := hid ho12; have HB12 := hid (HU.out.trans hb12); clear ho12 hb12) | fail)
                  obtain ⟨_, _, hsn⟩ := row_slice HO12.out
                  obtain rfl : sn = i + 1 := by cases hsn; rw [List.length_map, List.length_take]; have := HN.out; omega
                  clear hsn
                  go_roundw
                  case rel => exact ⟨i + 1, sa, sc, rfl, by go_num, by omega, HO12, HB12⟩
                  case measure => simp [intOf]; omega
      · obtain rfl : i = n := by omega
        go_wp2_with fail
        go_meet
        exact ⟨a, cc, rfl, by rw [HN.out, List.take_length] at HOW; rw [HN.out]; exact HOW, HBr⟩
  case rest =>
    obtain ⟨a, cc, rfl, HOW, HBz⟩ := hcut
    rename World => wz
    have HLS : Hid (∀ w', Below wz.heap.size wz w' → IsInts w' (.slice a n cc) (q.cells.map q.valL)) := fun w' hb => ownI_ints (ownI_below HOW.out hb) (by rw [List.length_map, ← HN.out]; omega)
    replace HCS : Hid (∀ w', Below wz.heap.size wz w' → OwnS w' BC 28 (.slice l1 n l2) q.cells) := fun w' hb => by
      rw [HN.out]; exact HCS.out w' (HBz.out.trans (hb.mono HBz.out.size))
    replace KP : Hid (∀ w', Below wz.heap.size wz w' → w'.cell? ⟨X, 0, none⟩ = some (.slice a1 q.safe.length c1) ∧ w'.cell? ⟨X, 1, none⟩ = some (.slice a2 q.moves.length c2) ∧ w'.cell? ⟨X, 2, none⟩ = some (.slice a3 q.jolts.length c3)) := fun w' hb => KP.out w' (HBz.out.trans (hb.mono HBz.out.size))
    replace HO : Hid (∀ w', Below wz.heap.size wz w' → IsOv w' (.slice a1 q.safe.length c1) (.slice a2 q.moves.length c2) (.slice a3 q.jolts.length c3) q) := fun w' hb => HO.out w' (HBz.out.trans (hb.mono HBz.out.size))
    replace FIN : Hid (∀ w', Below wz.heap.size wz w' → Below w.heap.size w w') := fun w' hb => FIN.out w' (HBz.out.trans (hb.mono HBz.out.size))
    have hm16 : q.moves.length ≤ 16 := HOK.out.nm
    have hj4 : q.jolts.length ≤ 4 := HOK.out.nj.2
    have HNL := N_le HOK.out
    clear G0
    go_wp2_with fail
    go_loopw [11] (fun iv wr => ∃ (i : Nat), iv = .int .i64 i ∧ i ≤ n ∧ Hid (Below wz.heap.size wz wr)) (fun iv _ => n - (intOf iv).toNat)
    case atStart => exact ⟨0, rfl, Nat.zero_le _, Below.refl _ _⟩
    case round =>
      obtain ⟨i, rfl, hi, HBr⟩ := hrel
      rename World => wi
      by_cases hlt : i < n
      · have hlo : i < q.cells.length := by rw [← HN.out]; exact hlt
        obtain ⟨g, rfl, -⟩ := sp_at (HCS.out wi HBr.out) i hlo
        have hlv : i < (q.cells.map q.valL).length := by rw [List.length_map]; exact hlo
        obtain ⟨g2, rfl, -⟩ := ints_at (HLS.out wi HBr.out) i hlv
        have HLI : Hid (∀ w', Below wz.heap.size wz w' → w'.cell? ⟨g2, i, none⟩ = some (.int .i64 (q.valL (sAt q.cells i)))) := fun w' hb => by
          obtain ⟨g', hg', h⟩ := ints_at (HLS.out w' hb) i hlv
          cases hg'
          rw [vals_at q.valL hlo] at h
          exact h
        have hex := HEXC.out i hlo
        obtain ⟨s, hs⟩ : ∃ s, s = sAt q.cells i := ⟨_, rfl⟩
        obtain ⟨p, x, y⟩ := s
        rw [← hs] at hex HLI
        have HEX := hid hex
        have HCL : Hid (∀ w', Below wz.heap.size wz w' → w'.cell? ⟨g, i * 3, none⟩ = some (.int .i64 p) ∧ w'.cell? ⟨g, i * 3 + 1, none⟩ = some (.int .i64 x) ∧ w'.cell? ⟨g, i * 3 + 2, none⟩ = some (.int .i64 y)) := fun w' hb => sp_all (HCS.out w' hb) hlo hs.symm
        have hvr := valL_range HOK.out (p, x, y)
        obtain ⟨vl, hvl⟩ : ∃ vl, vl = q.valL (p, x, y) := ⟨_, rfl⟩
        rw [← hvl] at HLI hvr
        have HVL := hid hvl
        have e1 := HLI.out wi HBr.out
        clear hs hex hlo hlv hvl
        obtain ⟨hvr0, hvr1⟩ := hvr
        by_cases hv1 : vl < 1
        · have hd1 : decide (vl < 1) = true := decide_eq_true hv1
          have hv2 : vl ≤ 0 := by omega
          go_wp2_with fail
          go_roundw
          case rel => exact ⟨i + 1, by go_num, by omega, HBr⟩
          case measure => simp [intOf]; omega
        · have hbest : Hid (q.best (p, x, y) + 1 = vl) := by
            have h1 := HVL.out
            cases hl : q.LL (p, x, y) with
            | none => rw [valL_none hl] at h1; omega
            | some j =>
              rw [valL_some hl] at h1
              cases j with
              | zero => omega
              | succ j =>
                show _ = _
                rw [best_lost (by have := HNL; omega) hl, h1]
                omega
          clear HVL
          obtain ⟨z0, z1, z2⟩ := KP.out wi HBr.out
          have hd1 : decide (vl < 1) = false := decide_eq_false hv1
          have hv2 : ¬ vl ≤ 0 := by omega
          go_wp2_with fail
          clear e1 z0 z1 z2 hd1 hv2
          go_loopw [12, 13] (fun bv mv wy => ∃ (m : Nat), mv = .int .i64 m ∧ m ≤ q.moves.length ∧ bv = .int .i64 ((q.moves.take m).foldl (q.bestF (p, x, y)) 0) ∧ Hid (Below wz.heap.size wz wy)) (fun _ mv _ => q.moves.length - (intOf mv).toNat)
          case atStart => exact ⟨0, rfl, Nat.zero_le _, rfl, HBr⟩
          case round =>
            obtain ⟨m, rfl, hm, rfl, HBy⟩ := hrel
            rename World => wy
            have hbr := best_range (o := q) (p, x, y) (q.moves.take m) 0 (by omega) (by omega)
            by_cases hltm : m < q.moves.length
            · obtain ⟨g3, rfl, -⟩ := mv_at (HO.out wy HBy.out).moves m hltm
              have HTM := hid (fold_take (q.bestF (p, x, y)) 0 q.moves (0, 0, 0, 0) m hltm)
              have hrm := mvAt_ok HOK.out hltm
              have HMV : Hid (∀ w', Below wz.heap.size wz w' → w'.cell? ⟨g3, m * 4, none⟩ = some (.int .i64 (mvAt q.moves m).1) ∧ w'.cell? ⟨g3, m * 4 + 1, none⟩ = some (.int .i64 (mvAt q.moves m).2.1) ∧ w'.cell? ⟨g3, m * 4 + 2, none⟩ = some (.int .i64 (mvAt q.moves m).2.2.1) ∧ w'.cell? ⟨g3, m * 4 + 3, none⟩ = some (.int .i64 (mvAt q.moves m).2.2.2)) := fun w' hb => by
                obtain ⟨g', hg', _, h⟩ := mv_at (HO.out w' hb).moves m hltm
                cases hg'
                exact h
              change Hid (_ = q.bestF (p, x, y) _ (mvAt q.moves m)) at HTM
              generalize mvAt q.moves m = mt at *
              obtain ⟨f, t, mx, my⟩ := mt
              dsimp only at HMV hrm
              obtain ⟨bo, hbo⟩ : ∃ bo, bo = (q.moves.take m).foldl (q.bestF (p, x, y)) 0 := ⟨_, rfl⟩
              rw [← hbo] at HTM hbr ⊢
              have HRM := hid hrm
              clear hbo hrm
              obtain ⟨hb0, hb1⟩ := hbr
              have KEEP23 : Hid (∀ w', Below wz.heap.size wz w' → w'.cell? ⟨X, 0, none⟩ = some (.slice a1 q.safe.length c1) ∧ w'.cell? ⟨X, 1, none⟩ = some (.slice (some ⟨g3, 0, none⟩) q.moves.length c2) ∧ w'.cell? ⟨X, 2, none⟩ = some (.slice a3 q.jolts.length c3) ∧ w'.cell? ⟨g3, m * 4, none⟩ = some (.int .i64 f) ∧ w'.cell? ⟨g3, m * 4 + 1, none⟩ = some (.int .i64 t) ∧ w'.cell? ⟨g3, m * 4 + 2, none⟩ = some (.int .i64 mx) ∧ w'.cell? ⟨g3, m * 4 + 3, none⟩ = some (.int .i64 my) ∧ w'.cell? ⟨g, i * 3, none⟩ = some (.int .i64 p) ∧ w'.cell? ⟨g, i * 3 + 1, none⟩ = some (.int .i64 x) ∧ w'.cell? ⟨g, i * 3 + 2, none⟩ = some (.int .i64 y)) := fun w' hb => by
                obtain ⟨e0, e1, e2⟩ := KP.out w' hb
                obtain ⟨f0, f1, f2, f3⟩ := HMV.out w' hb
                obtain ⟨d0, d1, d2⟩ := HCL.out w' hb
                exact ⟨e0, e1, e2, f0, f1, f2, f3, d0, d1, d2⟩
              obtain ⟨z0, z1, z2, -⟩ := KEEP23.out wy HBy.out
              go_upto_region 23 with fail
              clear z0 z1 z2
              by_cases hfp : f = p
              · replace hfp := hfp.symm
                subst hfp
                refine wp_region_held_drew (S := fun w' => w'.cell? ⟨X, 0, none⟩ = some (.slice a1 q.safe.length c1) ∧ w'.cell? ⟨X, 1, none⟩ = some (.slice (some ⟨g3, 0, none⟩) q.moves.length c2) ∧ w'.cell? ⟨X, 2, none⟩ = some (.slice a3 q.jolts.length c3) ∧ w'.cell? ⟨g3, m * 4, none⟩ = some (.int .i64 p) ∧ w'.cell? ⟨g3, m * 4 + 1, none⟩ = some (.int .i64 t) ∧ w'.cell? ⟨g3, m * 4 + 2, none⟩ = some (.int .i64 mx) ∧ w'.cell? ⟨g3, m * 4 + 3, none⟩ = some (.int .i64 my) ∧ w'.cell? ⟨g, i * 3, none⟩ = some (.int .i64 p) ∧ w'.cell? ⟨g, i * 3 + 1, none⟩ = some (.int .i64 x) ∧ w'.cell? ⟨g, i * 3 + 2, none⟩ = some (.int .i64 y)) (by kernel_rfl) (KEEP23.out wy HBy.out) (fun hHeld => ?_)
                refine take_at (i := 0) 113 (v := .pointer (some ⟨X, 1, none⟩)) rfl (by kernel_rfl) (by kernel_rfl) (by kernel_rfl) rfl (fun _ _ _ h => h) (by rfl) (fun w hSw => ?_) hHeld ?_
                · (try dsimp only at hSw); go_simp
                simp only [Act.put, List.setIfInBounds_toArray, List.set_cons_zero, List.set_cons_succ]
                refine take_at (i := 1) 114 (v := .slice (some ⟨g3, 0, none⟩) q.moves.length c2) rfl (by kernel_rfl) (by kernel_rfl) (by kernel_rfl) rfl (fun _ _ _ h => h) (by rfl) (fun w hSw => ?_) hHeld ?_
                · (try dsimp only at hSw); go_simp
                simp only [Act.put, List.setIfInBounds_toArray, List.set_cons_zero, List.set_cons_succ]
                refine take_at (i := 2) 115 (v := .int .i64 m) rfl (by kernel_rfl) (by kernel_rfl) (by kernel_rfl) rfl (fun _ _ _ h => h) (by rfl) (fun w hSw => ?_) hHeld ?_
                · (try dsimp only at hSw); go_simp
                simp only [Act.put, List.setIfInBounds_toArray, List.set_cons_zero, List.set_cons_succ]
                refine take_at (i := 3) 116 (v := .pointer (some ⟨g3, m * 4, none⟩)) rfl (by kernel_rfl) (by kernel_rfl) (by kernel_rfl) rfl (fun _ _ _ h => h) (by rfl) (fun w hSw => ?_) hHeld ?_
                · (try dsimp only at hSw); go_simp
                simp only [Act.put, List.setIfInBounds_toArray, List.set_cons_zero, List.set_cons_succ]
                refine take_at (i := 4) 117 (v := .pointer (some ⟨g3, m * 4, none⟩)) rfl (by kernel_rfl) (by kernel_rfl) (by kernel_rfl) rfl (fun _ _ _ h => h) (by rfl) (fun w hSw => ?_) hHeld ?_
                · (try dsimp only at hSw); go_simp
                simp only [Act.put, List.setIfInBounds_toArray, List.set_cons_zero, List.set_cons_succ]
                refine take_at (i := 5) 118 (v := .int .i64 p) rfl (by kernel_rfl) (by kernel_rfl) (by kernel_rfl) rfl (fun _ _ _ h => h) (by rfl) (fun w hSw => ?_) hHeld ?_
                · (try dsimp only at hSw); go_simp
                simp only [Act.put, List.setIfInBounds_toArray, List.set_cons_zero, List.set_cons_succ]
                refine take_at (i := 6) 119 (v := .slice (some ⟨g, 0, none⟩) n l2) rfl (by kernel_rfl) (by kernel_rfl) (by kernel_rfl) rfl (fun _ _ _ h => h) (by rfl) (fun w hSw => ?_) hHeld ?_
                · (try dsimp only at hSw); go_simp
                simp only [Act.put, List.setIfInBounds_toArray, List.set_cons_zero, List.set_cons_succ]
                refine take_at (i := 7) 120 (v := .int .i64 i) rfl (by kernel_rfl) (by kernel_rfl) (by kernel_rfl) rfl (fun _ _ _ h => h) (by rfl) (fun w hSw => ?_) hHeld ?_
                · (try dsimp only at hSw); go_simp
                simp only [Act.put, List.setIfInBounds_toArray, List.set_cons_zero, List.set_cons_succ]
                refine take_at (i := 8) 121 (v := .pointer (some ⟨g, i * 3, none⟩)) rfl (by kernel_rfl) (by kernel_rfl) (by kernel_rfl) rfl (fun _ _ _ h => h) (by rfl) (fun w hSw => ?_) hHeld ?_
                · (try dsimp only at hSw); go_simp
                simp only [Act.put, List.setIfInBounds_toArray, List.set_cons_zero, List.set_cons_succ]
                refine take_at (i := 9) 122 (v := .pointer (some ⟨g, i * 3, none⟩)) rfl (by kernel_rfl) (by kernel_rfl) (by kernel_rfl) rfl (fun _ _ _ h => h) (by rfl) (fun w hSw => ?_) hHeld ?_
                · (try dsimp only at hSw); go_simp
                simp only [Act.put, List.setIfInBounds_toArray, List.set_cons_zero, List.set_cons_succ]
                refine take_at (i := 10) 123 (v := .int .i64 p) rfl (by kernel_rfl) (by kernel_rfl) (by kernel_rfl) rfl (fun _ _ _ h => h) (by rfl) (fun w hSw => ?_) hHeld ?_
                · (try dsimp only at hSw); go_simp
                simp only [Act.put, List.setIfInBounds_toArray, List.set_cons_zero, List.set_cons_succ]
                refine take_at (i := 11) 124 (v := .bool false) rfl (by kernel_rfl) (by kernel_rfl) (by kernel_rfl) rfl (fun _ _ _ h => h) (by rfl) (fun w hSw => ?_) hHeld ?_
                · (try dsimp only at hSw); go_simp
                simp only [Act.put, List.setIfInBounds_toArray, List.set_cons_zero, List.set_cons_succ]
                refine wpAnyH_done (by kernel_rfl) ?_ _
                clear hHeld
                obtain ⟨z0, z1, z2, -⟩ := KEEP23.out wy HBy.out
                go_wp2_with fail
                clear z0 z1 z2
                go_loopw [14, 15] (fun wv jv wx => ∃ (j : Nat), jv = .int .i64 j ∧ j ≤ q.jolts.length ∧ wv = .int .i64 ((q.jolts.take j).foldl (q.worstF (p, x, y) (p, t, mx, my)) 1000000) ∧ Hid (Below wz.heap.size wz wx)) (fun _ jv _ => q.jolts.length - (intOf jv).toNat)
                case atStart => exact ⟨0, rfl, Nat.zero_le _, rfl, HBy.out.drew⟩
                case round =>
                  obtain ⟨j, rfl, hj, rfl, HBx⟩ := hrel
                  rename World => wx
                  have hwr := worst_range (o := q) (p, x, y) (p, t, mx, my) (q.jolts.take j) 1000000 (by omega) (by omega)
                  by_cases hltj : j < q.jolts.length
                  · obtain ⟨g4, rfl, -⟩ := jl_at (HO.out wx HBx.out).jolts j hltj
                    have HTJ := hid (fold_take (q.worstF (p, x, y) (p, t, mx, my)) 1000000 q.jolts (0, 0) j hltj)
                    have hrj := jlAt_ok HOK.out hltj
                    have HJV : Hid (∀ w', Below wz.heap.size wz w' → w'.cell? ⟨g4, j * 2, none⟩ = some (.int .i64 (jlAt q.jolts j).1) ∧ w'.cell? ⟨g4, j * 2 + 1, none⟩ = some (.int .i64 (jlAt q.jolts j).2)) := fun w' hb => by
                      obtain ⟨g', hg', _, h⟩ := jl_at (HO.out w' hb).jolts j hltj
                      cases hg'
                      exact h
                    change Hid (_ = q.worstF (p, x, y) (p, t, mx, my) _ (jlAt q.jolts j)) at HTJ
                    generalize jlAt q.jolts j = jt at *
                    obtain ⟨jx, jy⟩ := jt
                    dsimp only at HJV hrj
                    obtain ⟨wo, hwo⟩ : ∃ wo, wo = (q.jolts.take j).foldl (q.worstF (p, x, y) (p, t, mx, my)) 1000000 := ⟨_, rfl⟩
                    rw [← hwo] at HTJ hwr ⊢
                    clear hwo
                    obtain ⟨hw0, hw1⟩ := hwr
                    obtain ⟨dd, hdd⟩ : ∃ dd, dd = stepOf (p, x, y) (p, t, mx, my) (jx, jy) := ⟨_, rfl⟩
                    obtain ⟨dp, dx, dy⟩ := dd
                    obtain ⟨exb, hexb⟩ : ∃ exb, exb = q.ex (dp, dx, dy) := ⟨_, rfl⟩
                    have STEP : Hid (∀ w', Below wx.heap.size wx w' → Calls Tryd.prog 30 #[.agg #[.slice a1 q.safe.length c1, .slice (some ⟨g3, 0, none⟩) q.moves.length c2, .slice (some ⟨g4, 0, none⟩) q.jolts.length c3], .agg #[.int .i64 p, .int .i64 x, .int .i64 y], .agg #[.int .i64 p, .int .i64 t, .int .i64 mx, .int .i64 my], .agg #[.int .i64 jx, .int .i64 jy]] w' fun e w'' => e = .returned (.tuple #[.agg #[.int .i64 dp, .int .i64 dx, .int .i64 dy], .bool exb]) ∧ Below w'.heap.size w' w'') := fun w' hb => by
                      have h := rStep_any _ _ _ q (p, x, y) (p, t, mx, my) (jx, jy) w' (HO.out w' (HBx.out.trans (hb.mono HBx.out.size))) (dim_of_ok HOK.out) (inR_ex HOK.out HEX.out) HRM.out hrj
                      rw [← hdd, ← hexb] at h
                      exact h
                    have HDX : Hid (q.ex (dp, dx, dy) = exb) := hexb.symm
                    have HWF : Hid (q.worstF (p, x, y) (p, t, mx, my) wo (jx, jy) = if 0 ≤ q.valD (dp, dx, dy) then min wo (q.valD (dp, dx, dy)) else wo) := by unfold Ov.worstF; rw [← hdd]; exact rfl
                    have KEEP28 : Hid (∀ w', Below wx.heap.size wx w' → w'.cell? ⟨X, 0, none⟩ = some (.slice a1 q.safe.length c1) ∧ w'.cell? ⟨X, 1, none⟩ = some (.slice (some ⟨g3, 0, none⟩) q.moves.length c2) ∧ w'.cell? ⟨X, 2, none⟩ = some (.slice (some ⟨g4, 0, none⟩) q.jolts.length c3) ∧ w'.cell? ⟨g3, m * 4, none⟩ = some (.int .i64 p) ∧ w'.cell? ⟨g3, m * 4 + 1, none⟩ = some (.int .i64 t) ∧ w'.cell? ⟨g3, m * 4 + 2, none⟩ = some (.int .i64 mx) ∧ w'.cell? ⟨g3, m * 4 + 3, none⟩ = some (.int .i64 my) ∧ w'.cell? ⟨g4, j * 2, none⟩ = some (.int .i64 jx) ∧ w'.cell? ⟨g4, j * 2 + 1, none⟩ = some (.int .i64 jy) ∧ w'.cell? ⟨g, i * 3, none⟩ = some (.int .i64 p) ∧ w'.cell? ⟨g, i * 3 + 1, none⟩ = some (.int .i64 x) ∧ w'.cell? ⟨g, i * 3 + 2, none⟩ = some (.int .i64 y) ∧ Hid (Below wx.heap.size wx w')) := fun w' hb => by
                      have hb' := HBx.out.trans (hb.mono HBx.out.size)
                      obtain ⟨e0, e1, e2⟩ := KP.out w' hb'
                      obtain ⟨f0, f1, f2, f3⟩ := HMV.out w' hb'
                      obtain ⟨c0, c1⟩ := HJV.out w' hb'
                      obtain ⟨d0, d1, d2⟩ := HCL.out w' hb'
                      exact ⟨e0, e1, e2, f0, f1, f2, f3, c0, c1, d0, d1, d2, hb⟩
                    have HV0 : Hid (Below wx.heap.size wx wx.drew) := (Below.refl _ _).drew
                    obtain ⟨z0, z1, z2, -⟩ := KEEP28.out wx (Below.refl _ _)
                    clear hdd hexb hrj
                    go_upto_region 28 with fail
                    clear z0 z1 z2
                    refine wp_region_held_drew (S := fun w' => w'.cell? ⟨X, 0, none⟩ = some (.slice a1 q.safe.length c1) ∧ w'.cell? ⟨X, 1, none⟩ = some (.slice (some ⟨g3, 0, none⟩) q.moves.length c2) ∧ w'.cell? ⟨X, 2, none⟩ = some (.slice (some ⟨g4, 0, none⟩) q.jolts.length c3) ∧ w'.cell? ⟨g3, m * 4, none⟩ = some (.int .i64 p) ∧ w'.cell? ⟨g3, m * 4 + 1, none⟩ = some (.int .i64 t) ∧ w'.cell? ⟨g3, m * 4 + 2, none⟩ = some (.int .i64 mx) ∧ w'.cell? ⟨g3, m * 4 + 3, none⟩ = some (.int .i64 my) ∧ w'.cell? ⟨g4, j * 2, none⟩ = some (.int .i64 jx) ∧ w'.cell? ⟨g4, j * 2 + 1, none⟩ = some (.int .i64 jy) ∧ w'.cell? ⟨g, i * 3, none⟩ = some (.int .i64 p) ∧ w'.cell? ⟨g, i * 3 + 1, none⟩ = some (.int .i64 x) ∧ w'.cell? ⟨g, i * 3 + 2, none⟩ = some (.int .i64 y) ∧ Hid (Below wx.heap.size wx w')) (by kernel_rfl) (KEEP28.out _ HV0.out) (fun hHeld => ?_)
                    generalize wx.drew = v0 at *
                    refine take_at (i := 0) 133 (v := .agg #[.slice a1 q.safe.length c1, .slice (some ⟨g3, 0, none⟩) q.moves.length c2, .slice (some ⟨g4, 0, none⟩) q.jolts.length c3]) rfl (by kernel_rfl) (by kernel_rfl) (by kernel_rfl) rfl (fun _ _ _ h => h) (by rfl) (fun w hSw => ?_) hHeld ?_
                    · (try dsimp only at hSw); go_simp
                    simp only [Act.put, List.setIfInBounds_toArray, List.set_cons_zero, List.set_cons_succ]
                    refine take_at (i := 1) 134 (v := .slice (some ⟨g, 0, none⟩) n l2) rfl (by kernel_rfl) (by kernel_rfl) (by kernel_rfl) rfl (fun _ _ _ h => h) (by rfl) (fun w hSw => ?_) hHeld ?_
                    · (try dsimp only at hSw); go_simp
                    simp only [Act.put, List.setIfInBounds_toArray, List.set_cons_zero, List.set_cons_succ]
                    refine take_at (i := 2) 135 (v := .int .i64 i) rfl (by kernel_rfl) (by kernel_rfl) (by kernel_rfl) rfl (fun _ _ _ h => h) (by rfl) (fun w hSw => ?_) hHeld ?_
                    · (try dsimp only at hSw); go_simp
                    simp only [Act.put, List.setIfInBounds_toArray, List.set_cons_zero, List.set_cons_succ]
                    refine take_at (i := 3) 136 (v := .pointer (some ⟨g, i * 3, none⟩)) rfl (by kernel_rfl) (by kernel_rfl) (by kernel_rfl) rfl (fun _ _ _ h => h) (by rfl) (fun w hSw => ?_) hHeld ?_
                    · (try dsimp only at hSw); go_simp
                    simp only [Act.put, List.setIfInBounds_toArray, List.set_cons_zero, List.set_cons_succ]
                    refine take_at (i := 4) 137 (v := .agg #[.int .i64 p, .int .i64 x, .int .i64 y]) rfl (by kernel_rfl) (by kernel_rfl) (by kernel_rfl) rfl (fun _ _ _ h => h) (by rfl) (fun w hSw => ?_) hHeld ?_
                    · (try dsimp only at hSw); go_simp
                    simp only [Act.put, List.setIfInBounds_toArray, List.set_cons_zero, List.set_cons_succ]
                    refine take_at (i := 5) 138 (v := .pointer (some ⟨X, 1, none⟩)) rfl (by kernel_rfl) (by kernel_rfl) (by kernel_rfl) rfl (fun _ _ _ h => h) (by rfl) (fun w hSw => ?_) hHeld ?_
                    · (try dsimp only at hSw); go_simp
                    simp only [Act.put, List.setIfInBounds_toArray, List.set_cons_zero, List.set_cons_succ]
                    refine take_at (i := 6) 139 (v := .slice (some ⟨g3, 0, none⟩) q.moves.length c2) rfl (by kernel_rfl) (by kernel_rfl) (by kernel_rfl) rfl (fun _ _ _ h => h) (by rfl) (fun w hSw => ?_) hHeld ?_
                    · (try dsimp only at hSw); go_simp
                    simp only [Act.put, List.setIfInBounds_toArray, List.set_cons_zero, List.set_cons_succ]
                    refine take_at (i := 7) 140 (v := .int .i64 m) rfl (by kernel_rfl) (by kernel_rfl) (by kernel_rfl) rfl (fun _ _ _ h => h) (by rfl) (fun w hSw => ?_) hHeld ?_
                    · (try dsimp only at hSw); go_simp
                    simp only [Act.put, List.setIfInBounds_toArray, List.set_cons_zero, List.set_cons_succ]
                    refine take_at (i := 8) 141 (v := .pointer (some ⟨g3, m * 4, none⟩)) rfl (by kernel_rfl) (by kernel_rfl) (by kernel_rfl) rfl (fun _ _ _ h => h) (by rfl) (fun w hSw => ?_) hHeld ?_
                    · (try dsimp only at hSw); go_simp
                    simp only [Act.put, List.setIfInBounds_toArray, List.set_cons_zero, List.set_cons_succ]
                    refine take_at (i := 9) 142 (v := .agg #[.int .i64 p, .int .i64 t, .int .i64 mx, .int .i64 my]) rfl (by kernel_rfl) (by kernel_rfl) (by kernel_rfl) rfl (fun _ _ _ h => h) (by rfl) (fun w hSw => ?_) hHeld ?_
                    · (try dsimp only at hSw); go_simp
                    simp only [Act.put, List.setIfInBounds_toArray, List.set_cons_zero, List.set_cons_succ]
                    refine take_at (i := 10) 143 (v := .pointer (some ⟨X, 2, none⟩)) rfl (by kernel_rfl) (by kernel_rfl) (by kernel_rfl) rfl (fun _ _ _ h => h) (by rfl) (fun w hSw => ?_) hHeld ?_
                    · (try dsimp only at hSw); go_simp
                    simp only [Act.put, List.setIfInBounds_toArray, List.set_cons_zero, List.set_cons_succ]
                    refine take_at (i := 11) 144 (v := .slice (some ⟨g4, 0, none⟩) q.jolts.length c3) rfl (by kernel_rfl) (by kernel_rfl) (by kernel_rfl) rfl (fun _ _ _ h => h) (by rfl) (fun w hSw => ?_) hHeld ?_
                    · (try dsimp only at hSw); go_simp
                    simp only [Act.put, List.setIfInBounds_toArray, List.set_cons_zero, List.set_cons_succ]
                    refine take_at (i := 12) 145 (v := .int .i64 j) rfl (by kernel_rfl) (by kernel_rfl) (by kernel_rfl) rfl (fun _ _ _ h => h) (by rfl) (fun w hSw => ?_) hHeld ?_
                    · (try dsimp only at hSw); go_simp
                    simp only [Act.put, List.setIfInBounds_toArray, List.set_cons_zero, List.set_cons_succ]
                    refine take_at (i := 13) 146 (v := .pointer (some ⟨g4, j * 2, none⟩)) rfl (by kernel_rfl) (by kernel_rfl) (by kernel_rfl) rfl (fun _ _ _ h => h) (by rfl) (fun w hSw => ?_) hHeld ?_
                    · (try dsimp only at hSw); go_simp
                    simp only [Act.put, List.setIfInBounds_toArray, List.set_cons_zero, List.set_cons_succ]
                    refine take_at (i := 14) 147 (v := .agg #[.int .i64 jx, .int .i64 jy]) rfl (by kernel_rfl) (by kernel_rfl) (by kernel_rfl) rfl (fun _ _ _ h => h) (by rfl) (fun w hSw => ?_) hHeld ?_
                    · (try dsimp only at hSw); go_simp
                    simp only [Act.put, List.setIfInBounds_toArray, List.set_cons_zero, List.set_cons_succ]
                    refine wpAnyH_ready (rs := [15, 19]) (by kernel_rfl) (by simp) ?_
                    refine node_f30 148 133 137 142 147 _ _ _ _ rfl (by rfl) rfl rfl rfl rfl rfl rfl ((STEP.out _ HV0.out).mono ?_) ?_
                    · rintro e v1 ⟨rfl, hb1⟩
                      have HR1 := hid (below_step HV0.out hb1)
                      have hHeld := KEEP28.out _ HR1.out
                      refine ⟨_, rfl, hHeld, ?_⟩
                      clear hb1
                      simp only [Act.put, List.setIfInBounds_toArray, List.set_cons_zero, List.set_cons_succ]
                      refine take_at (i := 16) 132 (v := .tuple #[.agg #[.int .i64 dp, .int .i64 dx, .int .i64 dy], .bool exb]) rfl (by kernel_rfl) (by kernel_rfl) (by kernel_rfl) rfl (fun _ _ _ h => h) (by rfl) (fun w hSw => ?_) hHeld ?_
                      · (try dsimp only at hSw); go_simp
                      simp only [Act.put, List.setIfInBounds_toArray, List.set_cons_zero, List.set_cons_succ]
                      refine take_at (i := 17) 149 (v := .agg #[.int .i64 dp, .int .i64 dx, .int .i64 dy]) rfl (by kernel_rfl) (by kernel_rfl) (by kernel_rfl) rfl (fun _ _ _ h => h) (by rfl) (fun w hSw => ?_) hHeld ?_
                      · (try dsimp only at hSw); go_simp
                      simp only [Act.put, List.setIfInBounds_toArray, List.set_cons_zero, List.set_cons_succ]
                      refine take_at (i := 18) 150 (v := .bool exb) rfl (by kernel_rfl) (by kernel_rfl) (by kernel_rfl) rfl (fun _ _ _ h => h) (by rfl) (fun w hSw => ?_) hHeld ?_
                      · (try dsimp only at hSw); go_simp
                      simp only [Act.put, List.setIfInBounds_toArray, List.set_cons_zero, List.set_cons_succ]
                      refine wpAnyH_ready (rs := [19]) (by kernel_rfl) (by simp) ?_
                      refine node_alloc28 16 rfl rfl rfl rfl (KEEP28.out _ (Below.alloc HR1.out (Below.size HR1.out) _)) (fun hHeld => ?_) AllReadyH.nil
                      · have HR2 := hid (Below.alloc HR1.out (Below.size HR1.out) (.cells #[.int .i64 0, .int .i64 0, .int .i64 0] 28))
                        have hz2 := heap_alloc_new v1 (.cells #[.int .i64 0, .int .i64 0, .int .i64 0] 28)
                        have hg2 := HR1.out.size
                        obtain ⟨BX, hBX⟩ : ∃ BX, BX = v1.heap.size := ⟨_, rfl⟩
                        rw [← hBX] at hz2 hg2 ⊢
                        obtain ⟨v2, hv2⟩ : ∃ v, v = v1.alloc (.cells #[.int .i64 0, .int .i64 0, .int .i64 0] 28) := ⟨_, rfl⟩
                        rw [← hv2] at hz2 HR2 ⊢
                        have HGX := hid hg2
                        replace hHeld := KEEP28.out _ HR2.out
                        clear hBX hv2 hg2
                        simp only [Act.put, List.setIfInBounds_toArray, List.set_cons_zero, List.set_cons_succ]
                        refine wpAnyH_ready (rs := [20]) (by kernel_rfl) (by simp) ?_
                        refine node_store28 16 149 BX _ _ _ dp dx dy rfl rfl rfl rfl rfl rfl hz2 (KEEP28.out _ (below_store3 HR2.out HGX.out)) ?_ AllReadyH.nil
                        · have HR3 := hid (below_store3 (x := .int .i64 dp) (y := .int .i64 dx) (z := .int .i64 dy) HR2.out HGX.out)
                          have hz3 := store3 (x := .int .i64 dp) (y := .int .i64 dx) (z := .int .i64 dy) hz2
                          obtain ⟨v3, hv3⟩ : ∃ v, v = ((v2.setCell ⟨BX, 0, none⟩ (.int .i64 dp)).setCell ⟨BX, 1, none⟩ (.int .i64 dx)).setCell ⟨BX, 2, none⟩ (.int .i64 dy) := ⟨_, rfl⟩
                          rw [← hv3] at hz3 HR3 ⊢
                          have hHeld := KEEP28.out _ HR3.out
                          clear hv3
                          refine take_at (i := 21) 17 (v := .bool exb) rfl (by kernel_rfl) (by kernel_rfl) (by kernel_rfl) rfl (fun _ _ _ h => h) (by rfl) (fun w hSw => ?_) hHeld ?_
                          · (try dsimp only at hSw); go_simp
                          simp only [Act.put, List.setIfInBounds_toArray, List.set_cons_zero, List.set_cons_succ]
                          refine wpAnyH_done (by kernel_rfl) ?_ _
                          clear hHeld
                          obtain ⟨y0, y1, y2, -⟩ := KEEP28.out v3 HR3.out
                          obtain ⟨u0, u1, u2⟩ := cells3_of hz3
                          have HZX := hid hz3
                          clear hz3
                          cases exb
                          · have HVD : Hid (q.valD (dp, dx, dy) = 0) := valD_no HDX.out
                            rw [HVD.out] at HWF
                            have HWF2 : Hid (q.worstF (p, x, y) (p, t, mx, my) wo (jx, jy) = min wo 0) := by rw [HWF.out]; exact rfl
                            go_wp2_with fail
                            go_roundw
                            case rel => exact ⟨j + 1, by go_num, by omega, by rw [HTJ.out, HWF2.out], below_step HBx.out HR3.out⟩
                            case measure => simp [intOf]; omega
                          · have HVD : Hid (q.valD (dp, dx, dy) = q.valL (dp, dx, dy)) := valD_ex HDX.out
                            obtain ⟨hpl, hpv⟩ := vals_pos q.valL HDX.out
                            have hv4 := (valL_range HOK.out (dp, dx, dy))
                            have AT : Hid (∀ w', Below wz.heap.size wz w' → Calls Tryd.prog 21 #[.agg #[.slice a1 q.safe.length c1, .slice (some ⟨g3, 0, none⟩) q.moves.length c2, .slice (some ⟨g4, 0, none⟩) q.jolts.length c3], .agg #[.int .i64 dp, .int .i64 dx, .int .i64 dy]] w' fun e w'' => e = .returned (.int .i64 (q.pos (dp, dx, dy))) ∧ Below w'.heap.size w' w'') := fun w' hb => rAt_any _ _ _ q (dp, dx, dy) w' (HO.out w' hb) HOK.out HDX.out
                            have hp16 : q.pos (dp, dx, dy) < n := by rw [HN.out]; exact hpl
                            rw [HVD.out] at HWF
                            have HUZ : Hid (Below wz.heap.size wz v3) := below_step HBx.out HR3.out
                            have HLP : Hid (∀ w', Below wz.heap.size wz w' → w'.cell? ⟨g2, q.pos (dp, dx, dy), none⟩ = some (.int .i64 (q.valL (dp, dx, dy)))) := fun w' hb => by
                              obtain ⟨g', hg', h⟩ := ints_at (HLS.out w' hb) (q.pos (dp, dx, dy)) (by rw [List.length_map]; exact hpl)
                              cases hg'
                              rw [hpv] at h
                              exact h
                            have HPP := hid hp16
                            generalize q.valL (dp, dx, dy) = vd at *
                            generalize q.pos (dp, dx, dy) = ps at *
                            clear hpl hpv HVD
                            have HTW := hid (HR3.out.trans (Below.refl _ _))
                            by_cases hneg : 0 ≤ vd
                            all_goals
                              go_upto_region 32 with (first | (go_at_call 21; refine (AT.out _ HUZ.out).mono ?_; rintro e v9 ⟨rfl, hb9⟩; have HUZ9 := hid (below_step HUZ.out hb9); have x9 := HLP.out v9 HUZ9.out; clear hb9) | fail)
                            · have HWF2 : Hid (q.worstF (p, x, y) (p, t, mx, my) wo (jx, jy) = min wo vd) := by rw [HWF.out, if_pos hneg]; exact rfl
                              go_wp2_with fail
                              go_roundw
                              case rel => exact ⟨j + 1, by go_num, by omega, by rw [HTJ.out, HWF2.out], HUZ9.out⟩
                              case measure => simp [intOf]; omega
                            · have HWF2 : Hid (q.worstF (p, x, y) (p, t, mx, my) wo (jx, jy) = wo) := by rw [HWF.out, if_neg (by omega)]; exact rfl
                              go_wp2_with fail
                              go_roundw
                              case rel => exact ⟨j + 1, by go_num, by omega, by rw [HTJ.out, HWF2.out], HUZ9.out⟩
                              case measure => simp [intOf]; omega
                    refine node_alloc28 16 rfl rfl rfl rfl (KEEP28.out _ (Below.alloc HV0.out (Below.size HV0.out) _)) (fun hHeld => ?_) AllReadyH.nil
                    · have HR1 := hid (Below.alloc HV0.out (Below.size HV0.out) (.cells #[.int .i64 0, .int .i64 0, .int .i64 0] 28))
                      have hz1 := heap_alloc_new v0 (.cells #[.int .i64 0, .int .i64 0, .int .i64 0] 28)
                      have hg1 := HV0.out.size
                      obtain ⟨BX, hBX⟩ : ∃ BX, BX = v0.heap.size := ⟨_, rfl⟩
                      rw [← hBX] at hz1 hg1 ⊢
                      obtain ⟨v1, hv1⟩ : ∃ v, v = v0.alloc (.cells #[.int .i64 0, .int .i64 0, .int .i64 0] 28) := ⟨_, rfl⟩
                      rw [← hv1] at hz1 HR1 ⊢
                      have HGX := hid hg1
                      replace hHeld := KEEP28.out _ HR1.out
                      clear hBX hv1 hg1
                      simp only [Act.put, List.setIfInBounds_toArray, List.set_cons_zero, List.set_cons_succ]
                      refine wpAnyH_ready (rs := [15]) (by kernel_rfl) (by simp) ?_
                      refine node_f30 148 133 137 142 147 _ _ _ _ rfl (by rfl) rfl rfl rfl rfl rfl rfl ((STEP.out _ HR1.out).mono ?_) AllReadyH.nil
                      · rintro e v2 ⟨rfl, hb2⟩
                        have HR2 := hid (below_step HR1.out hb2)
                        have hz2 := (hb2.block _ (heap_lt hz1)).trans hz1
                        have hHeld := KEEP28.out _ HR2.out
                        refine ⟨_, rfl, hHeld, ?_⟩
                        clear hb2
                        simp only [Act.put, List.setIfInBounds_toArray, List.set_cons_zero, List.set_cons_succ]
                        refine take_at (i := 16) 132 (v := .tuple #[.agg #[.int .i64 dp, .int .i64 dx, .int .i64 dy], .bool exb]) rfl (by kernel_rfl) (by kernel_rfl) (by kernel_rfl) rfl (fun _ _ _ h => h) (by rfl) (fun w hSw => ?_) hHeld ?_
                        · (try dsimp only at hSw); go_simp
                        simp only [Act.put, List.setIfInBounds_toArray, List.set_cons_zero, List.set_cons_succ]
                        refine take_at (i := 17) 149 (v := .agg #[.int .i64 dp, .int .i64 dx, .int .i64 dy]) rfl (by kernel_rfl) (by kernel_rfl) (by kernel_rfl) rfl (fun _ _ _ h => h) (by rfl) (fun w hSw => ?_) hHeld ?_
                        · (try dsimp only at hSw); go_simp
                        simp only [Act.put, List.setIfInBounds_toArray, List.set_cons_zero, List.set_cons_succ]
                        refine take_at (i := 18) 150 (v := .bool exb) rfl (by kernel_rfl) (by kernel_rfl) (by kernel_rfl) rfl (fun _ _ _ h => h) (by rfl) (fun w hSw => ?_) hHeld ?_
                        · (try dsimp only at hSw); go_simp
                        simp only [Act.put, List.setIfInBounds_toArray, List.set_cons_zero, List.set_cons_succ]
                        refine wpAnyH_ready (rs := [20]) (by kernel_rfl) (by simp) ?_
                        refine node_store28 16 149 BX _ _ _ dp dx dy rfl rfl rfl rfl rfl rfl hz2 (KEEP28.out _ (below_store3 HR2.out HGX.out)) ?_ AllReadyH.nil
                        · have HR3 := hid (below_store3 (x := .int .i64 dp) (y := .int .i64 dx) (z := .int .i64 dy) HR2.out HGX.out)
                          have hz3 := store3 (x := .int .i64 dp) (y := .int .i64 dx) (z := .int .i64 dy) hz2
                          obtain ⟨v3, hv3⟩ : ∃ v, v = ((v2.setCell ⟨BX, 0, none⟩ (.int .i64 dp)).setCell ⟨BX, 1, none⟩ (.int .i64 dx)).setCell ⟨BX, 2, none⟩ (.int .i64 dy) := ⟨_, rfl⟩
                          rw [← hv3] at hz3 HR3 ⊢
                          have hHeld := KEEP28.out _ HR3.out
                          clear hv3
                          refine take_at (i := 21) 17 (v := .bool exb) rfl (by kernel_rfl) (by kernel_rfl) (by kernel_rfl) rfl (fun _ _ _ h => h) (by rfl) (fun w hSw => ?_) hHeld ?_
                          · (try dsimp only at hSw); go_simp
                          simp only [Act.put, List.setIfInBounds_toArray, List.set_cons_zero, List.set_cons_succ]
                          refine wpAnyH_done (by kernel_rfl) ?_ _
                          clear hHeld
                          obtain ⟨y0, y1, y2, -⟩ := KEEP28.out v3 HR3.out
                          obtain ⟨u0, u1, u2⟩ := cells3_of hz3
                          have HZX := hid hz3
                          clear hz3
                          cases exb
                          · have HVD : Hid (q.valD (dp, dx, dy) = 0) := valD_no HDX.out
                            rw [HVD.out] at HWF
                            have HWF2 : Hid (q.worstF (p, x, y) (p, t, mx, my) wo (jx, jy) = min wo 0) := by rw [HWF.out]; exact rfl
                            go_wp2_with fail
                            go_roundw
                            case rel => exact ⟨j + 1, by go_num, by omega, by rw [HTJ.out, HWF2.out], below_step HBx.out HR3.out⟩
                            case measure => simp [intOf]; omega
                          · have HVD : Hid (q.valD (dp, dx, dy) = q.valL (dp, dx, dy)) := valD_ex HDX.out
                            obtain ⟨hpl, hpv⟩ := vals_pos q.valL HDX.out
                            have hv4 := (valL_range HOK.out (dp, dx, dy))
                            have AT : Hid (∀ w', Below wz.heap.size wz w' → Calls Tryd.prog 21 #[.agg #[.slice a1 q.safe.length c1, .slice (some ⟨g3, 0, none⟩) q.moves.length c2, .slice (some ⟨g4, 0, none⟩) q.jolts.length c3], .agg #[.int .i64 dp, .int .i64 dx, .int .i64 dy]] w' fun e w'' => e = .returned (.int .i64 (q.pos (dp, dx, dy))) ∧ Below w'.heap.size w' w'') := fun w' hb => rAt_any _ _ _ q (dp, dx, dy) w' (HO.out w' hb) HOK.out HDX.out
                            have hp16 : q.pos (dp, dx, dy) < n := by rw [HN.out]; exact hpl
                            rw [HVD.out] at HWF
                            have HUZ : Hid (Below wz.heap.size wz v3) := below_step HBx.out HR3.out
                            have HLP : Hid (∀ w', Below wz.heap.size wz w' → w'.cell? ⟨g2, q.pos (dp, dx, dy), none⟩ = some (.int .i64 (q.valL (dp, dx, dy)))) := fun w' hb => by
                              obtain ⟨g', hg', h⟩ := ints_at (HLS.out w' hb) (q.pos (dp, dx, dy)) (by rw [List.length_map]; exact hpl)
                              cases hg'
                              rw [hpv] at h
                              exact h
                            have HPP := hid hp16
                            generalize q.valL (dp, dx, dy) = vd at *
                            generalize q.pos (dp, dx, dy) = ps at *
                            clear hpl hpv HVD
                            have HTW := hid (HR3.out.trans (Below.refl _ _))
                            by_cases hneg : 0 ≤ vd
                            all_goals
                              go_upto_region 32 with (first | (go_at_call 21; refine (AT.out _ HUZ.out).mono ?_; rintro e v9 ⟨rfl, hb9⟩; have HUZ9 := hid (below_step HUZ.out hb9); have x9 := HLP.out v9 HUZ9.out; clear hb9) | fail)
                            · have HWF2 : Hid (q.worstF (p, x, y) (p, t, mx, my) wo (jx, jy) = min wo vd) := by rw [HWF.out, if_pos hneg]; exact rfl
                              go_wp2_with fail
                              go_roundw
                              case rel => exact ⟨j + 1, by go_num, by omega, by rw [HTJ.out, HWF2.out], HUZ9.out⟩
                              case measure => simp [intOf]; omega
                            · have HWF2 : Hid (q.worstF (p, x, y) (p, t, mx, my) wo (jx, jy) = wo) := by rw [HWF.out, if_neg (by omega)]; exact rfl
                              go_wp2_with fail
                              go_roundw
                              case rel => exact ⟨j + 1, by go_num, by omega, by rw [HTJ.out, HWF2.out], HUZ9.out⟩
                              case measure => simp [intOf]; omega
                  · obtain rfl : j = q.jolts.length := by omega
                    rw [List.take_length] at hwr ⊢
                    have HBF : Hid (q.bestF (p, x, y) bo (p, t, mx, my) = max bo (q.jolts.foldl (q.worstF (p, x, y) (p, t, mx, my)) 1000000)) := by unfold Ov.bestF Ov.worst; exact if_pos rfl
                    rw [HBF.out] at HTM
                    generalize q.jolts.foldl (q.worstF (p, x, y) (p, t, mx, my)) 1000000 = wo at *
                    obtain ⟨z0, z1, z2⟩ := KP.out wx HBx.out
                    go_wp2_with fail
                    go_roundw
                    case rel => exact ⟨m + 1, by go_num, by omega, by rw [HTM.out], HBx⟩
                    case measure => simp [intOf]; omega
              · have hne : ¬ f = p := hfp
                have HBF : Hid (q.bestF (p, x, y) bo (f, t, mx, my) = bo) := by unfold Ov.bestF; exact if_neg hfp
                rw [HBF.out] at HTM
                refine wp_region_held_drew (S := fun w' => w'.cell? ⟨X, 0, none⟩ = some (.slice a1 q.safe.length c1) ∧ w'.cell? ⟨X, 1, none⟩ = some (.slice (some ⟨g3, 0, none⟩) q.moves.length c2) ∧ w'.cell? ⟨X, 2, none⟩ = some (.slice a3 q.jolts.length c3) ∧ w'.cell? ⟨g3, m * 4, none⟩ = some (.int .i64 f) ∧ w'.cell? ⟨g3, m * 4 + 1, none⟩ = some (.int .i64 t) ∧ w'.cell? ⟨g3, m * 4 + 2, none⟩ = some (.int .i64 mx) ∧ w'.cell? ⟨g3, m * 4 + 3, none⟩ = some (.int .i64 my) ∧ w'.cell? ⟨g, i * 3, none⟩ = some (.int .i64 p) ∧ w'.cell? ⟨g, i * 3 + 1, none⟩ = some (.int .i64 x) ∧ w'.cell? ⟨g, i * 3 + 2, none⟩ = some (.int .i64 y)) (by kernel_rfl) (KEEP23.out wy HBy.out) (fun hHeld => ?_)
                refine take_at (i := 0) 113 (v := .pointer (some ⟨X, 1, none⟩)) rfl (by kernel_rfl) (by kernel_rfl) (by kernel_rfl) rfl (fun _ _ _ h => h) (by rfl) (fun w hSw => ?_) hHeld ?_
                · (try dsimp only at hSw); go_simp
                simp only [Act.put, List.setIfInBounds_toArray, List.set_cons_zero, List.set_cons_succ]
                refine take_at (i := 1) 114 (v := .slice (some ⟨g3, 0, none⟩) q.moves.length c2) rfl (by kernel_rfl) (by kernel_rfl) (by kernel_rfl) rfl (fun _ _ _ h => h) (by rfl) (fun w hSw => ?_) hHeld ?_
                · (try dsimp only at hSw); go_simp
                simp only [Act.put, List.setIfInBounds_toArray, List.set_cons_zero, List.set_cons_succ]
                refine take_at (i := 2) 115 (v := .int .i64 m) rfl (by kernel_rfl) (by kernel_rfl) (by kernel_rfl) rfl (fun _ _ _ h => h) (by rfl) (fun w hSw => ?_) hHeld ?_
                · (try dsimp only at hSw); go_simp
                simp only [Act.put, List.setIfInBounds_toArray, List.set_cons_zero, List.set_cons_succ]
                refine take_at (i := 3) 116 (v := .pointer (some ⟨g3, m * 4, none⟩)) rfl (by kernel_rfl) (by kernel_rfl) (by kernel_rfl) rfl (fun _ _ _ h => h) (by rfl) (fun w hSw => ?_) hHeld ?_
                · (try dsimp only at hSw); go_simp
                simp only [Act.put, List.setIfInBounds_toArray, List.set_cons_zero, List.set_cons_succ]
                refine take_at (i := 4) 117 (v := .pointer (some ⟨g3, m * 4, none⟩)) rfl (by kernel_rfl) (by kernel_rfl) (by kernel_rfl) rfl (fun _ _ _ h => h) (by rfl) (fun w hSw => ?_) hHeld ?_
                · (try dsimp only at hSw); go_simp
                simp only [Act.put, List.setIfInBounds_toArray, List.set_cons_zero, List.set_cons_succ]
                refine take_at (i := 5) 118 (v := .int .i64 f) rfl (by kernel_rfl) (by kernel_rfl) (by kernel_rfl) rfl (fun _ _ _ h => h) (by rfl) (fun w hSw => ?_) hHeld ?_
                · (try dsimp only at hSw); go_simp
                simp only [Act.put, List.setIfInBounds_toArray, List.set_cons_zero, List.set_cons_succ]
                refine take_at (i := 6) 119 (v := .slice (some ⟨g, 0, none⟩) n l2) rfl (by kernel_rfl) (by kernel_rfl) (by kernel_rfl) rfl (fun _ _ _ h => h) (by rfl) (fun w hSw => ?_) hHeld ?_
                · (try dsimp only at hSw); go_simp
                simp only [Act.put, List.setIfInBounds_toArray, List.set_cons_zero, List.set_cons_succ]
                refine take_at (i := 7) 120 (v := .int .i64 i) rfl (by kernel_rfl) (by kernel_rfl) (by kernel_rfl) rfl (fun _ _ _ h => h) (by rfl) (fun w hSw => ?_) hHeld ?_
                · (try dsimp only at hSw); go_simp
                simp only [Act.put, List.setIfInBounds_toArray, List.set_cons_zero, List.set_cons_succ]
                refine take_at (i := 8) 121 (v := .pointer (some ⟨g, i * 3, none⟩)) rfl (by kernel_rfl) (by kernel_rfl) (by kernel_rfl) rfl (fun _ _ _ h => h) (by rfl) (fun w hSw => ?_) hHeld ?_
                · (try dsimp only at hSw); go_simp
                simp only [Act.put, List.setIfInBounds_toArray, List.set_cons_zero, List.set_cons_succ]
                refine take_at (i := 9) 122 (v := .pointer (some ⟨g, i * 3, none⟩)) rfl (by kernel_rfl) (by kernel_rfl) (by kernel_rfl) rfl (fun _ _ _ h => h) (by rfl) (fun w hSw => ?_) hHeld ?_
                · (try dsimp only at hSw); go_simp
                simp only [Act.put, List.setIfInBounds_toArray, List.set_cons_zero, List.set_cons_succ]
                refine take_at (i := 10) 123 (v := .int .i64 p) rfl (by kernel_rfl) (by kernel_rfl) (by kernel_rfl) rfl (fun _ _ _ h => h) (by rfl) (fun w hSw => ?_) hHeld ?_
                · (try dsimp only at hSw); go_simp
                simp only [Act.put, List.setIfInBounds_toArray, List.set_cons_zero, List.set_cons_succ]
                refine take_at (i := 11) 124 (v := .bool true) rfl (by kernel_rfl) (by kernel_rfl) (by kernel_rfl) rfl (fun _ _ _ h => h) (by rfl) (fun w hSw => ?_) hHeld ?_
                · (try dsimp only at hSw); go_simp
                simp only [Act.put, List.setIfInBounds_toArray, List.set_cons_zero, List.set_cons_succ]
                refine wpAnyH_done (by kernel_rfl) ?_ _
                clear hHeld
                go_wp2_with fail
                go_roundw
                case rel => exact ⟨m + 1, by go_num, by omega, by rw [HTM.out], HBy.out.drew⟩
                case measure => simp [intOf]; omega
            · obtain rfl : m = q.moves.length := by omega
              rw [List.take_length] at hbr ⊢
              change 0 ≤ q.best (p, x, y) ∧ q.best (p, x, y) ≤ 1000000 at hbr
              change Hid _ at hbest
              have hbq : (q.moves.foldl (q.bestF (p, x, y)) 0) = q.best (p, x, y) := rfl
              rw [hbq]
              have hb5 := hbest.out
              clear hbq
              generalize q.best (p, x, y) = bq at *
              obtain ⟨z0, z1, z2⟩ := KP.out wy HBy.out
              have e1 := HLI.out wy HBy.out
              subst hb5
              go_wp2_with fail
              go_roundw
              case rel => exact ⟨i + 1, by go_num, by omega, HBy⟩
              case measure => simp [intOf]; omega
      · obtain rfl : i = n := by omega
        go_wp2_with fail
        go_ret
        exact ⟨rfl, FIN.out _ HBr.out⟩
end Go.Proofs.YtjonbhimbhidpaaDoor
