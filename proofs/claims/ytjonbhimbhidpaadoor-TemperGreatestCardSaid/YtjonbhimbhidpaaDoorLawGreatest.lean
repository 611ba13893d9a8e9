/-
  The law TemperGreatest of chapter 6: its contract.
-/
import Derived.Test.YtjonbhimbhidpaaDoorBaseV
namespace Go.Proofs.YtjonbhimbhidpaaDoor
open Go.RowKit
set_option maxHeartbeats 8000000 in
set_option maxRecDepth 100000 in
theorem TemperGreatest_ok (ph ro wi : Int) (ca : Option Addr) (cn cc : Nat) (ma : Option Addr) (mn mc : Nat) (ja : Option Addr) (jn jc : Nat) (ya : Option Addr) (yn yc : Nat) (w : World) (hk : ArgKiln w ph ro wi ca cn cc ma mn mc ja jn jc) (hy : ArgB8 w ya yn) :
    Calls Tryd.prog 9 #[.agg #[.int .u8 ph, .int .u8 ro, .int .u8 wi, .slice ca cn cc, .slice ma mn mc, .slice ja jn jc], .slice ya yn yc] w fun e w' => e = .returned (.bool true) ∧ Below w.heap.size w w' := by
  have hb3 : Below w.heap.size w (w.alloc (.cells #[.int .u8 ph, .int .u8 ro, .int .u8 wi, .slice ca cn cc, .slice ma mn mc, .slice ja jn jc] 45)) := (Below.refl _ _).alloc (Nat.le_refl _) _
  have HB3 := hid hb3
  have HK3 := hid (argKiln_below hk hb3)
  have HY := hid hy
  clear hy
  clear hb3 hk
  go_enter Tryd.func9, Tryd.ntmps9
  go_upto_region 2 with (first | (go_at_call 24; refine (made_ov (w0 := w) HB3.out HK3.out).mono ?_; rintro e w4 ⟨q, a1, c1, a2, c2, a3, c3, rfl, hok, hva, hml, how, hb4⟩; have HOK := hid hok; have HVA := hid hva; have HML := hid hml; have HOW := hid how; have HB34 := hid hb4; clear hok hva hml how hb4) | fail)
  obtain ⟨X, hX⟩ : ∃ X, X = w4.heap.size := ⟨_, rfl⟩
  obtain ⟨W, hW⟩ : ∃ W, W = (w4.alloc (.cells #[.slice a1 q.safe.length c1, .slice a2 q.moves.length c2, .slice a3 q.jolts.length c3] 26)) := ⟨_, rfl⟩
  rw [← hX, ← hW]
  have h4W : Below w4.heap.size w4 W := by rw [hW]; exact (Below.refl _ _).alloc (Nat.le_refl _) _
  have hxw : W.heap[X]? = some (.cells #[.slice a1 q.safe.length c1, .slice a2 q.moves.length c2, .slice a3 q.jolts.length c3] 26) := by rw [hW, hX]; exact heap_alloc_new _ _
  have KP : Hid (∀ w', Below W.heap.size W w' → w'.cell? ⟨X, 0, none⟩ = some (.slice a1 q.safe.length c1) ∧ w'.cell? ⟨X, 1, none⟩ = some (.slice a2 q.moves.length c2) ∧ w'.cell? ⟨X, 2, none⟩ = some (.slice a3 q.jolts.length c3)) := by
    intro w' hb
    exact cells3_of ((hb.block X (heap_lt hxw)).trans hxw)
  have HBW : Hid (Below w.heap.size w W) := HB3.out.trans ((HB34.out.trans (h4W.mono HB34.out.size)).mono HB3.out.size)
  have how := HOW.out.below h4W
  have hiv := ownOv_isOv how HOK.out
  have HXW := hid hxw
  have HO : Hid (∀ w', Below W.heap.size W w' → IsOv w' (.slice a1 q.safe.length c1) (.slice a2 q.moves.length c2) (.slice a3 q.jolts.length c3) q) := fun w' hb => isOv_below hiv hb
  have FIN : Hid (∀ w', Below W.heap.size W w' → Below w.heap.size w w') := fun w' hb => HBW.out.trans (hb.mono HBW.out.size)
  clear hX hW h4W hxw how hiv
  obtain ⟨x0, x1, x2⟩ := KP.out W (Below.refl _ _)
  go_upto_region 3 with (first | (go_at_call 25; with_reducible refine (kernel_set _ _ _ q (HO.out _ (by repeat (first | exact Below.refl _ _ | (apply Hid.out; assumption) | refine Below.drew ?_ | refine below_drewN_r ?_ _))) HOK.out).mono ?_; rintro e w5 ⟨g5, n5, d5, rfl, hg5, hb5⟩; have HG5 : Hid (∀ w', Below w5.heap.size w5 w' → IsGrid w' (.slice g5 n5 d5) (Ov.gridOf q (Ov.KK q))) := hid (fun w' hb => isGrid_below hg5 hb); have HB5 : Hid (Below W.heap.size W w5) := hid (below_step (by repeat (first | exact Below.refl _ _ | (apply Hid.out; assumption) | refine Below.drew ?_ | refine below_drewN_r ?_ _)) hb5); clear hb5 hg5; clear x0 x1 x2; obtain ⟨x0, x1, x2⟩ := KP.out _ HB5.out; skip) | fail)
  replace KP : Hid (∀ w', Below w5.heap.size w5 w' → w'.cell? ⟨X, 0, none⟩ = some (.slice a1 q.safe.length c1) ∧ w'.cell? ⟨X, 1, none⟩ = some (.slice a2 q.moves.length c2) ∧ w'.cell? ⟨X, 2, none⟩ = some (.slice a3 q.jolts.length c3)) := fun w' hb => KP.out w' (HB5.out.trans (hb.mono HB5.out.size))
  replace HO : Hid (∀ w', Below w5.heap.size w5 w' → IsOv w' (.slice a1 q.safe.length c1) (.slice a2 q.moves.length c2) (.slice a3 q.jolts.length c3) q) := fun w' hb => HO.out w' (HB5.out.trans (hb.mono HB5.out.size))
  replace FIN : Hid (∀ w', Below w5.heap.size w5 w' → Below w.heap.size w w') := fun w' hb => FIN.out w' (HB5.out.trans (hb.mono HB5.out.size))
  have HC5 : Hid (Below w5.heap.size w5 w5) := Below.refl _ _
  have HF5 : Hid (formB q.P q.R q.C (q.gridOf q.KK) = true) := form_gridOf q q.KK
  go_upto_region 8 with (first
    | (go_at_call 27; with_reducible refine (form_call (HO.out _ (by repeat (first | exact Below.refl _ _ | (apply Hid.out; assumption) | refine Below.drew ?_ | refine below_drewN_r ?_ _))) HOK.out (HG5.out _ (by repeat (first | exact Below.refl _ _ | (apply Hid.out; assumption) | refine Below.drew ?_ | refine below_drewN_r ?_ _))) HF5.out).mono ?_; rintro e w6 ⟨rfl, hb6⟩; have HC6 : Hid (Below w5.heap.size w5 w6) := hid (below_step (by repeat (first | exact Below.refl _ _ | (apply Hid.out; assumption) | refine Below.drew ?_ | refine below_drewN_r ?_ _)) hb6); clear hb6; clear x0 x1 x2; obtain ⟨x0, x1, x2⟩ := KP.out _ HC6.out; skip)
    | (go_at_call 19; with_reducible refine (lives_any _).mono ?_; rintro e w7 ⟨rfl, hb7⟩; have HC7 : Hid (Below w5.heap.size w5 w7) := hid (below_step (by repeat (first | exact Below.refl _ _ | (apply Hid.out; assumption) | refine Below.drew ?_ | refine below_drewN_r ?_ _)) hb7); clear hb7; clear x0 x1 x2; obtain ⟨x0, x1, x2⟩ := KP.out _ HC7.out; skip)
    | (go_at_call 36; with_reducible refine (holds_call (HO.out _ (by repeat (first | exact Below.refl _ _ | (apply Hid.out; assumption) | refine Below.drew ?_ | refine below_drewN_r ?_ _))) HOK.out (HG5.out _ (by repeat (first | exact Below.refl _ _ | (apply Hid.out; assumption) | refine Below.drew ?_ | refine below_drewN_r ?_ _))) HF5.out (holds_KK q)).mono ?_; rintro e w8 ⟨rfl, hb8⟩; have HC8 : Hid (Below w5.heap.size w5 w8) := hid (below_step (by repeat (first | exact Below.refl _ _ | (apply Hid.out; assumption) | refine Below.drew ?_ | refine below_drewN_r ?_ _)) hb8); clear hb8; clear x0 x1 x2; obtain ⟨x0, x1, x2⟩ := KP.out _ HC8.out; skip)
    | fail)
  have hyn := HY.out.1
  unfold maxLen at hyn
  have HYW : Hid (∀ i, i < yn → ∃ ad z, ya = some ad ∧ (∀ w', Below w5.heap.size w5 w' → w'.cell? (ad.add i) = some (.int .u8 z)) ∧ 0 ≤ z ∧ z < 256) := by
    intro i hi
    obtain ⟨ad, z, h1, h2, h3, h4⟩ := HY.out.2 i hi
    exact ⟨ad, z, h1, fun w' hb => ((FIN.out w' hb).cell (p := ad.add i) (by rw [add_block]; exact h2)).trans h3, h4⟩
  have hq4 : q.safe.length ≤ 4 := HOK.out.p.2
  have HM : Hid (OwnG (w8.alloc (.cells #[] 71)) w5.heap.size (.slice (some ⟨w8.heap.size, 0, none⟩) 0 0) []) := ownG_made w8 _ HC8.out.size
  have HC9 : Hid (Below w5.heap.size w5 (w8.alloc (.cells #[] 71))) := HC8.out.alloc HC8.out.size _
  have hxx := KP.out _ HC9.out
  clear x0 x1 x2
  obtain ⟨x0, x1, x2⟩ := hxx
  go_wp2
  clear x0 x1 x2
  go_loopw [10, 11, 12] (fun v kv pv wr => ∃ (k pp : Nat) (g : Grid) (a : Option Addr) (n c : Nat), v = .slice a n c ∧ kv = .int .i64 k ∧ pv = .int .i64 pp ∧ pp ≤ q.safe.length ∧ k ≤ pp * 256 ∧ g.length = pp ∧ Hid (∀ s ∈ g, phaseOk q.R q.C s = true) ∧ Hid (sub3 g q.safe) ∧ Hid (OwnG wr w5.heap.size (.slice a n c) g) ∧ Hid (Below w5.heap.size w5 wr)) (fun _ _ pv _ => q.safe.length - (intOf pv).toNat)
  case atStart => exact ⟨0, 0, [], _, 0, 0, rfl, rfl, rfl, Nat.zero_le _, Nat.zero_le _, rfl, fun s hs => by simp at hs, sub3_nil _, HM, HC9⟩
  case round =>
    obtain ⟨k, pp, g, a, n, c, rfl, rfl, rfl, hpp, hk, hg, HGO, HSU, HT, HBr⟩ := hrel
    rename World => wo
    obtain ⟨x0, x1, x2⟩ := KP.out wo HBr.out
    by_cases hlt : pp < q.safe.length
    · obtain ⟨gb, ua, uc, rfl, hc, hst⟩ := grid_at (HO.out w5 (Below.refl _ _)).safe pp hlt
      obtain ⟨M, hM⟩ : ∃ M, M = (q.safe.getD pp []).length := ⟨_, rfl⟩
      rw [← hM] at hc hst
      have HMM := hid hM
      have G1 : Hid (∀ w', Below w5.heap.size w5 w' → w'.cell? ⟨gb, pp, none⟩ = some (.slice ua M uc)) := fun w' hb => (hb.cell (World.block_lt_of_cell? w5 _ hc)).trans hc
      have HST := hid hst
      have hMR : M = q.R := by
        have h := HOK.out.form
        unfold formB at h
        simp only [Bool.and_eq_true, decide_eq_true_eq, List.all_eq_true] at h
        have e : q.safe.getD pp [] = q.safe[pp] := by simp [hlt]
        have h2 := h.2 _ (List.getElem_mem hlt)
        rw [← e] at h2
        unfold phaseOk at h2
        simp only [Bool.and_eq_true, decide_eq_true_eq] at h2
        rw [hM]; exact h2.1
      have HMR := hid hMR
      have hM16 : M ≤ 16 := by rw [hMR]; exact HOK.out.r.2
      have hms : Below wo.heap.size wo (wo.alloc (.cells #[] 9)) := (Below.refl wo.heap.size wo).alloc (Nat.le_refl _) _
      have HMB := hid hms
      have HM2 : Hid (OwnT (wo.alloc (.cells #[] 9)) wo.heap.size (.slice (some ⟨wo.heap.size, 0, none⟩) 0 0) []) := ownT_made wo _ (Nat.le_refl _)
      obtain ⟨z0, z1, z2⟩ := KP.out _ (HBr.out.trans (hms.mono HBr.out.size))
      have z3 := G1.out _ (HBr.out.trans (hms.mono HBr.out.size))
      clear hM hMR hms hc hst
      go_wp2
      clear z0 z1 z2 z3 x0 x1 x2
      go_loopw [11, 13, 14] (fun kv v yv wy => ∃ (k2 y : Nat) (rows : List Str) (a2 : Option Addr) (m2 c2 : Nat), kv = .int .i64 k2 ∧ v = .slice a2 m2 c2 ∧ yv = .int .i64 y ∧ y ≤ M ∧ k2 ≤ pp * 256 + y * 16 ∧ rows.length = y ∧ Hid (rowsOk q.C rows = true) ∧ Hid (sub2 rows (q.safe.getD pp [])) ∧ Hid (OwnT wy wo.heap.size (.slice a2 m2 c2) rows) ∧ Hid (Below wo.heap.size wo wy)) (fun _ _ yv _ => M - (intOf yv).toNat)
      case atStart => exact ⟨k, 0, [], _, 0, 0, rfl, rfl, rfl, Nat.zero_le _, by omega, rfl, rfl, sub2_nil _, HM2, HMB⟩
      case round =>
        obtain ⟨k2, y, rows, a2, m2, c2, rfl, rfl, rfl, hy, hk2, hrl, HRO, HSR, HTY, HBY⟩ := hrel
        rename World => wy
        have HBW2 : Hid (Below w5.heap.size w5 wy) := HBr.out.trans (HBY.out.mono HBr.out.size)
        obtain ⟨x0, x1, x2⟩ := KP.out wy HBW2.out
        have x3 := G1.out wy HBW2.out
        by_cases hly : y < M
        · have hly' : y < (q.safe.getD pp []).length := by rw [← HMM.out]; exact hly
          obtain ⟨gu, rfl, hcs⟩ := strs_at HST.out y hly'
          obtain ⟨s, hs⟩ : ∃ s, s = (q.safe.getD pp []).getD y [] := ⟨_, rfl⟩
          rw [← hs] at hcs
          have x4 := (HBW2.out.cell (World.block_lt_of_cell? w5 _ hcs)).trans hcs
          have hrow := form_row HOK.out.form pp y hlt (by rw [← HMR.out]; exact hly)
          have hsl : s.length = q.C := by rw [hs]; exact hrow.1
          have HSL := hid hsl
          have hC16 : q.C ≤ 16 := HOK.out.c.2
          have hsz := strB_size s
          have HSZ := hid hsz
          have hs16 : (strB s).size ≤ 16 := by omega
          have HSE := hid hs
          have hlr : rows.length < 1000000 := by omega
          have HLR := hid hlr
          clear hs hcs hrow hly' hlr hC16 hsz hsl
          go_wp2
          go_loopw [11, 15, 16] (fun kv v xv wx => ∃ (k3 x : Nat) (l : Str), kv = .int .i64 k3 ∧ v = .string (strB l) ∧ xv = .int .i64 x ∧ x ≤ (strB s).size ∧ k3 ≤ pp * 256 + y * 16 + x ∧ l.length = x ∧ Hid (l.all dotx = true) ∧ Hid (sub1 l s) ∧ wx = wy) (fun _ _ xv _ => (strB s).size - (intOf xv).toNat)
          case atStart => exact ⟨k2, 0, [], rfl, rfl, rfl, Nat.zero_le _, by omega, rfl, rfl, sub1_nil _, rfl⟩
          case round =>
            obtain ⟨k3, x, l, rfl, rfl, rfl, hx, hk3, hll, HD, HS1, rfl⟩ := hrel
            by_cases hlx : x < (strB s).size
            · have hlx' : x < s.length := by rw [← HSZ.out]; exact hlx
              have d1 := letter_eq s x hlx 46 hlx'
              have HD35 : Hid ((l ++ [35]).all dotx = true) := by show _ = _; rw [List.all_append, HD.out]; rfl
              have HD46 : Hid ((l ++ [46]).all dotx = true) := by show _ = _; rw [List.all_append, HD.out]; rfl
              have HU35 : Hid (sub1 (l ++ [35]) s) := sub1_snoc HS1.out 35 (fun h => absurd h (by decide))
              have HU46 : Hid ((s[x] == 46) = true → sub1 (l ++ [46]) s) := fun hb => sub1_snoc HS1.out 46 (fun _ => by rw [hll, List.getD_eq_getElem?_getD, List.getElem?_eq_getElem hlx']; exact beq_iff_eq.1 hb)
              have hs1 := strB_snoc l 35
              have hs2 := strB_snoc l 46
              have hts := strB_size l
              rw [hll] at hts
              generalize strB l = t at *
              have ht6 : t.size ≤ 16 := by omega
              have HP1 := hid hs1
              have HP2 := hid hs2
              have e46 : (((46 : UInt8).toNat : Nat) : Int) = 46 := rfl
              rw [e46] at d1
              generalize (s[x] == 46) = b1 at *
              clear hs1 hs2 e46 hlx'
              cases b1
              · clear HU46
                go_wp2
                go_roundw
                case rel => exact ⟨k3 + 1, x + 1, l ++ [35], by go_num, by rw [← HP1.out], by go_num, by omega, by omega, by simp [hll], HD35, HU35, trivial⟩
                case measure => simp [intOf]; omega
              · have HU : Hid (sub1 (l ++ [46]) s) := HU46.out rfl
                clear HU46
                by_cases hkc : k3 < yn
                · obtain ⟨ad, z, rfl, hcell, hz0, hz1⟩ := HYW.out k3 hkc
                  have e1 := hcell _ HBW2.out
                  clear hcell
                  by_cases hz5 : z % 5 = 0
                  · go_wp2
                    go_roundw
                    case rel => exact ⟨k3 + 1, x + 1, l ++ [35], by go_num, by rw [← HP1.out], by go_num, by omega, by omega, by simp [hll], HD35, HU35, trivial⟩
                    case measure => simp [intOf]; omega
                  · have hz6 : 0 < z % 5 := by omega
                    clear hz5
                    go_wp2
                    go_roundw
                    case rel => exact ⟨k3 + 1, x + 1, l ++ [46], by go_num, by rw [← HP2.out], by go_num, by omega, by omega, by simp [hll], HD46, HU, trivial⟩
                    case measure => simp [intOf]; omega
                · go_wp2
                  go_roundw
                  case rel => exact ⟨k3 + 1, x + 1, l ++ [46], by go_num, by rw [← HP2.out], by go_num, by omega, by omega, by simp [hll], HD46, HU, trivial⟩
                  case measure => simp [intOf]; omega
            · obtain rfl : x = (strB s).size := by omega
              have HRX : Hid (rowsOk q.C (rows ++ [l]) = true) := by
                have h := HRO.out
                show _ = _
                unfold rowsOk at h ⊢
                rw [List.all_append, h, List.all_cons, List.all_nil, Bool.and_true, Bool.true_and]
                unfold rowOk
                rw [HD.out, hll, HSZ.out, HSL.out]; simp
              have HSX : Hid (sub2 (rows ++ [l]) (q.safe.getD pp [])) := sub2_snoc HSR.out (by rw [hrl, ← HSE.out]; exact HS1.out)
              go_wp2_with (first | (at_builtin; refine wpl_app_str l _ _ (.slice a2 m2 c2) wo.heap.size rows (by rfl) (by rfl) (by rfl) (by rfl) HTY.out HLR.out HBY.out.size ?_; intro v' w10 ho10 hb10; obtain ⟨sa, sn, sc, rfl⟩ := ownT_slice' ho10; have HO10 := hid ho10; have HB10 := hid (HBY.out.trans hb10); clear ho10 hb10) | fail)
              go_roundw
              case rel => exact ⟨k3, y + 1, rows ++ [l], sa, sn, sc, rfl, rfl, by go_num, by omega, by omega, by simp [hrl], HRX, HSX, HO10, HB10⟩
              case measure => simp [intOf]; omega
        · obtain rfl : y = M := by omega
          have HPH : Hid (∀ s ∈ g ++ [rows], phaseOk q.R q.C s = true) := by
            intro s hs
            rw [List.mem_append, List.mem_singleton] at hs
            rcases hs with hs | rfl
            · exact HGO.out s hs
            · unfold phaseOk
              rw [HRO.out, hrl, HMR.out]; simp
          have HSG : Hid (sub3 (g ++ [rows]) q.safe) := sub3_snoc HSU.out (by rw [hg]; exact HSR.out)
          have HGY := hid (ownG_below HT.out HBY.out)
          have HTX := hid (ownT_mono HTY.out HBr.out.size)
          have hgl : g.length < 1000000 := by omega
          have HGL := hid hgl
          clear hgl
          go_wp2_with (first
            | (at_builtin; refine wpl_app_row2 (.slice a2 m2 c2) rows _ _ (.slice a n c) w5.heap.size g (by rfl) (by rfl) (by rfl) (by rfl) HGY.out HTX.out HGL.out HBW2.out.size ?_; intro v' w10 ho10 hg10; obtain ⟨sa, sn, sc, rfl⟩ := ownG_slice' ho10; have HO10 := hid ho10; have HB10 : Hid (Below w5.heap.size w5 w10) := (HBW2.out.alloc HBW2.out.size _).grown hg10 (Nat.le_trans HBW2.out.size (by simp)) (fun k hk => (ownG_lt HGY.out k hk).1); clear ho10 hg10)
            | fail)
          go_roundw
          case rel => exact ⟨k2, pp + 1, g ++ [rows], sa, sn, sc, rfl, rfl, by go_num, by omega, by omega, by simp [hg], HPH, HSG, HO10, HB10⟩
          case measure => simp [intOf]; omega
    · obtain rfl : pp = q.safe.length := by omega
      have hform : formB q.P q.R q.C g = true := by
        unfold formB
        simp only [Bool.and_eq_true, decide_eq_true_eq, List.all_eq_true]
        exact ⟨hg, HGO.out⟩
      have hn : n = q.safe.length := by
        obtain ⟨us, h1, _, _⟩ := HT.out
        obtain ⟨_, _, e⟩ := row_slice h1
        cases e; exact hg
      subst hn
      have hgi : IsGrid wo (.slice a q.safe.length c) g := ownG_isGrid HT.out (by omega) (fun p hp => by
        have h := HGO.out p hp
        unfold phaseOk at h
        simp only [Bool.and_eq_true, decide_eq_true_eq] at h
        have := HOK.out.r.2
        omega)
      have HGI := hid hgi
      have HFO := hid hform
      obtain ⟨oL, hoL⟩ : ∃ oL : Ov, oL = ⟨g, q.moves, q.jolts⟩ := ⟨_, rfl⟩
      have OKL : Hid oL.Ok := by rw [hoL]; exact form_ok HOK.out hform
      have HFL : Hid (formB q.P q.R q.C (Ov.gridOf oL (Ov.KK oL)) = true) := by rw [hoL]; exact part_form HOK.out hform _
      have HHL : Hid (q.holds (Ov.gridOf oL (Ov.KK oL)) = true) := by rw [hoL]; exact part_holds HOK.out hform HSU.out
      have HKL : Hid (∀ c, Ov.KK oL c = true → Ov.KK q c = true) := by rw [hoL]; exact part_KK HOK.out hform HSU.out
      have HEL : Hid (∀ c, oL.ex c = q.ex c) := by rw [hoL]; exact ex_dims (part_dims HOK.out hform)
      have hlg : oL.safe = g ∧ oL.moves = q.moves ∧ oL.jolts = q.jolts := by rw [hoL]; exact ⟨rfl, rfl, rfl⟩
      have HLG := hid hlg
      clear hform hgi hoL hlg hg hk
      go_upto_region 27 with fail
      obtain ⟨XL, hXL⟩ : ∃ XL, XL = wo.heap.size := ⟨_, rfl⟩
      obtain ⟨wg, hwg⟩ : ∃ wg, wg = wo.alloc (.cells #[.slice a1 q.safe.length c1, .slice a2 q.moves.length c2, .slice a3 q.jolts.length c3] 26) := ⟨_, rfl⟩
      rw [← hXL, ← hwg]
      have hbg : Below wo.heap.size wo wg := by rw [hwg]; exact (Below.refl _ _).alloc (Nat.le_refl _) _
      have hxg : wg.heap[XL]? = some (.cells #[.slice a1 q.safe.length c1, .slice a2 q.moves.length c2, .slice a3 q.jolts.length c3] 26) := by rw [hwg, hXL]; exact heap_alloc_new _ _
      have HXL : Hid (wo.heap.size ≤ XL) := by rw [hXL]; exact Nat.le_refl _
      clear x0 x1 x2 hXL hwg
      obtain ⟨x0, x1, x2⟩ := KP.out wg (HBr.out.trans (hbg.mono HBr.out.size))
      obtain ⟨v0, v1, v2⟩ := cells3_of hxg
      obtain ⟨t0, t1, t2⟩ := free3_of hxg
      go_upto_region 28 with fail
      have hxh : (wg.setCell ⟨XL, 0, none⟩ (.slice a q.safe.length c)).heap[XL]? = some (.cells #[.slice a q.safe.length c, .slice a2 q.moves.length c2, .slice a3 q.jolts.length c3] 26) := set0 hxg
      have hbh : Below wo.heap.size wo (wg.setCell ⟨XL, 0, none⟩ (.slice a q.safe.length c)) := hbg.setCell (p := ⟨XL, 0, none⟩) HXL.out _
      clear v0 v1 v2 t0 t1 t2 x0 x1 x2
      obtain ⟨wh, hwh⟩ : ∃ wh, wh = wg.setCell ⟨XL, 0, none⟩ (.slice a q.safe.length c) := ⟨_, rfl⟩
      rw [← hwh] at hxh hbh ⊢
      obtain ⟨v0, v1, v2⟩ := cells3_of hxh
      have HCh : Hid (Below w5.heap.size w5 wh) := HBr.out.trans (hbh.mono HBr.out.size)
      have hlv : IsOv wh (.slice a q.safe.length c) (.slice a2 q.moves.length c2) (.slice a3 q.jolts.length c3) oL := ⟨by rw [HLG.out.1]; exact isGrid_below HGI.out hbh, by rw [HLG.out.2.1]; exact (HO.out wh HCh.out).moves, by rw [HLG.out.2.2]; exact (HO.out wh HCh.out).jolts⟩
      have HLV := hid hlv
      clear hwh hxh hbh hbg hxg hlv
      go_upto_region 29 with (first | (go_at_call 25; refine (kernel_set _ _ _ oL HLV.out OKL.out).mono ?_; rintro e w11 ⟨g11, n11, d11, rfl, hg11, hb11⟩; have HG11 := hid hg11; have HC11 : Hid (Below w5.heap.size w5 w11) := HCh.out.trans (hb11.mono HCh.out.size); clear hg11 hb11) | fail)
      clear v0 v1 v2
      have G0 : Hid (∀ w', Below w11.heap.size w11 w' → IsGrid w' (.slice g5 n5 d5) (Ov.gridOf q (Ov.KK q))) := fun w' hb => HG5.out w' (HC11.out.trans (hb.mono HC11.out.size))
      have G1 : Hid (∀ w', Below w11.heap.size w11 w' → IsGrid w' (.slice g11 n11 d11) (Ov.gridOf oL (Ov.KK oL))) := fun w' hb => isGrid_below HG11.out hb
      replace KP : Hid (∀ w', Below w11.heap.size w11 w' → w'.cell? ⟨X, 0, none⟩ = some (.slice a1 q.safe.length c1) ∧ w'.cell? ⟨X, 1, none⟩ = some (.slice a2 q.moves.length c2) ∧ w'.cell? ⟨X, 2, none⟩ = some (.slice a3 q.jolts.length c3)) := fun w' hb => KP.out w' (HC11.out.trans (hb.mono HC11.out.size))
      replace HO : Hid (∀ w', Below w11.heap.size w11 w' → IsOv w' (.slice a1 q.safe.length c1) (.slice a2 q.moves.length c2) (.slice a3 q.jolts.length c3) q) := fun w' hb => HO.out w' (HC11.out.trans (hb.mono HC11.out.size))
      replace FIN : Hid (∀ w', Below w11.heap.size w11 w' → Below w.heap.size w w') := fun w' hb => FIN.out w' (HC11.out.trans (hb.mono HC11.out.size))
      clear HCh HLV HLG HXL HGI HFO HG11 HT HGO HSU HC11 HBr HM HC9 HC8 HC7 HC6 HC5
      have HD11 : Hid (Below w11.heap.size w11 w11) := Below.refl _ _
      obtain ⟨x0, x1, x2⟩ := KP.out w11 HD11.out
      go_upto_region 34 with (first
        | (go_at_call 27; with_reducible refine (form_call (HO.out _ (by repeat (first | exact Below.refl _ _ | (apply Hid.out; assumption) | refine Below.drew ?_ | refine below_drewN_r ?_ _))) HOK.out (G1.out _ (by repeat (first | exact Below.refl _ _ | (apply Hid.out; assumption) | refine Below.drew ?_ | refine below_drewN_r ?_ _))) HFL.out).mono ?_; rintro e w12 ⟨rfl, hb12⟩; have HD12 : Hid (Below w11.heap.size w11 w12) := hid (below_step (by repeat (first | exact Below.refl _ _ | (apply Hid.out; assumption) | refine Below.drew ?_ | refine below_drewN_r ?_ _)) hb12); clear hb12; clear x0 x1 x2; obtain ⟨x0, x1, x2⟩ := KP.out _ HD12.out; skip)
        | (go_at_call 36; with_reducible refine (holds_call (HO.out _ (by repeat (first | exact Below.refl _ _ | (apply Hid.out; assumption) | refine Below.drew ?_ | refine below_drewN_r ?_ _))) HOK.out (G1.out _ (by repeat (first | exact Below.refl _ _ | (apply Hid.out; assumption) | refine Below.drew ?_ | refine below_drewN_r ?_ _))) HFL.out HHL.out).mono ?_; rintro e w13 ⟨rfl, hb13⟩; have HD13 : Hid (Below w11.heap.size w11 w13) := hid (below_step (by repeat (first | exact Below.refl _ _ | (apply Hid.out; assumption) | refine Below.drew ?_ | refine below_drewN_r ?_ _)) hb13); clear hb13; clear x0 x1 x2; obtain ⟨x0, x1, x2⟩ := KP.out _ HD13.out; skip)
        | fail)
      go_upto_region 35 with (first | (go_at_call 28; refine (rCells_any _ _ _ q _ (HO.out _ (by repeat (first | exact Below.refl _ _ | (apply Hid.out; assumption) | refine Below.drew ?_ | refine below_drewN_r ?_ _))) HOK.out).mono ?_; rintro e w14 ⟨vl, rfl, hs14, hb14⟩; obtain ⟨l1, l2, rfl⟩ := row_slice hs14; have HS14 := hid hs14; have HD14 : Hid (Below w11.heap.size w11 w14) := hid (below_step (by repeat (first | exact Below.refl _ _ | (apply Hid.out; assumption) | refine Below.drew ?_ | refine below_drewN_r ?_ _)) hb14); clear hb14 hs14) | fail)
      clear x0 x1 x2
      have FIN2 : Hid (∀ w', Below w14.heap.size w14 w' → Below w.heap.size w w') := fun w' hb => FIN.out w' (HD14.out.trans (hb.mono HD14.out.size))
      have HXD : Hid (∀ w', Below w14.heap.size w14 w' → Below w11.heap.size w11 w') := fun w' hb => HD14.out.trans (hb.mono HD14.out.size)
      have I0 : Hid (∀ c, q.ex c = true → ∀ w', Below w14.heap.size w14 w' → Calls Tryd.prog 29 #[.slice g5 n5 d5, spv c] w' fun e w'' => e = .returned (.bool (Ov.KK q c)) ∧ Below w14.heap.size w14 w'') := fun c hc w' hb => (in_kk HOK.out (G0.out w' (HXD.out w' hb)) c hc).mono (by rintro e w'' ⟨rfl, h⟩; exact ⟨rfl, hb.trans (h.mono hb.size)⟩)
      have I1 : Hid (∀ c, q.ex c = true → ∀ w', Below w14.heap.size w14 w' → Calls Tryd.prog 29 #[.slice g11 n11 d11, spv c] w' fun e w'' => e = .returned (.bool (Ov.KK oL c)) ∧ Below w14.heap.size w14 w'') := fun c hc w' hb => (in_kk OKL.out (G1.out w' (HXD.out w' hb)) c (by rw [HEL.out]; exact hc)).mono (by rintro e w'' ⟨rfl, h⟩; exact ⟨rfl, hb.trans (h.mono hb.size)⟩)
      obtain ⟨BC, hBC⟩ : ∃ BC : Nat, OwnS w14 BC 28 (.slice l1 q.cells.length l2) q.cells := ⟨_, HS14.out⟩
      have HCS : Hid (∀ w', Below w14.heap.size w14 w' → OwnS w' BC 28 (.slice l1 q.cells.length l2) q.cells) := fun w' hb => ownS_below hBC hb
      have HEXC : Hid (∀ i, i < q.cells.length → q.ex (sAt q.cells i) = true) := cells_ex q
      have hn16 : q.cells.length ≤ 1024 := cells_small HOK.out
      clear hBC HS14
      obtain ⟨n, hn⟩ : ∃ n, n = q.cells.length := ⟨_, rfl⟩
      have HN := hid hn
      rw [← hn] at hn16 ⊢
      clear hn
      go_wp2_with fail
      go_loopw [23] (fun iv wr => Hid (Below w14.heap.size w14 wr) ∧ ∃ i : Nat, iv = .int .i64 i ∧ i ≤ n) (fun iv _ => n - (intOf iv).toNat)
      case atStart => exact ⟨Below.refl _ _, 0, rfl, Nat.zero_le _⟩
      case round =>
        obtain ⟨HBr, i, rfl, hi⟩ := hrel
        by_cases hlt : i < n
        · have hlo : i < q.cells.length := by rw [← HN.out]; exact hlt
          obtain ⟨g, rfl, _⟩ := sp_at (HCS.out wr HBr.out) i hlo
          have HE : Hid (∀ w', Below w14.heap.size w14 w' → w'.cell? ⟨g, i * 3, none⟩ = some (.int .i64 (sAt q.cells i).1) ∧ w'.cell? ⟨g, i * 3 + 1, none⟩ = some (.int .i64 (sAt q.cells i).2.1) ∧ w'.cell? ⟨g, i * 3 + 2, none⟩ = some (.int .i64 (sAt q.cells i).2.2)) := fun w' hb => by
            obtain ⟨g', hg', h⟩ := sp_at (HCS.out w' hb) i hlo
            cases hg'
            exact h
          have hex := HEXC.out i hlo
          have J0 := hid (I0.out _ hex)
          have J1 := hid (I1.out _ hex)
          have KK0 := hid (HKL.out (sAt q.cells i))
          generalize sAt q.cells i = c at *
          clear hex hlo
          obtain ⟨p, x, y⟩ := c
          unfold spv at J0 J1
          dsimp only at J0 J1 HE
          generalize q.KK (p, x, y) = b0 at *
          generalize oL.KK (p, x, y) = b1 at *
          obtain ⟨e0, e1, e2⟩ := HE.out wr HBr.out
          cases b0 <;> cases b1 <;> first
            | exact absurd (KK0.out rfl) (by decide)
            | (go_wp2_with (first | (go_at_call 29; with_reducible refine (J0.out _ (by repeat (first | exact Below.refl _ _ | (apply Hid.out; assumption) | refine Below.drew ?_ | refine below_drewN_r ?_ _))).mono ?_; rintro e w99 ⟨rfl, hb99⟩; have HB99 := hid hb99; clear hb99 e0 e1 e2; obtain ⟨e0, e1, e2⟩ := HE.out w99 HB99.out) | (go_at_call 29; with_reducible refine (J1.out _ (by repeat (first | exact Below.refl _ _ | (apply Hid.out; assumption) | refine Below.drew ?_ | refine below_drewN_r ?_ _))).mono ?_; rintro e w99 ⟨rfl, hb99⟩; have HB99 := hid hb99; clear hb99 e0 e1 e2; obtain ⟨e0, e1, e2⟩ := HE.out w99 HB99.out) | fail)
               go_roundw
               case rel => exact ⟨by repeat (first | exact Below.refl _ _ | (apply Hid.out; assumption) | refine Below.drew ?_ | refine below_drewN_r ?_ _), i + 1, by go_num, by omega⟩
               case measure => simp [intOf]; omega)
        · obtain rfl : n = i := by omega
          go_wp2_with fail
          go_ret
          exact ⟨rfl, FIN2.out _ HBr.out⟩
end Go.Proofs.YtjonbhimbhidpaaDoor
