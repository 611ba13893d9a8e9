/-
  The law TemperArrives of chapter 6: its contract.
-/
import Derived.Test.YtjonbhimbhidpaaDoorBaseZA
namespace Go.Proofs.YtjonbhimbhidpaaDoor
open Go.RowKit
/-- the move that Reach returns where the goal is n steps away -/
def Ov.mvOf (o : Ov) (g : Grid) (n : Nat) (c : Sp) : Int := match n with
  | 0 => -1
  | k + 1 => o.move (o.G g k) c
theorem reachV_some {o : Ov} {g : Grid} {c : Sp} {n : Nat} (h1 : (o.valid && o.ex c) = true) (h2 : formB o.P o.R o.C g = true) (h : o.NN g c = some n) : reachV o g c = .tuple #[.int .i64 (n : Int), .int .i64 (o.mvOf g n c), .int .i64 0] := by
  rw [reachV_val h1 h2, h]
  cases n <;> rfl
set_option maxHeartbeats 16000000 in
set_option maxRecDepth 100000 in
theorem TemperArrives_ok (ph ro wi : Int) (ca : Option Addr) (cn cc : Nat) (ma : Option Addr) (mn mc : Nat) (ja : Option Addr) (jn jc : Nat) (ya : Option Addr) (yn yc : Nat) (z0 z1 : Int) (w : World) (hk : ArgKiln w ph ro wi ca cn cc ma mn mc ja jn jc) (hy : ArgB8 w ya yn) (hz : (0 ≤ z0 ∧ z0 < 65536) ∧ (0 ≤ z1 ∧ z1 < 65536)) :
    Calls Tryd.prog 13 #[.agg #[.int .u8 ph, .int .u8 ro, .int .u8 wi, .slice ca cn cc, .slice ma mn mc, .slice ja jn jc], .slice ya yn yc, .agg #[.int .u16 z0, .int .u16 z1]] w fun e w' => e = .returned (.bool true) ∧ Below w.heap.size w w' := by
  obtain ⟨hb3, hz3, _, k2⟩ := alloc2 w (.cells #[.int .u8 ph, .int .u8 ro, .int .u8 wi, .slice ca cn cc, .slice ma mn mc, .slice ja jn jc] 45) (.cells #[.int .u16 z0, .int .u16 z1] 82)
  have HB3 := hid hb3
  have HK3 := hid (argKiln_below hk hb3)
  have HZ2 := hid k2
  have HY := hid hy
  obtain ⟨⟨g0, g1⟩, ⟨g2, g3⟩⟩ := hz
  clear hb3 hk hz3 k2 hy
  go_enter Tryd.func13, Tryd.ntmps13
  go_upto_region 2 with (first | (go_at_call 24; refine (made_ov (w0 := w) HB3.out HK3.out).mono ?_; rintro e w4 ⟨q, a1, c1, a2, c2, a3, c3, rfl, hok, hva, hml, how, hb4⟩; have HOK := hid hok; have HVA := hid hva; have HML := hid hml; have HOW := hid how; have HB34 := hid hb4; clear hok hva hml how hb4) | fail)
  obtain ⟨X, hX⟩ : ∃ X, X = w4.heap.size := ⟨_, rfl⟩
  obtain ⟨W, hW⟩ : ∃ W, W = (w4.alloc (.cells #[.slice a1 q.safe.length c1, .slice a2 q.moves.length c2, .slice a3 q.jolts.length c3] 26)) := ⟨_, rfl⟩
  rw [← hX, ← hW]
  have h4W : Below w4.heap.size w4 W := by rw [hW]; exact (Below.refl _ _).alloc (Nat.le_refl _) _
  have hxw : W.heap[X]? = some (.cells #[.slice a1 q.safe.length c1, .slice a2 q.moves.length c2, .slice a3 q.jolts.length c3] 26) := by rw [hW, hX]; exact heap_alloc_new _ _
  have KP : Hid (∀ w', Below W.heap.size W w' → w'.cell? ⟨X, 0, none⟩ = some (.slice a1 q.safe.length c1) ∧ w'.cell? ⟨X, 1, none⟩ = some (.slice a2 q.moves.length c2) ∧ w'.cell? ⟨X, 2, none⟩ = some (.slice a3 q.jolts.length c3)) := by
    intro w' hb
    exact cells3_of ((hb.block X (heap_lt hxw)).trans hxw)
  have HBW : Hid (Below w.heap.size w W) := HB3.out.trans ((HB34.out.trans (h4W.mono HB34.out.size)).mono HB3.out.size)
  have HB3W := hid (HB34.out.trans (h4W.mono HB34.out.size))
  have how := HOW.out.below h4W
  have hiv := ownOv_isOv how HOK.out
  have HXW := hid hxw
  have HO : Hid (∀ w', Below W.heap.size W w' → IsOv w' (.slice a1 q.safe.length c1) (.slice a2 q.moves.length c2) (.slice a3 q.jolts.length c3) q) := fun w' hb => isOv_below hiv hb
  have FIN : Hid (∀ w', Below W.heap.size W w' → Below w.heap.size w w') := fun w' hb => HBW.out.trans (hb.mono HBW.out.size)
  clear hX hW h4W hxw how hiv
  obtain ⟨x0, x1, x2⟩ := KP.out W (Below.refl _ _)
  obtain ⟨Z, hZ⟩ : ∃ Z, Z = w.heap.size + 1 := ⟨_, rfl⟩
  rw [← hZ]
  have hzw : W.heap[Z]? = some (.cells #[.int .u16 z0, .int .u16 z1] 82) := by
    rw [hZ]
    exact (HB3W.out.block _ (heap_lt HZ2.out)).trans HZ2.out
  have KZ : Hid (∀ w', Below W.heap.size W w' → w'.cell? ⟨Z, 0, none⟩ = some (.int .u16 z0) ∧ w'.cell? ⟨Z, 1, none⟩ = some (.int .u16 z1)) := fun w' hb => cells2_of ((hb.block Z (heap_lt hzw)).trans hzw)
  clear hZ hzw
  have hyn := HY.out.1
  unfold maxLen at hyn
  have HYW : Hid (∀ i, i < yn → ∃ ad z, ya = some ad ∧ (∀ w', Below W.heap.size W w' → w'.cell? (ad.add i) = some (.int .u8 z)) ∧ 0 ≤ z ∧ z < 256) := by
    intro i hi
    obtain ⟨ad, z, h1, h2, h3, h4⟩ := HY.out.2 i hi
    exact ⟨ad, z, h1, fun w' hb => ((FIN.out w' hb).cell (p := ad.add i) (by rw [add_block]; exact h2)).trans h3, h4⟩
  have hq4 : q.safe.length ≤ 4 := HOK.out.p.2
  have HM : Hid (OwnG (W.alloc (.cells #[] 71)) W.heap.size (.slice (some ⟨W.heap.size, 0, none⟩) 0 0) []) := ownG_made W _ (Nat.le_refl _)
  have HC9 : Hid (Below W.heap.size W (W.alloc (.cells #[] 71))) := (Below.refl _ _).alloc (Nat.le_refl _) _
  clear x0 x1 x2
  obtain ⟨x0, x1, x2⟩ := KP.out W (Below.refl _ _)
  go_upto_block 0 with fail
  go_cut [8] (fun v8 wx => ∃ (a : Option Addr) (cc : Nat) (g : Grid), v8 = .slice a q.safe.length cc ∧ Hid (formB q.P q.R q.C g = true) ∧ Hid (IsGrid wx (.slice a q.safe.length cc) g) ∧ Hid (Below W.heap.size W wx))
  case first =>
    clear x0 x1 x2
    go_wp2_with fail
    go_loopw [8, 9, 10] (fun v kv pv wr => ∃ (k pp : Nat) (g : Grid) (a : Option Addr) (n c : Nat), v = .slice a n c ∧ kv = .int .i64 k ∧ pv = .int .i64 pp ∧ pp ≤ q.safe.length ∧ k ≤ pp * 256 ∧ g.length = pp ∧ Hid (∀ s ∈ g, phaseOk q.R q.C s = true) ∧ Hid (OwnG wr W.heap.size (.slice a n c) g) ∧ Hid (Below W.heap.size W wr)) (fun _ _ pv _ => q.safe.length - (intOf pv).toNat)
    case atStart => exact ⟨0, 0, [], _, 0, 0, rfl, rfl, rfl, Nat.zero_le _, Nat.zero_le _, rfl, fun s hs => by simp at hs, HM, HC9⟩
    case round =>
      obtain ⟨k, pp, g, a, n, c, rfl, rfl, rfl, hpp, hk, hg, HGO, HT, HBr⟩ := hrel
      rename World => wo
      obtain ⟨x0, x1, x2⟩ := KP.out wo HBr.out
      by_cases hlt : pp < q.safe.length
      · obtain ⟨gb, ua, uc, rfl, hc, hst⟩ := grid_at (HO.out W (Below.refl _ _)).safe pp hlt
        obtain ⟨M, hM⟩ : ∃ M, M = (q.safe.getD pp []).length := ⟨_, rfl⟩
        rw [← hM] at hc hst
        have HMM := hid hM
        have G1 : Hid (∀ w', Below W.heap.size W w' → w'.cell? ⟨gb, pp, none⟩ = some (.slice ua M uc)) := fun w' hb => (hb.cell (World.block_lt_of_cell? W _ hc)).trans hc
        have HST := hid hst
        have hMR : M = q.R := by
          have h := HOK.out.form
          unfold formB at h
          simp only [Bool.and_eq_true, decide_eq_true_eq, List.all_eq_true] at h
          have e : q.safe.getD pp [] = q.safe[pp] := by simp [hlt]
          have h2 := h.2 _ (List.getElem_mem hlt)
          rw [← e] at h2
          unfold phaseOk at h2
          simp only [Bool.and_eq_true, decide_eq_true_eq] at h2
          rw [hM]; exact h2.1
        have HMR := hid hMR
        have hM16 : M ≤ 16 := by rw [hMR]; exact HOK.out.r.2
        have hms : Below wo.heap.size wo (wo.alloc (.cells #[] 9)) := (Below.refl wo.heap.size wo).alloc (Nat.le_refl _) _
        have HMB := hid hms
        have HM2 : Hid (OwnT (wo.alloc (.cells #[] 9)) wo.heap.size (.slice (some ⟨wo.heap.size, 0, none⟩) 0 0) []) := ownT_made wo _ (Nat.le_refl _)
        obtain ⟨z0, z1, z2⟩ := KP.out _ (HBr.out.trans (hms.mono HBr.out.size))
        have z3 := G1.out _ (HBr.out.trans (hms.mono HBr.out.size))
        clear hM hMR hms hc hst
        go_wp2
        clear z0 z1 z2 z3 x0 x1 x2
        go_loopw [9, 11, 12] (fun kv v yv wy => ∃ (k2 y : Nat) (rows : List Str) (a2 : Option Addr) (m2 c2 : Nat), kv = .int .i64 k2 ∧ v = .slice a2 m2 c2 ∧ yv = .int .i64 y ∧ y ≤ M ∧ k2 ≤ pp * 256 + y * 16 ∧ rows.length = y ∧ Hid (rowsOk q.C rows = true) ∧ Hid (OwnT wy wo.heap.size (.slice a2 m2 c2) rows) ∧ Hid (Below wo.heap.size wo wy)) (fun _ _ yv _ => M - (intOf yv).toNat)
        case atStart => exact ⟨k, 0, [], _, 0, 0, rfl, rfl, rfl, Nat.zero_le _, by omega, rfl, rfl, HM2, HMB⟩
        case round =>
          obtain ⟨k2, y, rows, a2, m2, c2, rfl, rfl, rfl, hy, hk2, hrl, HRO, HTY, HBY⟩ := hrel
          rename World => wy
          have HBW2 : Hid (Below W.heap.size W wy) := HBr.out.trans (HBY.out.mono HBr.out.size)
          obtain ⟨x0, x1, x2⟩ := KP.out wy HBW2.out
          have x3 := G1.out wy HBW2.out
          by_cases hly : y < M
          · have hly' : y < (q.safe.getD pp []).length := by rw [← HMM.out]; exact hly
            obtain ⟨gu, rfl, hcs⟩ := strs_at HST.out y hly'
            obtain ⟨s, hs⟩ : ∃ s, s = (q.safe.getD pp []).getD y [] := ⟨_, rfl⟩
            rw [← hs] at hcs
            have x4 := (HBW2.out.cell (World.block_lt_of_cell? W _ hcs)).trans hcs
            have hrow := form_row HOK.out.form pp y hlt (by rw [← HMR.out]; exact hly)
            have hsl : s.length = q.C := by rw [hs]; exact hrow.1
            have HSL := hid hsl
            have hC16 : q.C ≤ 16 := HOK.out.c.2
            have hsz := strB_size s
            have HSZ := hid hsz
            have hs16 : (strB s).size ≤ 16 := by omega
            have HSE := hid hs
            have hlr : rows.length < 1000000 := by omega
            have HLR := hid hlr
            clear hs hcs hrow hly' hlr hC16 hsz hsl
            go_wp2
            go_loopw [9, 13, 14] (fun kv v xv wx => ∃ (k3 x : Nat) (l : Str), kv = .int .i64 k3 ∧ v = .string (strB l) ∧ xv = .int .i64 x ∧ x ≤ (strB s).size ∧ k3 ≤ pp * 256 + y * 16 + x ∧ l.length = x ∧ Hid (l.all dotx = true) ∧ wx = wy) (fun _ _ xv _ => (strB s).size - (intOf xv).toNat)
            case atStart => exact ⟨k2, 0, [], rfl, rfl, rfl, Nat.zero_le _, by omega, rfl, rfl, rfl⟩
            case round =>
              obtain ⟨k3, x, l, rfl, rfl, rfl, hx, hk3, hll, HD, rfl⟩ := hrel
              by_cases hlx : x < (strB s).size
              · have hlx' : x < s.length := by rw [← HSZ.out]; exact hlx
                have HD35 : Hid ((l ++ [35]).all dotx = true) := by show _ = _; rw [List.all_append, HD.out]; rfl
                have HD46 : Hid ((l ++ [46]).all dotx = true) := by show _ = _; rw [List.all_append, HD.out]; rfl
                have hs1 := strB_snoc l 35
                have hs2 := strB_snoc l 46
                have hts := strB_size l
                rw [hll] at hts
                generalize strB l = t at *
                have ht6 : t.size ≤ 16 := by omega
                have HP1 := hid hs1
                have HP2 := hid hs2
                clear hs1 hs2 hlx'
                by_cases hkc : k3 < yn
                · obtain ⟨ad, z, rfl, hcell, hz0, hz1⟩ := HYW.out k3 hkc
                  have e1 := hcell _ HBW2.out
                  clear hcell
                  by_cases hz5 : z % 5 = 0
                  · go_wp2
                    go_roundw
                    case rel => exact ⟨k3 + 1, x + 1, l ++ [46], by go_num, by rw [← HP2.out], by go_num, by omega, by omega, by simp [hll], HD46, trivial⟩
                    case measure => simp [intOf]; omega
                  · go_wp2
                    go_roundw
                    case rel => exact ⟨k3 + 1, x + 1, l ++ [35], by go_num, by rw [← HP1.out], by go_num, by omega, by omega, by simp [hll], HD35, trivial⟩
                    case measure => simp [intOf]; omega
                · go_wp2
                  go_roundw
                  case rel => exact ⟨k3 + 1, x + 1, l ++ [35], by go_num, by rw [← HP1.out], by go_num, by omega, by omega, by simp [hll], HD35, trivial⟩
                  case measure => simp [intOf]; omega
              · obtain rfl : x = (strB s).size := by omega
                have HRX : Hid (rowsOk q.C (rows ++ [l]) = true) := by
                  have h := HRO.out
                  show _ = _
                  unfold rowsOk at h ⊢
                  rw [List.all_append, h, List.all_cons, List.all_nil, Bool.and_true, Bool.true_and]
                  unfold rowOk
                  rw [HD.out, hll, HSZ.out, HSL.out]; simp
                go_wp2_with (first | (at_builtin; refine wpl_app_str l _ _ (.slice a2 m2 c2) wo.heap.size rows (by rfl) (by rfl) (by rfl) (by rfl) HTY.out HLR.out HBY.out.size ?_; intro v' w10 ho10 hb10; obtain ⟨sa, sn, sc, rfl⟩ := ownT_slice' ho10; have HO10 := hid ho10; have HB10 := hid (HBY.out.trans hb10); clear ho10 hb10) | fail)
                go_roundw
                case rel => exact ⟨k3, y + 1, rows ++ [l], sa, sn, sc, rfl, rfl, by go_num, by omega, by omega, by simp [hrl], HRX, HO10, HB10⟩
                case measure => simp [intOf]; omega
          · obtain rfl : y = M := by omega
            have HPH : Hid (∀ s ∈ g ++ [rows], phaseOk q.R q.C s = true) := by
              intro s hs
              rw [List.mem_append, List.mem_singleton] at hs
              rcases hs with hs | rfl
              · exact HGO.out s hs
              · unfold phaseOk
                rw [HRO.out, hrl, HMR.out]; simp
            have HGY := hid (ownG_below HT.out HBY.out)
            have HTX := hid (ownT_mono HTY.out HBr.out.size)
            have hgl : g.length < 1000000 := by omega
            have HGL := hid hgl
            clear hgl
            go_wp2_with (first
              | (at_builtin; refine wpl_app_row2 (.slice a2 m2 c2) rows _ _ (.slice a n c) W.heap.size g (by rfl) (by rfl) (by rfl) (by rfl) HGY.out HTX.out HGL.out HBW2.out.size ?_; intro v' w10 ho10 hg10; obtain ⟨sa, sn, sc, rfl⟩ := ownG_slice' ho10; have HO10 := hid ho10; have HB10 : Hid (Below W.heap.size W w10) := (HBW2.out.alloc HBW2.out.size _).grown hg10 (Nat.le_trans HBW2.out.size (by simp)) (fun k hk => (ownG_lt HGY.out k hk).1); clear ho10 hg10)
              | fail)
            go_roundw
            case rel => exact ⟨k2, pp + 1, g ++ [rows], sa, sn, sc, rfl, rfl, by go_num, by omega, by omega, by simp [hg], HPH, HO10, HB10⟩
            case measure => simp [intOf]; omega
      · obtain rfl : pp = q.safe.length := by omega
        have hform : formB q.P q.R q.C g = true := by
          unfold formB
          simp only [Bool.and_eq_true, decide_eq_true_eq, List.all_eq_true]
          exact ⟨hg, HGO.out⟩
        have hn : n = q.safe.length := by
          obtain ⟨us, h1, _, _⟩ := HT.out
          obtain ⟨_, _, e⟩ := row_slice h1
          cases e; exact hg
        subst hn
        have hgi : IsGrid wo (.slice a q.safe.length c) g := ownG_isGrid HT.out (by omega) (fun p hp => by
          have h := HGO.out p hp
          unfold phaseOk at h
          simp only [Bool.and_eq_true, decide_eq_true_eq] at h
          have := HOK.out.r.2
          omega)
        have HGI := hid hgi
        have HFO := hid hform
        clear hform hgi
        go_wp2_with fail
        go_meet
        exact ⟨a, c, g, rfl, HFO, HGI, HBr⟩
  case rest =>
    obtain ⟨ga, gc, g, rfl, HFG, HGI, HBc⟩ := hcut
    rename World => wc
    replace KP : Hid (∀ w', Below wc.heap.size wc w' → w'.cell? ⟨X, 0, none⟩ = some (.slice a1 q.safe.length c1) ∧ w'.cell? ⟨X, 1, none⟩ = some (.slice a2 q.moves.length c2) ∧ w'.cell? ⟨X, 2, none⟩ = some (.slice a3 q.jolts.length c3)) := fun w' hb => KP.out w' (HBc.out.trans (hb.mono HBc.out.size))
    replace HO : Hid (∀ w', Below wc.heap.size wc w' → IsOv w' (.slice a1 q.safe.length c1) (.slice a2 q.moves.length c2) (.slice a3 q.jolts.length c3) q) := fun w' hb => HO.out w' (HBc.out.trans (hb.mono HBc.out.size))
    replace FIN : Hid (∀ w', Below wc.heap.size wc w' → Below w.heap.size w w') := fun w' hb => FIN.out w' (HBc.out.trans (hb.mono HBc.out.size))
    replace KZ : Hid (∀ w', Below wc.heap.size wc w' → w'.cell? ⟨Z, 0, none⟩ = some (.int .u16 z0) ∧ w'.cell? ⟨Z, 1, none⟩ = some (.int .u16 z1)) := fun w' hb => KZ.out w' (HBc.out.trans (hb.mono HBc.out.size))
    have HD4 : Hid (Below wc.heap.size wc wc) := Below.refl _ _
    clear x0 x1 x2
    obtain ⟨x0, x1, x2⟩ := KP.out wc HD4.out
    go_upto_region 21 with (first | (go_at_call 28; refine (rCells_any _ _ _ q _ (HO.out _ (by repeat (first | exact Below.refl _ _ | (apply Hid.out; assumption) | refine Below.drew ?_ | refine below_drewN_r ?_ _))) HOK.out).mono ?_; rintro e w5 ⟨vl, rfl, hs5, hb5⟩; obtain ⟨l1, l2, rfl⟩ := row_slice hs5; have HS5 := hid hs5; have HD5 : Hid (Below wc.heap.size wc w5) := hid (below_step (by repeat (first | exact Below.refl _ _ | (apply Hid.out; assumption) | refine Below.drew ?_ | refine below_drewN_r ?_ _)) hb5); clear hb5 hs5) | fail)
    clear x0 x1 x2
    have HGG : Hid (∀ w', Below w5.heap.size w5 w' → IsGrid w' (.slice ga q.safe.length gc) g) := fun w' hb => isGrid_below HGI.out (HD5.out.trans (hb.mono HD5.out.size))
    replace KP : Hid (∀ w', Below w5.heap.size w5 w' → w'.cell? ⟨X, 0, none⟩ = some (.slice a1 q.safe.length c1) ∧ w'.cell? ⟨X, 1, none⟩ = some (.slice a2 q.moves.length c2) ∧ w'.cell? ⟨X, 2, none⟩ = some (.slice a3 q.jolts.length c3)) := fun w' hb => KP.out w' (HD5.out.trans (hb.mono HD5.out.size))
    replace HO : Hid (∀ w', Below w5.heap.size w5 w' → IsOv w' (.slice a1 q.safe.length c1) (.slice a2 q.moves.length c2) (.slice a3 q.jolts.length c3) q) := fun w' hb => HO.out w' (HD5.out.trans (hb.mono HD5.out.size))
    replace FIN : Hid (∀ w', Below w5.heap.size w5 w' → Below w.heap.size w w') := fun w' hb => FIN.out w' (HD5.out.trans (hb.mono HD5.out.size))
    replace KZ : Hid (∀ w', Below w5.heap.size w5 w' → w'.cell? ⟨Z, 0, none⟩ = some (.int .u16 z0) ∧ w'.cell? ⟨Z, 1, none⟩ = some (.int .u16 z1)) := fun w' hb => KZ.out w' (HD5.out.trans (hb.mono HD5.out.size))
    obtain ⟨BC, hBC⟩ : ∃ BC : Nat, OwnS w5 BC 28 (.slice l1 q.cells.length l2) q.cells := ⟨_, HS5.out⟩
    have HCS : Hid (∀ w', Below w5.heap.size w5 w' → OwnS w' BC 28 (.slice l1 q.cells.length l2) q.cells) := fun w' hb => ownS_below hBC hb
    have HEXC : Hid (∀ i, i < q.cells.length → q.ex (sAt q.cells i) = true) := cells_ex q
    have hn16 : q.cells.length ≤ 1024 := cells_small HOK.out
    clear hBC HS5
    obtain ⟨n, hn⟩ : ∃ n, n = q.cells.length := ⟨_, rfl⟩
    have HN := hid hn
    rw [← hn] at hn16 ⊢
    clear hn
    have hn1 : 1 ≤ n := by rw [HN.out, cells_len]; exact N_pos HOK.out
    obtain ⟨ai, hai⟩ : ∃ ai : Nat, z0 % (n : Int) = (ai : Int) := ⟨(z0 % (n : Int)).toNat, (Int.toNat_of_nonneg (Int.emod_nonneg _ (by omega))).symm⟩
    have hain : ai < n := by have := Int.emod_lt_of_pos z0 (by omega : (0 : Int) < (n : Int)); omega
    have HRE : Hid (z0.tmod (n : Int) = (ai : Int)) := by show _ = _; rw [Int.tmod_eq_emod_of_nonneg g0, hai]
    have HNZ : Hid (¬ n = 0) := by show ¬ _; omega
    have hlo : ai < q.cells.length := by rw [← HN.out]; exact hain
    obtain ⟨g5, rfl, -⟩ := sp_at (HCS.out w5 (Below.refl _ _)) ai hlo
    have hex := HEXC.out ai hlo
    obtain ⟨s, hs⟩ : ∃ s, s = sAt q.cells ai := ⟨_, rfl⟩
    obtain ⟨p, x, y⟩ := s
    rw [← hs] at hex
    have HEX := hid hex
    have HCL : Hid (∀ w', Below w5.heap.size w5 w' → w'.cell? ⟨g5, ai * 3, none⟩ = some (.int .i64 p) ∧ w'.cell? ⟨g5, ai * 3 + 1, none⟩ = some (.int .i64 x) ∧ w'.cell? ⟨g5, ai * 3 + 2, none⟩ = some (.int .i64 y)) := fun w' hb => sp_all (HCS.out w' hb) hlo hs.symm
    clear hai hs hex hlo HD4 HD5 HBc HGI
    go_cut [16, 17] (fun v16 v17 wx => ∃ CB, v16 = .pointer (some ⟨CB, 0, none⟩) ∧ v17 = .int .i64 z1 ∧ wx.heap[CB]? = some (.cells #[.int .i64 p, .int .i64 x, .int .i64 y] 28) ∧ w5.heap.size ≤ CB ∧ Below w5.heap.size w5 wx)
    case first =>
      have K21 : Hid (∀ w', Below w5.heap.size w5 w' → w'.cell? ⟨Z, 0, none⟩ = some (.int .u16 z0) ∧ w'.cell? ⟨Z, 1, none⟩ = some (.int .u16 z1) ∧ w'.cell? ⟨g5, ai * 3, none⟩ = some (.int .i64 p) ∧ w'.cell? ⟨g5, ai * 3 + 1, none⟩ = some (.int .i64 x) ∧ w'.cell? ⟨g5, ai * 3 + 2, none⟩ = some (.int .i64 y) ∧ Hid (Below w5.heap.size w5 w')) := fun w' hb => by
        obtain ⟨b0, b1⟩ := KZ.out w' hb
        obtain ⟨d0, d1, d2⟩ := HCL.out w' hb
        exact ⟨b0, b1, d0, d1, d2, hb⟩
      refine wp_region_held_drew (S := fun w' => w'.cell? ⟨Z, 0, none⟩ = some (.int .u16 z0) ∧ w'.cell? ⟨Z, 1, none⟩ = some (.int .u16 z1) ∧ w'.cell? ⟨g5, ai * 3, none⟩ = some (.int .i64 p) ∧ w'.cell? ⟨g5, ai * 3 + 1, none⟩ = some (.int .i64 x) ∧ w'.cell? ⟨g5, ai * 3 + 2, none⟩ = some (.int .i64 y) ∧ Hid (Below w5.heap.size w5 w')) (by kernel_rfl) (K21.out _ ((Below.refl _ _).drew)) (fun hHeld => ?_)
      refine take_at (i := 0) 88 (v := .slice (some ⟨g5, 0, none⟩) n l2) rfl (by kernel_rfl) (by kernel_rfl) (by kernel_rfl) rfl (fun _ _ _ h => h) (by rfl) (fun w hSw => ?_) hHeld ?_
      · (try dsimp only at hSw); go_simp
      simp only [Act.put, List.setIfInBounds_toArray, List.set_cons_zero, List.set_cons_succ]
      refine take_at (i := 1) 89 (v := .pointer (some ⟨Z, 0, none⟩)) rfl (by kernel_rfl) (by kernel_rfl) (by kernel_rfl) rfl (fun _ _ _ h => h) (by rfl) (fun w hSw => ?_) hHeld ?_
      · (try dsimp only at hSw); go_simp
      simp only [Act.put, List.setIfInBounds_toArray, List.set_cons_zero, List.set_cons_succ]
      refine take_at (i := 2) 90 (v := .int .u16 z0) rfl (by kernel_rfl) (by kernel_rfl) (by kernel_rfl) rfl (fun _ _ _ h => h) (by rfl) (fun w hSw => ?_) hHeld ?_
      · (try dsimp only at hSw); go_simp
      simp only [Act.put, List.setIfInBounds_toArray, List.set_cons_zero, List.set_cons_succ]
      refine take_at (i := 3) 91 (v := .int .i64 z0) rfl (by kernel_rfl) (by kernel_rfl) (by kernel_rfl) rfl (fun _ _ _ h => h) (by rfl) (fun w hSw => ?_) hHeld ?_
      · (try dsimp only at hSw); go_simp; first | done | (rw [IntKind.wrap_i64]; omega)
      simp only [Act.put, List.setIfInBounds_toArray, List.set_cons_zero, List.set_cons_succ]
      refine take_at (i := 4) 92 (v := .slice (some ⟨g5, 0, none⟩) n l2) rfl (by kernel_rfl) (by kernel_rfl) (by kernel_rfl) rfl (fun _ _ _ h => h) (by rfl) (fun w hSw => ?_) hHeld ?_
      · (try dsimp only at hSw); go_simp
      simp only [Act.put, List.setIfInBounds_toArray, List.set_cons_zero, List.set_cons_succ]
      refine take_at (i := 5) 93 (v := .int .i64 n) rfl (by kernel_rfl) (by kernel_rfl) (by kernel_rfl) rfl (fun _ _ _ h => h) (by rfl) (fun w hSw => ?_) hHeld ?_
      · (try dsimp only at hSw); go_simp
      simp only [Act.put, List.setIfInBounds_toArray, List.set_cons_zero, List.set_cons_succ]
      refine take_at (i := 6) 94 (v := .int .i64 ai) rfl (by kernel_rfl) (by kernel_rfl) (by kernel_rfl) rfl (fun _ _ _ h => h) (by rfl) (fun w hSw => ?_) hHeld ?_
      · (try dsimp only at hSw); go_simp; rw [if_neg HNZ.out, HRE.out]
      simp only [Act.put, List.setIfInBounds_toArray, List.set_cons_zero, List.set_cons_succ]
      refine take_at (i := 7) 95 (v := .pointer (some ⟨g5, ai * 3, none⟩)) rfl (by kernel_rfl) (by kernel_rfl) (by kernel_rfl) rfl (fun _ _ _ h => h) (by rfl) (fun w hSw => ?_) hHeld ?_
      · (try dsimp only at hSw); go_simp
      simp only [Act.put, List.setIfInBounds_toArray, List.set_cons_zero, List.set_cons_succ]
      refine take_at (i := 8) 96 (v := .agg #[.int .i64 p, .int .i64 x, .int .i64 y]) rfl (by kernel_rfl) (by kernel_rfl) (by kernel_rfl) rfl (fun _ _ _ h => h) (by rfl) (fun w hSw => ?_) hHeld ?_
      · (try dsimp only at hSw); go_simp
      simp only [Act.put, List.setIfInBounds_toArray, List.set_cons_zero, List.set_cons_succ]
      refine take_at (i := 9) 97 (v := .pointer (some ⟨Z, 1, none⟩)) rfl (by kernel_rfl) (by kernel_rfl) (by kernel_rfl) rfl (fun _ _ _ h => h) (by rfl) (fun w hSw => ?_) hHeld ?_
      · (try dsimp only at hSw); go_simp
      simp only [Act.put, List.setIfInBounds_toArray, List.set_cons_zero, List.set_cons_succ]
      refine take_at (i := 10) 98 (v := .int .u16 z1) rfl (by kernel_rfl) (by kernel_rfl) (by kernel_rfl) rfl (fun _ _ _ h => h) (by rfl) (fun w hSw => ?_) hHeld ?_
      · (try dsimp only at hSw); go_simp
      simp only [Act.put, List.setIfInBounds_toArray, List.set_cons_zero, List.set_cons_succ]
      refine take_at (i := 11) 99 (v := .int .i64 z1) rfl (by kernel_rfl) (by kernel_rfl) (by kernel_rfl) rfl (fun _ _ _ h => h) (by rfl) (fun w hSw => ?_) hHeld ?_
      · (try dsimp only at hSw); go_simp; first | done | (rw [IntKind.wrap_i64]; omega)
      simp only [Act.put, List.setIfInBounds_toArray, List.set_cons_zero, List.set_cons_succ]
      refine wpAnyH_ready (rs := [12]) (by kernel_rfl) (by simp) ?_
      refine node_alloc28 16 rfl rfl rfl rfl (K21.out _ (Below.alloc ((Below.refl w5.heap.size w5).drew) (Below.size ((Below.refl w5.heap.size w5).drew)) _)) (fun hHeld => ?_) AllReadyH.nil
      · obtain ⟨v0, hv0⟩ : ∃ v0, v0 = w5.drew := ⟨_, rfl⟩
        rw [← hv0]
        have hu0 : Below w5.heap.size w5 v0 := by rw [hv0]; exact (Below.refl _ _).drew
        obtain ⟨CB, hCB⟩ : ∃ CB, CB = v0.heap.size := ⟨_, rfl⟩
        have hz1 := heap_alloc_new v0 (.cells #[.int .i64 0, .int .i64 0, .int .i64 0] 28)
        have hu1 := hu0.alloc hu0.size (.cells #[.int .i64 0, .int .i64 0, .int .i64 0] 28)
        obtain ⟨v1, hv1⟩ : ∃ v1, v1 = v0.alloc (.cells #[.int .i64 0, .int .i64 0, .int .i64 0] 28) := ⟨_, rfl⟩
        rw [← hCB] at hz1 ⊢
        rw [← hv1] at hz1 hu1 ⊢
        have hle : w5.heap.size ≤ CB := by rw [hCB]; exact hu0.size
        have HLE := hid hle
        clear hHeld hv0 hCB hv1 hle
        simp only [Act.put, List.setIfInBounds_toArray, List.set_cons_zero, List.set_cons_succ]
        refine wpAnyH_ready (rs := [13]) (by kernel_rfl) (by simp) ?_
        refine node_store28 16 96 CB _ _ _ p x y rfl rfl rfl rfl rfl rfl hz1 (K21.out _ (below_store3 hu1 HLE.out)) ?_ AllReadyH.nil
        · have hu2 := below_store3 (x := .int .i64 p) (y := .int .i64 x) (z := .int .i64 y) hu1 HLE.out
          have hz2 := store3 (x := .int .i64 p) (y := .int .i64 x) (z := .int .i64 y) hz1
          obtain ⟨v2, hv2⟩ : ∃ v2, v2 = ((v1.setCell ⟨CB, 0, none⟩ (.int .i64 p)).setCell ⟨CB, 1, none⟩ (.int .i64 x)).setCell ⟨CB, 2, none⟩ (.int .i64 y) := ⟨_, rfl⟩
          rw [← hv2] at hu2 hz2 ⊢
          have hHeld := K21.out _ hu2
          clear hv2
          refine take_at (i := 14) 17 (v := .int .i64 z1) rfl (by kernel_rfl) (by kernel_rfl) (by kernel_rfl) rfl (fun _ _ _ h => h) (by rfl) (fun w hSw => ?_) hHeld ?_
          · (try dsimp only at hSw); go_simp
          simp only [Act.put, List.setIfInBounds_toArray, List.set_cons_zero, List.set_cons_succ]
          refine wpAnyH_done (by kernel_rfl) ?_ _
          clear hHeld
          go_wp2_with fail
          go_meet
          exact ⟨CB, rfl, rfl, hz2, HLE.out, hu2⟩
    case rest =>
      obtain ⟨CB, rfl, rfl, hcb, hle, hbd⟩ := hcut
      rename World => wd
      have HCB := hid hcb
      have HBD := hid hbd
      have HLE := hid hle
      clear hcb hbd hle
      have CR : Hid (∀ (w' : World) (c : Sp), Below w5.heap.size w5 w' → Calls Tryd.prog 40 #[.agg #[.slice a1 q.safe.length c1, .slice a2 q.moves.length c2, .slice a3 q.jolts.length c3], .slice ga q.safe.length gc, spv c] w' fun e w'' => e = .returned (reachV q g c) ∧ Below w'.heap.size w' w'') := fun w' c hb => reachP_any _ _ _ _ q g c w' (HO.out w' hb) (num_ok HOK.out) (HGG.out w' hb) (short_form HFG.out HOK.out.c.2)
      obtain ⟨x0, x1, x2⟩ := KP.out wd HBD.out
      obtain ⟨e0, e1, e2⟩ := cells3_of HCB.out
      have HVX : Hid ((q.valid && q.ex (p, x, y)) = true) := by show _ = _; rw [valid_ok HOK.out, HEX.out]; rfl
      cases hnn : q.NN g (p, x, y) with
      | none =>
        have hrv : reachV q g (p, x, y) = .tuple #[.int .i64 0, .int .i64 0, .int .i64 5] := by rw [reachV_val HVX.out HFG.out, hnn]
        have CR0 : Hid (Calls Tryd.prog 40 #[.agg #[.slice a1 q.safe.length c1, .slice a2 q.moves.length c2, .slice a3 q.jolts.length c3], .slice ga q.safe.length gc, .agg #[.int .i64 p, .int .i64 x, .int .i64 y]] wd fun e w'' => e = .returned (.tuple #[.int .i64 0, .int .i64 0, .int .i64 5]) ∧ Below wd.heap.size wd w'') := by
          have h := CR.out wd (p, x, y) HBD.out
          rw [hrv] at h
          exact h
        clear hnn hrv
        go_wp2_with (first | (go_at_call 40; refine (CR0.out).mono ?_; rintro e w6 ⟨rfl, hb6⟩; have HB6 := hid (below_step HBD.out hb6); clear hb6) | (go_at_call 19; refine (lives_any _).mono ?_; rintro e w7 ⟨rfl, hb7⟩; have HB7 := hid (below_step HB6.out hb7); clear hb7) | fail)
        go_ret
        exact ⟨rfl, FIN.out _ HB7.out⟩
      | some m0 =>
        have hrv := reachV_some HVX.out HFG.out hnn
        obtain ⟨mv, hmv⟩ : ∃ mv, mv = q.mvOf g m0 (p, x, y) := ⟨_, rfl⟩
        rw [← hmv] at hrv
        have HMV := hid hmv
        have CR0 : Hid (Calls Tryd.prog 40 #[.agg #[.slice a1 q.safe.length c1, .slice a2 q.moves.length c2, .slice a3 q.jolts.length c3], .slice ga q.safe.length gc, .agg #[.int .i64 p, .int .i64 x, .int .i64 y]] wd fun e w'' => e = .returned (.tuple #[.int .i64 m0, .int .i64 mv, .int .i64 0]) ∧ Below wd.heap.size wd w'') := by
          have h := CR.out wd (p, x, y) HBD.out
          rw [hrv] at h
          exact h
        have hm0 : m0 ≤ 1024 := by have h1 := ((near_some q g q.N (p, x, y) m0).1 hnn).1; have := N_le HOK.out; omega
        have HNN := hid hnn
        clear hnn hrv hmv
        go_upto_block 6 with (first | (go_at_call 40; refine (CR0.out).mono ?_; rintro e w6 ⟨rfl, hb6⟩; have HB6 := hid (below_step HBD.out hb6); have HCB6 := hid ((hb6.block CB (heap_lt HCB.out)).trans HCB.out); clear hb6) | fail)
        clear x0 x1 x2 e0 e1 e2
        go_wp2_with fail
        go_loopw [17, 18, 19] (fun jv nv mv' wr => ∃ (cp cx cy jj : Int) (nn : Nat), jv = .int .i64 jj ∧ nv = .int .i64 nn ∧ mv' = .int .i64 (q.mvOf g nn (cp, cx, cy)) ∧ 0 ≤ jj ∧ jj ≤ 100000 ∧ nn ≤ 1024 ∧ Hid (wr.heap[CB]? = some (.cells #[.int .i64 cp, .int .i64 cx, .int .i64 cy] 28)) ∧ Hid (q.NN g (cp, cx, cy) = some nn) ∧ Hid (q.ex (cp, cx, cy) = true) ∧ Hid (Below w5.heap.size w5 wr)) (fun _ nv _ _ => (intOf nv).toNat)
        case atStart => exact ⟨p, x, y, z1, m0, rfl, rfl, by rw [HMV.out], g2, by omega, hm0, HCB6, HNN, HEX, HB6⟩
        case round =>
          obtain ⟨cp, cx, cy, jj, nn, rfl, rfl, rfl, hj0, hj1, hnl, HCr, HNr, HEr, HBr⟩ := hrel
          rename World => wi
          cases nn with
          | zero =>
            obtain ⟨hig, his, -⟩ := near_zero_in HNr.out
            have hmz : q.mvOf g 0 (cp, cx, cy) = -1 := rfl
            rw [hmz]
            have IG : Hid (∀ w', Below wi.heap.size wi w' → Calls Tryd.prog 29 #[.slice ga q.safe.length gc, .agg #[.int .i64 cp, .int .i64 cx, .int .i64 cy]] w' fun e w'' => e = .returned (.bool true) ∧ Below w'.heap.size w' w'') := fun w' hb => by
              have h := rIn_any _ g q (cp, cx, cy) w' (HGG.out w' (HBr.out.trans (hb.mono HBr.out.size))) HOK.out HFG.out HEr.out
              rw [hig] at h
              exact h
            have IS : Hid (∀ w', Below wi.heap.size wi w' → Calls Tryd.prog 29 #[.slice a1 q.safe.length c1, .agg #[.int .i64 cp, .int .i64 cx, .int .i64 cy]] w' fun e w'' => e = .returned (.bool true) ∧ Below w'.heap.size w' w'') := fun w' hb => by
              have h := rIn_any _ q.safe q (cp, cx, cy) w' (HO.out w' (HBr.out.trans (hb.mono HBr.out.size))).safe HOK.out HOK.out.form HEr.out
              rw [his] at h
              exact h
            have KEEP : Hid (∀ w', Below wi.heap.size wi w' → w'.cell? ⟨X, 0, none⟩ = some (.slice a1 q.safe.length c1) ∧ w'.cell? ⟨X, 1, none⟩ = some (.slice a2 q.moves.length c2) ∧ w'.cell? ⟨X, 2, none⟩ = some (.slice a3 q.jolts.length c3) ∧ w'.cell? ⟨CB, 0, none⟩ = some (.int .i64 cp) ∧ w'.cell? ⟨CB, 1, none⟩ = some (.int .i64 cx) ∧ w'.cell? ⟨CB, 2, none⟩ = some (.int .i64 cy)) := fun w' hb => by
              obtain ⟨e0, e1, e2⟩ := KP.out w' (HBr.out.trans (hb.mono HBr.out.size))
              exact ⟨e0, e1, e2, cells3_of ((hb.block CB (heap_lt HCr.out)).trans HCr.out)⟩
            clear hig his hmz
            have HA0 : Hid (Below wi.heap.size wi wi) := Below.refl _ _
            obtain ⟨x0, x1, x2, x3, x4, x5⟩ := KEEP.out wi HA0.out
            go_wp2_with (first | (go_at_call 29; with_reducible refine (IG.out _ HA0.out).mono ?_; rintro e w7 ⟨rfl, hb7⟩; have HA7 := hid hb7; clear hb7 x0 x1 x2 x3 x4 x5; obtain ⟨x0, x1, x2, x3, x4, x5⟩ := KEEP.out w7 HA7.out) | (go_at_call 29; with_reducible refine (IS.out _ HA7.out).mono ?_; rintro e w8 ⟨rfl, hb8⟩; have HA8 := hid (below_step HA7.out hb8); clear hb8 x0 x1 x2 x3 x4 x5; obtain ⟨x0, x1, x2, x3, x4, x5⟩ := KEEP.out w8 HA8.out) | (go_at_call 19; refine (lives_any _).mono ?_; rintro e w9 ⟨rfl, hb9⟩; have HA9 := hid (below_step HA8.out hb9); clear hb9) | fail)
            go_ret
            exact ⟨rfl, FIN.out _ (below_step HBr.out HA9.out)⟩
          | succ k =>
            obtain ⟨i, hi, hmv, hph, hsafe, hlead⟩ := reach_step HEr.out HNr.out
            have hmi : q.mvOf g (k + 1) (cp, cx, cy) = (i : Int) := hmv
            rw [hmi]
            have hm16 : q.moves.length ≤ 16 := HOK.out.nm
            have hj4 : q.jolts.length ≤ 4 := HOK.out.nj.2
            have hj1' : 1 ≤ q.jolts.length := HOK.out.nj.1
            obtain ⟨ji, hji⟩ : ∃ ji : Nat, jj % (q.jolts.length : Int) = (ji : Int) := ⟨(jj % (q.jolts.length : Int)).toNat, (Int.toNat_of_nonneg (Int.emod_nonneg _ (by omega))).symm⟩
            have hjl : ji < q.jolts.length := by have := Int.emod_lt_of_pos jj (by omega : (0 : Int) < (q.jolts.length : Int)); omega
            have HR1 : Hid (jj.tmod (q.jolts.length : Int) = (ji : Int)) := by show _ = _; rw [Int.tmod_eq_emod_of_nonneg hj0, hji]
            have HR2 : Hid (((ji : Int) + q.jolts.length).tmod (q.jolts.length : Int) = (ji : Int)) := by
              show _ = _
              rw [Int.tmod_eq_emod_of_nonneg (by omega), Int.add_emod_right, Int.emod_eq_of_lt (by omega) (by omega)]
            have HNJ : Hid (¬ q.jolts = []) := fun h => by rw [h] at hjl; simp at hjl
            obtain ⟨jh, hjh⟩ : ∃ jh, jh = jj / 2 := ⟨_, rfl⟩
            have hjh0 : 0 ≤ jh := by omega
            have hjh1 : jh ≤ 50000 := by omega
            have htd : jj.tdiv 2 = jh := by rw [hjh, Int.tdiv_eq_ediv_of_nonneg hj0]
            have hld := hlead q.jolts[ji] (List.getElem_mem hjl)
            have hrm := mvAt_ok HOK.out hi
            have hrj := jlAt_ok HOK.out hjl
            have em : mvAt q.moves i = q.moves[i] := by unfold mvAt; rw [List.getD_eq_getElem?_getD, List.getElem?_eq_getElem hi]; rfl
            have ej : jlAt q.jolts ji = q.jolts[ji] := by unfold jlAt; rw [List.getD_eq_getElem?_getD, List.getElem?_eq_getElem hjl]; rfl
            rw [← em, ← ej] at hld
            rw [← em] at hph
            obtain ⟨g3, rfl, -⟩ := mv_at (HO.out wi HBr.out).moves i hi
            obtain ⟨g4, rfl, -⟩ := jl_at (HO.out wi HBr.out).jolts ji hjl
            have HMC : Hid (∀ w', Below w5.heap.size w5 w' → w'.cell? ⟨g3, i * 4, none⟩ = some (.int .i64 (mvAt q.moves i).1) ∧ w'.cell? ⟨g3, i * 4 + 1, none⟩ = some (.int .i64 (mvAt q.moves i).2.1) ∧ w'.cell? ⟨g3, i * 4 + 2, none⟩ = some (.int .i64 (mvAt q.moves i).2.2.1) ∧ w'.cell? ⟨g3, i * 4 + 3, none⟩ = some (.int .i64 (mvAt q.moves i).2.2.2)) := fun w' hb => by
              obtain ⟨g', hg', _, h⟩ := mv_at (HO.out w' hb).moves i hi
              cases hg'
              exact h
            have HJC : Hid (∀ w', Below w5.heap.size w5 w' → w'.cell? ⟨g4, ji * 2, none⟩ = some (.int .i64 (jlAt q.jolts ji).1) ∧ w'.cell? ⟨g4, ji * 2 + 1, none⟩ = some (.int .i64 (jlAt q.jolts ji).2)) := fun w' hb => by
              obtain ⟨g', hg', _, h⟩ := jl_at (HO.out w' hb).jolts ji hjl
              cases hg'
              exact h
            clear hlead em ej hmv hmi hji hjh
            generalize mvAt q.moves i = mt at *
            generalize jlAt q.jolts ji = jt at *
            obtain ⟨f, t, mx, my⟩ := mt
            obtain ⟨jx, jy⟩ := jt
            dsimp only at HMC HJC hrm hrj hph
            subst hph
            have HRM := hid hrm
            have HRJ := hid hrj
            obtain ⟨dd, hdd⟩ : ∃ dd, dd = stepOf (f, cx, cy) (f, t, mx, my) (jx, jy) := ⟨_, rfl⟩
            rw [← hdd] at hld
            obtain ⟨dp, dx, dy⟩ := dd
            obtain ⟨j, hjk, hnj⟩ := near_of_G hld
            have HDD := hid hdd
            have HDX : Hid (q.ex (dp, dx, dy) = true) := by
              show _ = _
              have h1 := ((NN_some q g (dp, dx, dy) j).1 hnj).1
              exact (G_ex q g j _ h1).1
            have HNJ' := hid hnj
            have hrv := reachV_some (show (q.valid && q.ex (dp, dx, dy)) = true by rw [valid_ok HOK.out, HDX.out]; rfl) HFG.out hnj
            obtain ⟨mv', hmv'⟩ : ∃ mv', mv' = q.mvOf g j (dp, dx, dy) := ⟨_, rfl⟩
            rw [← hmv'] at hrv
            have HMV' := hid hmv'
            have HRV := hid hrv
            have IS : Hid (∀ w', Below w5.heap.size w5 w' → Calls Tryd.prog 29 #[.slice a1 q.safe.length c1, .agg #[.int .i64 f, .int .i64 cx, .int .i64 cy]] w' fun e w'' => e = .returned (.bool true) ∧ Below w'.heap.size w' w'') := fun w' hb => by
              have h := rIn_any _ q.safe q (f, cx, cy) w' (HO.out w' hb).safe HOK.out HOK.out.form HEr.out
              rw [hsafe] at h
              exact h
            have KEEP : Hid (∀ w', Below wi.heap.size wi w' → w'.cell? ⟨X, 0, none⟩ = some (.slice a1 q.safe.length c1) ∧ w'.cell? ⟨X, 1, none⟩ = some (.slice (some ⟨g3, 0, none⟩) q.moves.length c2) ∧ w'.cell? ⟨X, 2, none⟩ = some (.slice (some ⟨g4, 0, none⟩) q.jolts.length c3) ∧ w'.cell? ⟨g3, i * 4, none⟩ = some (.int .i64 f) ∧ w'.cell? ⟨g3, i * 4 + 1, none⟩ = some (.int .i64 t) ∧ w'.cell? ⟨g3, i * 4 + 2, none⟩ = some (.int .i64 mx) ∧ w'.cell? ⟨g3, i * 4 + 3, none⟩ = some (.int .i64 my) ∧ w'.cell? ⟨g4, ji * 2, none⟩ = some (.int .i64 jx) ∧ w'.cell? ⟨g4, ji * 2 + 1, none⟩ = some (.int .i64 jy) ∧ w'.cell? ⟨CB, 0, none⟩ = some (.int .i64 f) ∧ w'.cell? ⟨CB, 1, none⟩ = some (.int .i64 cx) ∧ w'.cell? ⟨CB, 2, none⟩ = some (.int .i64 cy)) := fun w' hb => by
              have hb' := HBr.out.trans (hb.mono HBr.out.size)
              obtain ⟨e0, e1, e2⟩ := KP.out w' hb'
              obtain ⟨f0, f1, f2, f3⟩ := HMC.out w' hb'
              obtain ⟨f4, f5⟩ := HJC.out w' hb'
              exact ⟨e0, e1, e2, f0, f1, f2, f3, f4, f5, cells3_of ((hb.block CB (heap_lt HCr.out)).trans HCr.out)⟩
            clear hrm hrj hdd hld hnj hrv hmv' hsafe
            obtain ⟨x0, x1, x2, -⟩ := KEEP.out wi (Below.refl _ _)
            go_upto_region 26 with fail
            clear x0 x1 x2
            refine wp_region_held_drew (S := fun w' => w'.cell? ⟨X, 0, none⟩ = some (.slice a1 q.safe.length c1) ∧ w'.cell? ⟨X, 1, none⟩ = some (.slice (some ⟨g3, 0, none⟩) q.moves.length c2) ∧ w'.cell? ⟨X, 2, none⟩ = some (.slice (some ⟨g4, 0, none⟩) q.jolts.length c3) ∧ w'.cell? ⟨g3, i * 4, none⟩ = some (.int .i64 f) ∧ w'.cell? ⟨g3, i * 4 + 1, none⟩ = some (.int .i64 t) ∧ w'.cell? ⟨g3, i * 4 + 2, none⟩ = some (.int .i64 mx) ∧ w'.cell? ⟨g3, i * 4 + 3, none⟩ = some (.int .i64 my) ∧ w'.cell? ⟨g4, ji * 2, none⟩ = some (.int .i64 jx) ∧ w'.cell? ⟨g4, ji * 2 + 1, none⟩ = some (.int .i64 jy) ∧ w'.cell? ⟨CB, 0, none⟩ = some (.int .i64 f) ∧ w'.cell? ⟨CB, 1, none⟩ = some (.int .i64 cx) ∧ w'.cell? ⟨CB, 2, none⟩ = some (.int .i64 cy)) (by kernel_rfl) (KEEP.out _ ((Below.refl _ _).drew)) (fun hHeld => ?_)
            refine take_at (i := 0) 125 (v := .int .i64 i) rfl (by kernel_rfl) (by kernel_rfl) (by kernel_rfl) rfl (fun _ _ _ h => h) (by rfl) (fun w hSw => ?_) hHeld ?_
            · (try dsimp only at hSw); go_simp
            simp only [Act.put, List.setIfInBounds_toArray, List.set_cons_zero, List.set_cons_succ]
            refine take_at (i := 1) 126 (v := .bool false) rfl (by kernel_rfl) (by kernel_rfl) (by kernel_rfl) rfl (fun _ _ _ h => h) (by rfl) (fun w hSw => ?_) hHeld ?_
            · (try dsimp only at hSw); go_simp
            simp only [Act.put, List.setIfInBounds_toArray, List.set_cons_zero, List.set_cons_succ]
            refine take_at (i := 2) 127 (v := .bool false) rfl (by kernel_rfl) (by kernel_rfl) (by kernel_rfl) rfl (fun _ _ _ h => h) (by rfl) (fun w hSw => ?_) hHeld ?_
            · (try dsimp only at hSw); go_simp
            simp only [Act.put, List.setIfInBounds_toArray, List.set_cons_zero, List.set_cons_succ]
            refine take_at (i := 3) 128 (v := .int .i64 i) rfl (by kernel_rfl) (by kernel_rfl) (by kernel_rfl) rfl (fun _ _ _ h => h) (by rfl) (fun w hSw => ?_) hHeld ?_
            · (try dsimp only at hSw); go_simp
            simp only [Act.put, List.setIfInBounds_toArray, List.set_cons_zero, List.set_cons_succ]
            refine take_at (i := 4) 129 (v := .pointer (some ⟨X, 1, none⟩)) rfl (by kernel_rfl) (by kernel_rfl) (by kernel_rfl) rfl (fun _ _ _ h => h) (by rfl) (fun w hSw => ?_) hHeld ?_
            · (try dsimp only at hSw); go_simp
            simp only [Act.put, List.setIfInBounds_toArray, List.set_cons_zero, List.set_cons_succ]
            refine take_at (i := 5) 130 (v := .slice (some ⟨g3, 0, none⟩) q.moves.length c2) rfl (by kernel_rfl) (by kernel_rfl) (by kernel_rfl) rfl (fun _ _ _ h => h) (by rfl) (fun w hSw => ?_) hHeld ?_
            · (try dsimp only at hSw); go_simp
            simp only [Act.put, List.setIfInBounds_toArray, List.set_cons_zero, List.set_cons_succ]
            refine take_at (i := 6) 131 (v := .int .i64 q.moves.length) rfl (by kernel_rfl) (by kernel_rfl) (by kernel_rfl) rfl (fun _ _ _ h => h) (by rfl) (fun w hSw => ?_) hHeld ?_
            · (try dsimp only at hSw); go_simp
            simp only [Act.put, List.setIfInBounds_toArray, List.set_cons_zero, List.set_cons_succ]
            refine take_at (i := 7) 132 (v := .bool false) rfl (by kernel_rfl) (by kernel_rfl) (by kernel_rfl) rfl (fun _ _ _ h => h) (by rfl) (fun w hSw => ?_) hHeld ?_
            · (try dsimp only at hSw); go_simp
            simp only [Act.put, List.setIfInBounds_toArray, List.set_cons_zero, List.set_cons_succ]
            refine take_at (i := 8) 133 (v := .bool false) rfl (by kernel_rfl) (by kernel_rfl) (by kernel_rfl) rfl (fun _ _ _ h => h) (by rfl) (fun w hSw => ?_) hHeld ?_
            · (try dsimp only at hSw); go_simp
            simp only [Act.put, List.setIfInBounds_toArray, List.set_cons_zero, List.set_cons_succ]
            refine take_at (i := 9) 134 (v := .bool false) rfl (by kernel_rfl) (by kernel_rfl) (by kernel_rfl) rfl (fun _ _ _ h => h) (by rfl) (fun w hSw => ?_) hHeld ?_
            · (try dsimp only at hSw); go_simp
            simp only [Act.put, List.setIfInBounds_toArray, List.set_cons_zero, List.set_cons_succ]
            refine take_at (i := 10) 135 (v := .pointer (some ⟨X, 1, none⟩)) rfl (by kernel_rfl) (by kernel_rfl) (by kernel_rfl) rfl (fun _ _ _ h => h) (by rfl) (fun w hSw => ?_) hHeld ?_
            · (try dsimp only at hSw); go_simp
            simp only [Act.put, List.setIfInBounds_toArray, List.set_cons_zero, List.set_cons_succ]
            refine take_at (i := 11) 136 (v := .slice (some ⟨g3, 0, none⟩) q.moves.length c2) rfl (by kernel_rfl) (by kernel_rfl) (by kernel_rfl) rfl (fun _ _ _ h => h) (by rfl) (fun w hSw => ?_) hHeld ?_
            · (try dsimp only at hSw); go_simp
            simp only [Act.put, List.setIfInBounds_toArray, List.set_cons_zero, List.set_cons_succ]
            refine take_at (i := 12) 137 (v := .int .i64 i) rfl (by kernel_rfl) (by kernel_rfl) (by kernel_rfl) rfl (fun _ _ _ h => h) (by rfl) (fun w hSw => ?_) hHeld ?_
            · (try dsimp only at hSw); go_simp
            simp only [Act.put, List.setIfInBounds_toArray, List.set_cons_zero, List.set_cons_succ]
            refine take_at (i := 13) 138 (v := .pointer (some ⟨g3, i * 4, none⟩)) rfl (by kernel_rfl) (by kernel_rfl) (by kernel_rfl) rfl (fun _ _ _ h => h) (by rfl) (fun w hSw => ?_) hHeld ?_
            · (try dsimp only at hSw); go_simp
            simp only [Act.put, List.setIfInBounds_toArray, List.set_cons_zero, List.set_cons_succ]
            refine take_at (i := 14) 139 (v := .pointer (some ⟨g3, i * 4, none⟩)) rfl (by kernel_rfl) (by kernel_rfl) (by kernel_rfl) rfl (fun _ _ _ h => h) (by rfl) (fun w hSw => ?_) hHeld ?_
            · (try dsimp only at hSw); go_simp
            simp only [Act.put, List.setIfInBounds_toArray, List.set_cons_zero, List.set_cons_succ]
            refine take_at (i := 15) 140 (v := .int .i64 f) rfl (by kernel_rfl) (by kernel_rfl) (by kernel_rfl) rfl (fun _ _ _ h => h) (by rfl) (fun w hSw => ?_) hHeld ?_
            · (try dsimp only at hSw); go_simp
            simp only [Act.put, List.setIfInBounds_toArray, List.set_cons_zero, List.set_cons_succ]
            refine take_at (i := 16) 141 (v := .pointer (some ⟨CB, 0, none⟩)) rfl (by kernel_rfl) (by kernel_rfl) (by kernel_rfl) rfl (fun _ _ _ h => h) (by rfl) (fun w hSw => ?_) hHeld ?_
            · (try dsimp only at hSw); go_simp
            simp only [Act.put, List.setIfInBounds_toArray, List.set_cons_zero, List.set_cons_succ]
            refine take_at (i := 17) 142 (v := .int .i64 f) rfl (by kernel_rfl) (by kernel_rfl) (by kernel_rfl) rfl (fun _ _ _ h => h) (by rfl) (fun w hSw => ?_) hHeld ?_
            · (try dsimp only at hSw); go_simp
            simp only [Act.put, List.setIfInBounds_toArray, List.set_cons_zero, List.set_cons_succ]
            refine take_at (i := 18) 143 (v := .bool false) rfl (by kernel_rfl) (by kernel_rfl) (by kernel_rfl) rfl (fun _ _ _ h => h) (by rfl) (fun w hSw => ?_) hHeld ?_
            · (try dsimp only at hSw); go_simp
            simp only [Act.put, List.setIfInBounds_toArray, List.set_cons_zero, List.set_cons_succ]
            refine take_at (i := 19) 144 (v := .bool false) rfl (by kernel_rfl) (by kernel_rfl) (by kernel_rfl) rfl (fun _ _ _ h => h) (by rfl) (fun w hSw => ?_) hHeld ?_
            · (try dsimp only at hSw); go_simp
            simp only [Act.put, List.setIfInBounds_toArray, List.set_cons_zero, List.set_cons_succ]
            refine take_at (i := 20) 145 (v := .bool false) rfl (by kernel_rfl) (by kernel_rfl) (by kernel_rfl) rfl (fun _ _ _ h => h) (by rfl) (fun w hSw => ?_) hHeld ?_
            · (try dsimp only at hSw); go_simp
            simp only [Act.put, List.setIfInBounds_toArray, List.set_cons_zero, List.set_cons_succ]
            refine take_at (i := 21) 146 (v := .pointer (some ⟨X, 0, none⟩)) rfl (by kernel_rfl) (by kernel_rfl) (by kernel_rfl) rfl (fun _ _ _ h => h) (by rfl) (fun w hSw => ?_) hHeld ?_
            · (try dsimp only at hSw); go_simp
            simp only [Act.put, List.setIfInBounds_toArray, List.set_cons_zero, List.set_cons_succ]
            refine take_at (i := 22) 147 (v := .slice a1 q.safe.length c1) rfl (by kernel_rfl) (by kernel_rfl) (by kernel_rfl) rfl (fun _ _ _ h => h) (by rfl) (fun w hSw => ?_) hHeld ?_
            · (try dsimp only at hSw); go_simp
            simp only [Act.put, List.setIfInBounds_toArray, List.set_cons_zero, List.set_cons_succ]
            refine take_at (i := 23) 148 (v := .agg #[.int .i64 f, .int .i64 cx, .int .i64 cy]) rfl (by kernel_rfl) (by kernel_rfl) (by kernel_rfl) rfl (fun _ _ _ h => h) (by rfl) (fun w hSw => ?_) hHeld ?_
            · (try dsimp only at hSw); go_simp
            simp only [Act.put, List.setIfInBounds_toArray, List.set_cons_zero, List.set_cons_succ]
            refine wpAnyH_ready (rs := [24]) (by kernel_rfl) (by simp) ?_
            refine node_f29 149 147 148 _ _ rfl (by rfl) rfl rfl rfl rfl ((IS.out _ (HBr.out.drew)).mono ?_) AllReadyH.nil
            · rintro e wy ⟨rfl, hby⟩
              have HBY : Hid (Below wi.heap.size wi wy) := below_step ((Below.refl _ _).drew) hby
              have hHeld := KEEP.out _ HBY.out
              refine ⟨_, rfl, hHeld, ?_⟩
              clear hby
              simp only [Act.put, List.setIfInBounds_toArray, List.set_cons_zero, List.set_cons_succ]
              refine take_at (i := 25) 150 (v := .bool false) rfl (by kernel_rfl) (by kernel_rfl) (by kernel_rfl) rfl (fun _ _ _ h => h) (by rfl) (fun w hSw => ?_) hHeld ?_
              · (try dsimp only at hSw); go_simp
              simp only [Act.put, List.setIfInBounds_toArray, List.set_cons_zero, List.set_cons_succ]
              refine take_at (i := 26) 151 (v := .bool false) rfl (by kernel_rfl) (by kernel_rfl) (by kernel_rfl) rfl (fun _ _ _ h => h) (by rfl) (fun w hSw => ?_) hHeld ?_
              · (try dsimp only at hSw); go_simp
              simp only [Act.put, List.setIfInBounds_toArray, List.set_cons_zero, List.set_cons_succ]
              refine wpAnyH_done (by kernel_rfl) ?_ _
              clear hHeld
              have HCY : Hid (wy.heap[CB]? = some (.cells #[.int .i64 f, .int .i64 cx, .int .i64 cy] 28)) := (HBY.out.block CB (heap_lt HCr.out)).trans HCr.out
              have KEEP28 : Hid (∀ w', Below wy.heap.size wy w' → w'.cell? ⟨X, 0, none⟩ = some (.slice a1 q.safe.length c1) ∧ w'.cell? ⟨X, 1, none⟩ = some (.slice (some ⟨g3, 0, none⟩) q.moves.length c2) ∧ w'.cell? ⟨X, 2, none⟩ = some (.slice (some ⟨g4, 0, none⟩) q.jolts.length c3) ∧ w'.cell? ⟨g3, i * 4, none⟩ = some (.int .i64 f) ∧ w'.cell? ⟨g3, i * 4 + 1, none⟩ = some (.int .i64 t) ∧ w'.cell? ⟨g3, i * 4 + 2, none⟩ = some (.int .i64 mx) ∧ w'.cell? ⟨g3, i * 4 + 3, none⟩ = some (.int .i64 my) ∧ w'.cell? ⟨g4, ji * 2, none⟩ = some (.int .i64 jx) ∧ w'.cell? ⟨g4, ji * 2 + 1, none⟩ = some (.int .i64 jy) ∧ w'.cell? ⟨CB, 0, none⟩ = some (.int .i64 f) ∧ w'.cell? ⟨CB, 1, none⟩ = some (.int .i64 cx) ∧ w'.cell? ⟨CB, 2, none⟩ = some (.int .i64 cy) ∧ Hid (Below wy.heap.size wy w')) := fun w' hb => by
                obtain ⟨f0, f1, f2, f3, f4, f5, f6, f7, f8, f9, f10, f11⟩ := KEEP.out w' (HBY.out.trans (hb.mono HBY.out.size))
                exact ⟨f0, f1, f2, f3, f4, f5, f6, f7, f8, f9, f10, f11, hb⟩
              have HV0 : Hid (Below wy.heap.size wy wy.drew) := (Below.refl _ _).drew
              have STEP : Hid (∀ w', Below wy.heap.size wy w' → Calls Tryd.prog 30 #[.agg #[.slice a1 q.safe.length c1, .slice (some ⟨g3, 0, none⟩) q.moves.length c2, .slice (some ⟨g4, 0, none⟩) q.jolts.length c3], .agg #[.int .i64 f, .int .i64 cx, .int .i64 cy], .agg #[.int .i64 f, .int .i64 t, .int .i64 mx, .int .i64 my], .agg #[.int .i64 jx, .int .i64 jy]] w' fun e w'' => e = .returned (.tuple #[.agg #[.int .i64 dp, .int .i64 dx, .int .i64 dy], .bool true]) ∧ Below w'.heap.size w' w'') := fun w' hb => by
                have h := rStep_any _ _ _ q (f, cx, cy) (f, t, mx, my) (jx, jy) w' (HO.out w' ((below_step HBr.out HBY.out).trans (hb.mono (below_step HBr.out HBY.out).size))) (dim_of_ok HOK.out) (inR_ex HOK.out HEr.out) HRM.out HRJ.out
                rw [← HDD.out, HDX.out] at h
                exact h
              obtain ⟨y0, y1, y2, -⟩ := KEEP28.out wy (Below.refl _ _)
              go_upto_region 28 with fail
              clear y0 y1 y2
              refine wp_region_held_drew (S := fun w' => w'.cell? ⟨X, 0, none⟩ = some (.slice a1 q.safe.length c1) ∧ w'.cell? ⟨X, 1, none⟩ = some (.slice (some ⟨g3, 0, none⟩) q.moves.length c2) ∧ w'.cell? ⟨X, 2, none⟩ = some (.slice (some ⟨g4, 0, none⟩) q.jolts.length c3) ∧ w'.cell? ⟨g3, i * 4, none⟩ = some (.int .i64 f) ∧ w'.cell? ⟨g3, i * 4 + 1, none⟩ = some (.int .i64 t) ∧ w'.cell? ⟨g3, i * 4 + 2, none⟩ = some (.int .i64 mx) ∧ w'.cell? ⟨g3, i * 4 + 3, none⟩ = some (.int .i64 my) ∧ w'.cell? ⟨g4, ji * 2, none⟩ = some (.int .i64 jx) ∧ w'.cell? ⟨g4, ji * 2 + 1, none⟩ = some (.int .i64 jy) ∧ w'.cell? ⟨CB, 0, none⟩ = some (.int .i64 f) ∧ w'.cell? ⟨CB, 1, none⟩ = some (.int .i64 cx) ∧ w'.cell? ⟨CB, 2, none⟩ = some (.int .i64 cy) ∧ Hid (Below wy.heap.size wy w')) (by kernel_rfl) (KEEP28.out _ HV0.out) (fun hHeld => ?_)
              generalize wy.drew = v0 at *
              refine take_at (i := 0) 153 (v := .agg #[.slice a1 q.safe.length c1, .slice (some ⟨g3, 0, none⟩) q.moves.length c2, .slice (some ⟨g4, 0, none⟩) q.jolts.length c3]) rfl (by kernel_rfl) (by kernel_rfl) (by kernel_rfl) rfl (fun _ _ _ h => h) (by rfl) (fun w hSw => ?_) hHeld ?_
              · (try dsimp only at hSw); go_simp
              simp only [Act.put, List.setIfInBounds_toArray, List.set_cons_zero, List.set_cons_succ]
              refine take_at (i := 1) 154 (v := .agg #[.int .i64 f, .int .i64 cx, .int .i64 cy]) rfl (by kernel_rfl) (by kernel_rfl) (by kernel_rfl) rfl (fun _ _ _ h => h) (by rfl) (fun w hSw => ?_) hHeld ?_
              · (try dsimp only at hSw); go_simp
              simp only [Act.put, List.setIfInBounds_toArray, List.set_cons_zero, List.set_cons_succ]
              refine take_at (i := 2) 155 (v := .pointer (some ⟨X, 1, none⟩)) rfl (by kernel_rfl) (by kernel_rfl) (by kernel_rfl) rfl (fun _ _ _ h => h) (by rfl) (fun w hSw => ?_) hHeld ?_
              · (try dsimp only at hSw); go_simp
              simp only [Act.put, List.setIfInBounds_toArray, List.set_cons_zero, List.set_cons_succ]
              refine take_at (i := 3) 156 (v := .slice (some ⟨g3, 0, none⟩) q.moves.length c2) rfl (by kernel_rfl) (by kernel_rfl) (by kernel_rfl) rfl (fun _ _ _ h => h) (by rfl) (fun w hSw => ?_) hHeld ?_
              · (try dsimp only at hSw); go_simp
              simp only [Act.put, List.setIfInBounds_toArray, List.set_cons_zero, List.set_cons_succ]
              refine take_at (i := 4) 157 (v := .int .i64 i) rfl (by kernel_rfl) (by kernel_rfl) (by kernel_rfl) rfl (fun _ _ _ h => h) (by rfl) (fun w hSw => ?_) hHeld ?_
              · (try dsimp only at hSw); go_simp
              simp only [Act.put, List.setIfInBounds_toArray, List.set_cons_zero, List.set_cons_succ]
              refine take_at (i := 5) 158 (v := .pointer (some ⟨g3, i * 4, none⟩)) rfl (by kernel_rfl) (by kernel_rfl) (by kernel_rfl) rfl (fun _ _ _ h => h) (by rfl) (fun w hSw => ?_) hHeld ?_
              · (try dsimp only at hSw); go_simp
              simp only [Act.put, List.setIfInBounds_toArray, List.set_cons_zero, List.set_cons_succ]
              refine take_at (i := 6) 159 (v := .agg #[.int .i64 f, .int .i64 t, .int .i64 mx, .int .i64 my]) rfl (by kernel_rfl) (by kernel_rfl) (by kernel_rfl) rfl (fun _ _ _ h => h) (by rfl) (fun w hSw => ?_) hHeld ?_
              · (try dsimp only at hSw); go_simp
              simp only [Act.put, List.setIfInBounds_toArray, List.set_cons_zero, List.set_cons_succ]
              refine take_at (i := 7) 160 (v := .pointer (some ⟨X, 2, none⟩)) rfl (by kernel_rfl) (by kernel_rfl) (by kernel_rfl) rfl (fun _ _ _ h => h) (by rfl) (fun w hSw => ?_) hHeld ?_
              · (try dsimp only at hSw); go_simp
              simp only [Act.put, List.setIfInBounds_toArray, List.set_cons_zero, List.set_cons_succ]
              refine take_at (i := 8) 161 (v := .slice (some ⟨g4, 0, none⟩) q.jolts.length c3) rfl (by kernel_rfl) (by kernel_rfl) (by kernel_rfl) rfl (fun _ _ _ h => h) (by rfl) (fun w hSw => ?_) hHeld ?_
              · (try dsimp only at hSw); go_simp
              simp only [Act.put, List.setIfInBounds_toArray, List.set_cons_zero, List.set_cons_succ]
              refine take_at (i := 9) 162 (v := .int .i64 jj) rfl (by kernel_rfl) (by kernel_rfl) (by kernel_rfl) rfl (fun _ _ _ h => h) (by rfl) (fun w hSw => ?_) hHeld ?_
              · (try dsimp only at hSw); go_simp
              simp only [Act.put, List.setIfInBounds_toArray, List.set_cons_zero, List.set_cons_succ]
              refine take_at (i := 10) 163 (v := .pointer (some ⟨X, 2, none⟩)) rfl (by kernel_rfl) (by kernel_rfl) (by kernel_rfl) rfl (fun _ _ _ h => h) (by rfl) (fun w hSw => ?_) hHeld ?_
              · (try dsimp only at hSw); go_simp
              simp only [Act.put, List.setIfInBounds_toArray, List.set_cons_zero, List.set_cons_succ]
              refine take_at (i := 11) 164 (v := .slice (some ⟨g4, 0, none⟩) q.jolts.length c3) rfl (by kernel_rfl) (by kernel_rfl) (by kernel_rfl) rfl (fun _ _ _ h => h) (by rfl) (fun w hSw => ?_) hHeld ?_
              · (try dsimp only at hSw); go_simp
              simp only [Act.put, List.setIfInBounds_toArray, List.set_cons_zero, List.set_cons_succ]
              refine take_at (i := 12) 165 (v := .int .i64 q.jolts.length) rfl (by kernel_rfl) (by kernel_rfl) (by kernel_rfl) rfl (fun _ _ _ h => h) (by rfl) (fun w hSw => ?_) hHeld ?_
              · (try dsimp only at hSw); go_simp
              simp only [Act.put, List.setIfInBounds_toArray, List.set_cons_zero, List.set_cons_succ]
              refine take_at (i := 13) 166 (v := .int .i64 ji) rfl (by kernel_rfl) (by kernel_rfl) (by kernel_rfl) rfl (fun _ _ _ h => h) (by rfl) (fun w hSw => ?_) hHeld ?_
              · (try dsimp only at hSw); go_simp; rw [if_neg HNJ.out, HR1.out]
              simp only [Act.put, List.setIfInBounds_toArray, List.set_cons_zero, List.set_cons_succ]
              refine take_at (i := 14) 167 (v := .pointer (some ⟨X, 2, none⟩)) rfl (by kernel_rfl) (by kernel_rfl) (by kernel_rfl) rfl (fun _ _ _ h => h) (by rfl) (fun w hSw => ?_) hHeld ?_
              · (try dsimp only at hSw); go_simp
              simp only [Act.put, List.setIfInBounds_toArray, List.set_cons_zero, List.set_cons_succ]
              refine take_at (i := 15) 168 (v := .slice (some ⟨g4, 0, none⟩) q.jolts.length c3) rfl (by kernel_rfl) (by kernel_rfl) (by kernel_rfl) rfl (fun _ _ _ h => h) (by rfl) (fun w hSw => ?_) hHeld ?_
              · (try dsimp only at hSw); go_simp
              simp only [Act.put, List.setIfInBounds_toArray, List.set_cons_zero, List.set_cons_succ]
              refine take_at (i := 16) 169 (v := .int .i64 q.jolts.length) rfl (by kernel_rfl) (by kernel_rfl) (by kernel_rfl) rfl (fun _ _ _ h => h) (by rfl) (fun w hSw => ?_) hHeld ?_
              · (try dsimp only at hSw); go_simp
              simp only [Act.put, List.setIfInBounds_toArray, List.set_cons_zero, List.set_cons_succ]
              refine take_at (i := 17) 170 (v := .int .i64 ((ji : Int) + q.jolts.length)) rfl (by kernel_rfl) (by kernel_rfl) (by kernel_rfl) rfl (fun _ _ _ h => h) (by rfl) (fun w hSw => ?_) hHeld ?_
              · (try dsimp only at hSw); go_simp; rw [IntKind.wrap_i64]; omega
              simp only [Act.put, List.setIfInBounds_toArray, List.set_cons_zero, List.set_cons_succ]
              refine take_at (i := 18) 171 (v := .pointer (some ⟨X, 2, none⟩)) rfl (by kernel_rfl) (by kernel_rfl) (by kernel_rfl) rfl (fun _ _ _ h => h) (by rfl) (fun w hSw => ?_) hHeld ?_
              · (try dsimp only at hSw); go_simp
              simp only [Act.put, List.setIfInBounds_toArray, List.set_cons_zero, List.set_cons_succ]
              refine take_at (i := 19) 172 (v := .slice (some ⟨g4, 0, none⟩) q.jolts.length c3) rfl (by kernel_rfl) (by kernel_rfl) (by kernel_rfl) rfl (fun _ _ _ h => h) (by rfl) (fun w hSw => ?_) hHeld ?_
              · (try dsimp only at hSw); go_simp
              simp only [Act.put, List.setIfInBounds_toArray, List.set_cons_zero, List.set_cons_succ]
              refine take_at (i := 20) 173 (v := .int .i64 q.jolts.length) rfl (by kernel_rfl) (by kernel_rfl) (by kernel_rfl) rfl (fun _ _ _ h => h) (by rfl) (fun w hSw => ?_) hHeld ?_
              · (try dsimp only at hSw); go_simp
              simp only [Act.put, List.setIfInBounds_toArray, List.set_cons_zero, List.set_cons_succ]
              refine take_at (i := 21) 174 (v := .int .i64 ji) rfl (by kernel_rfl) (by kernel_rfl) (by kernel_rfl) rfl (fun _ _ _ h => h) (by rfl) (fun w hSw => ?_) hHeld ?_
              · (try dsimp only at hSw); go_simp; rw [if_neg HNJ.out, HR2.out]
              simp only [Act.put, List.setIfInBounds_toArray, List.set_cons_zero, List.set_cons_succ]
              refine take_at (i := 22) 175 (v := .pointer (some ⟨g4, ji * 2, none⟩)) rfl (by kernel_rfl) (by kernel_rfl) (by kernel_rfl) rfl (fun _ _ _ h => h) (by rfl) (fun w hSw => ?_) hHeld ?_
              · (try dsimp only at hSw); go_simp
              simp only [Act.put, List.setIfInBounds_toArray, List.set_cons_zero, List.set_cons_succ]
              refine take_at (i := 23) 176 (v := .agg #[.int .i64 jx, .int .i64 jy]) rfl (by kernel_rfl) (by kernel_rfl) (by kernel_rfl) rfl (fun _ _ _ h => h) (by rfl) (fun w hSw => ?_) hHeld ?_
              · (try dsimp only at hSw); go_simp
              simp only [Act.put, List.setIfInBounds_toArray, List.set_cons_zero, List.set_cons_succ]
              refine wpAnyH_ready (rs := [24, 28]) (by kernel_rfl) (by simp) ?_
              refine node_f30 177 153 154 159 176 _ _ _ _ rfl (by rfl) rfl rfl rfl rfl rfl rfl ((STEP.out _ HV0.out).mono ?_) ?_
              · rintro e v1 ⟨rfl, hb1⟩
                have HR1 := hid (below_step HV0.out hb1)
                have hHeld := KEEP28.out _ HR1.out
                refine ⟨_, rfl, hHeld, ?_⟩
                clear hb1
                simp only [Act.put, List.setIfInBounds_toArray, List.set_cons_zero, List.set_cons_succ]
                refine take_at (i := 25) 152 (v := .tuple #[.agg #[.int .i64 dp, .int .i64 dx, .int .i64 dy], .bool true]) rfl (by kernel_rfl) (by kernel_rfl) (by kernel_rfl) rfl (fun _ _ _ h => h) (by rfl) (fun w hSw => ?_) hHeld ?_
                · (try dsimp only at hSw); go_simp
                simp only [Act.put, List.setIfInBounds_toArray, List.set_cons_zero, List.set_cons_succ]
                refine take_at (i := 26) 178 (v := .agg #[.int .i64 dp, .int .i64 dx, .int .i64 dy]) rfl (by kernel_rfl) (by kernel_rfl) (by kernel_rfl) rfl (fun _ _ _ h => h) (by rfl) (fun w hSw => ?_) hHeld ?_
                · (try dsimp only at hSw); go_simp
                simp only [Act.put, List.setIfInBounds_toArray, List.set_cons_zero, List.set_cons_succ]
                refine take_at (i := 27) 179 (v := .bool true) rfl (by kernel_rfl) (by kernel_rfl) (by kernel_rfl) rfl (fun _ _ _ h => h) (by rfl) (fun w hSw => ?_) hHeld ?_
                · (try dsimp only at hSw); go_simp
                simp only [Act.put, List.setIfInBounds_toArray, List.set_cons_zero, List.set_cons_succ]
                refine wpAnyH_ready (rs := [28]) (by kernel_rfl) (by simp) ?_
                refine node_alloc28 21 rfl rfl rfl rfl (KEEP28.out _ (Below.alloc HR1.out (Below.size HR1.out) _)) (fun hHeld => ?_) AllReadyH.nil
                · have HR2 := hid (Below.alloc HR1.out (Below.size HR1.out) (.cells #[.int .i64 0, .int .i64 0, .int .i64 0] 28))
                  have hz2 := heap_alloc_new v1 (.cells #[.int .i64 0, .int .i64 0, .int .i64 0] 28)
                  have hg2 := HR1.out.size
                  obtain ⟨BX, hBX⟩ : ∃ BX, BX = v1.heap.size := ⟨_, rfl⟩
                  rw [← hBX] at hz2 hg2 ⊢
                  obtain ⟨v2, hv2⟩ : ∃ v, v = v1.alloc (.cells #[.int .i64 0, .int .i64 0, .int .i64 0] 28) := ⟨_, rfl⟩
                  rw [← hv2] at hz2 HR2 ⊢
                  have HGX := hid hg2
                  replace hHeld := KEEP28.out _ HR2.out
                  clear hBX hv2 hg2
                  simp only [Act.put, List.setIfInBounds_toArray, List.set_cons_zero, List.set_cons_succ]
                  refine wpAnyH_ready (rs := [29]) (by kernel_rfl) (by simp) ?_
                  refine node_store28 21 178 BX _ _ _ dp dx dy rfl rfl rfl rfl rfl rfl hz2 (KEEP28.out _ (below_store3 HR2.out HGX.out)) ?_ AllReadyH.nil
                  · have HR3 := hid (below_store3 (x := .int .i64 dp) (y := .int .i64 dx) (z := .int .i64 dy) HR2.out HGX.out)
                    have hz3 := store3 (x := .int .i64 dp) (y := .int .i64 dx) (z := .int .i64 dy) hz2
                    obtain ⟨v3, hv3⟩ : ∃ v, v = ((v2.setCell ⟨BX, 0, none⟩ (.int .i64 dp)).setCell ⟨BX, 1, none⟩ (.int .i64 dx)).setCell ⟨BX, 2, none⟩ (.int .i64 dy) := ⟨_, rfl⟩
                    rw [← hv3] at hz3 HR3 ⊢
                    have hHeld := KEEP28.out _ HR3.out
                    clear hv3
                    refine take_at (i := 30) 22 (v := .bool true) rfl (by kernel_rfl) (by kernel_rfl) (by kernel_rfl) rfl (fun _ _ _ h => h) (by rfl) (fun w hSw => ?_) hHeld ?_
                    · (try dsimp only at hSw); go_simp
                    simp only [Act.put, List.setIfInBounds_toArray, List.set_cons_zero, List.set_cons_succ]
                    refine wpAnyH_done (by kernel_rfl) ?_ _
                    clear hHeld
                    obtain ⟨y0, y1, y2, -⟩ := KEEP28.out v3 HR3.out
                    obtain ⟨u0, u1, u2⟩ := cells3_of hz3
                    have HZX := hid hz3
                    have HCK : Hid (v3.heap[CB]? = some (.cells #[.int .i64 f, .int .i64 cx, .int .i64 cy] 28)) := (HR3.out.block CB (heap_lt HCY.out)).trans HCY.out
                    have HW : Hid (Below w5.heap.size w5 v3) := below_step (below_step HBr.out HBY.out) HR3.out
                    skip
                    have CR0 : Hid (Calls Tryd.prog 40 #[.agg #[.slice a1 q.safe.length c1, .slice (some ⟨g3, 0, none⟩) q.moves.length c2, .slice (some ⟨g4, 0, none⟩) q.jolts.length c3], .slice ga q.safe.length gc, .agg #[.int .i64 dp, .int .i64 dx, .int .i64 dy]] v3 fun e w'' => e = .returned (.tuple #[.int .i64 j, .int .i64 mv', .int .i64 0]) ∧ Below v3.heap.size v3 w'') := by
                      have h := CR.out v3 (dp, dx, dy) HW.out
                      rw [HRV.out] at h
                      exact h
                    have hd1 : decide (k + 1 ≤ j) = false := decide_eq_false (by omega)
                    have hd2 : decide ((k : Int) + 1 ≤ (j : Int)) = false := decide_eq_false (by omega)
                    have hd3 : decide ((j : Int) < 0) = false := decide_eq_false (by omega)
                    go_upto_region 35 with (first | (go_at_call 40; refine (CR0.out).mono ?_; rintro e w6 ⟨rfl, hb6⟩; have HB6 := hid (below_step HW.out hb6); have HCB6 := hid ((hb6.block CB (heap_lt HCK.out)).trans HCK.out); have HZX6 := hid ((hb6.block BX (heap_lt HZX.out)).trans HZX.out); clear hb6) | fail)
                    clear y0 y1 y2 u0 u1 u2
                    obtain ⟨u0, u1, u2⟩ := cells3_of HZX6.out
                    obtain ⟨e0, e1, e2⟩ := cells3_of HCB6.out
                    obtain ⟨f0, f1, f2⟩ := free3_of HCB6.out
                    go_wp2_with fail
                    go_roundw
                    case rel => exact ⟨dp, dx, dy, jh + 3 * ((k : Int) + 1), j, by go_num, rfl, by rw [HMV'.out], by omega, by omega, by omega, store3 HCB6.out, HNJ'.out, HDX.out, below_store3 HB6.out HLE.out⟩
                    case measure => simp [intOf]; omega
              refine node_alloc28 21 rfl rfl rfl rfl (KEEP28.out _ (Below.alloc HV0.out (Below.size HV0.out) _)) (fun hHeld => ?_) AllReadyH.nil
              · have HR1 := hid (Below.alloc HV0.out (Below.size HV0.out) (.cells #[.int .i64 0, .int .i64 0, .int .i64 0] 28))
                have hz1 := heap_alloc_new v0 (.cells #[.int .i64 0, .int .i64 0, .int .i64 0] 28)
                have hg1 := HV0.out.size
                obtain ⟨BX, hBX⟩ : ∃ BX, BX = v0.heap.size := ⟨_, rfl⟩
                rw [← hBX] at hz1 hg1 ⊢
                obtain ⟨v1, hv1⟩ : ∃ v, v = v0.alloc (.cells #[.int .i64 0, .int .i64 0, .int .i64 0] 28) := ⟨_, rfl⟩
                rw [← hv1] at hz1 HR1 ⊢
                have HGX := hid hg1
                replace hHeld := KEEP28.out _ HR1.out
                clear hBX hv1 hg1
                simp only [Act.put, List.setIfInBounds_toArray, List.set_cons_zero, List.set_cons_succ]
                refine wpAnyH_ready (rs := [24]) (by kernel_rfl) (by simp) ?_
                refine node_f30 177 153 154 159 176 _ _ _ _ rfl (by rfl) rfl rfl rfl rfl rfl rfl ((STEP.out _ HR1.out).mono ?_) AllReadyH.nil
                · rintro e v2 ⟨rfl, hb2⟩
                  have HR2 := hid (below_step HR1.out hb2)
                  have hz2 := (hb2.block _ (heap_lt hz1)).trans hz1
                  have hHeld := KEEP28.out _ HR2.out
                  refine ⟨_, rfl, hHeld, ?_⟩
                  clear hb2
                  simp only [Act.put, List.setIfInBounds_toArray, List.set_cons_zero, List.set_cons_succ]
                  refine take_at (i := 25) 152 (v := .tuple #[.agg #[.int .i64 dp, .int .i64 dx, .int .i64 dy], .bool true]) rfl (by kernel_rfl) (by kernel_rfl) (by kernel_rfl) rfl (fun _ _ _ h => h) (by rfl) (fun w hSw => ?_) hHeld ?_
                  · (try dsimp only at hSw); go_simp
                  simp only [Act.put, List.setIfInBounds_toArray, List.set_cons_zero, List.set_cons_succ]
                  refine take_at (i := 26) 178 (v := .agg #[.int .i64 dp, .int .i64 dx, .int .i64 dy]) rfl (by kernel_rfl) (by kernel_rfl) (by kernel_rfl) rfl (fun _ _ _ h => h) (by rfl) (fun w hSw => ?_) hHeld ?_
                  · (try dsimp only at hSw); go_simp
                  simp only [Act.put, List.setIfInBounds_toArray, List.set_cons_zero, List.set_cons_succ]
                  refine take_at (i := 27) 179 (v := .bool true) rfl (by kernel_rfl) (by kernel_rfl) (by kernel_rfl) rfl (fun _ _ _ h => h) (by rfl) (fun w hSw => ?_) hHeld ?_
                  · (try dsimp only at hSw); go_simp
                  simp only [Act.put, List.setIfInBounds_toArray, List.set_cons_zero, List.set_cons_succ]
                  refine wpAnyH_ready (rs := [29]) (by kernel_rfl) (by simp) ?_
                  refine node_store28 21 178 BX _ _ _ dp dx dy rfl rfl rfl rfl rfl rfl hz2 (KEEP28.out _ (below_store3 HR2.out HGX.out)) ?_ AllReadyH.nil
                  · have HR3 := hid (below_store3 (x := .int .i64 dp) (y := .int .i64 dx) (z := .int .i64 dy) HR2.out HGX.out)
                    have hz3 := store3 (x := .int .i64 dp) (y := .int .i64 dx) (z := .int .i64 dy) hz2
                    obtain ⟨v3, hv3⟩ : ∃ v, v = ((v2.setCell ⟨BX, 0, none⟩ (.int .i64 dp)).setCell ⟨BX, 1, none⟩ (.int .i64 dx)).setCell ⟨BX, 2, none⟩ (.int .i64 dy) := ⟨_, rfl⟩
                    rw [← hv3] at hz3 HR3 ⊢
                    have hHeld := KEEP28.out _ HR3.out
                    clear hv3
                    refine take_at (i := 30) 22 (v := .bool true) rfl (by kernel_rfl) (by kernel_rfl) (by kernel_rfl) rfl (fun _ _ _ h => h) (by rfl) (fun w hSw => ?_) hHeld ?_
                    · (try dsimp only at hSw); go_simp
                    simp only [Act.put, List.setIfInBounds_toArray, List.set_cons_zero, List.set_cons_succ]
                    refine wpAnyH_done (by kernel_rfl) ?_ _
                    clear hHeld
                    obtain ⟨y0, y1, y2, -⟩ := KEEP28.out v3 HR3.out
                    obtain ⟨u0, u1, u2⟩ := cells3_of hz3
                    have HZX := hid hz3
                    have HCK : Hid (v3.heap[CB]? = some (.cells #[.int .i64 f, .int .i64 cx, .int .i64 cy] 28)) := (HR3.out.block CB (heap_lt HCY.out)).trans HCY.out
                    have HW : Hid (Below w5.heap.size w5 v3) := below_step (below_step HBr.out HBY.out) HR3.out
                    skip
                    have CR0 : Hid (Calls Tryd.prog 40 #[.agg #[.slice a1 q.safe.length c1, .slice (some ⟨g3, 0, none⟩) q.moves.length c2, .slice (some ⟨g4, 0, none⟩) q.jolts.length c3], .slice ga q.safe.length gc, .agg #[.int .i64 dp, .int .i64 dx, .int .i64 dy]] v3 fun e w'' => e = .returned (.tuple #[.int .i64 j, .int .i64 mv', .int .i64 0]) ∧ Below v3.heap.size v3 w'') := by
                      have h := CR.out v3 (dp, dx, dy) HW.out
                      rw [HRV.out] at h
                      exact h
                    have hd1 : decide (k + 1 ≤ j) = false := decide_eq_false (by omega)
                    have hd2 : decide ((k : Int) + 1 ≤ (j : Int)) = false := decide_eq_false (by omega)
                    have hd3 : decide ((j : Int) < 0) = false := decide_eq_false (by omega)
                    go_upto_region 35 with (first | (go_at_call 40; refine (CR0.out).mono ?_; rintro e w6 ⟨rfl, hb6⟩; have HB6 := hid (below_step HW.out hb6); have HCB6 := hid ((hb6.block CB (heap_lt HCK.out)).trans HCK.out); have HZX6 := hid ((hb6.block BX (heap_lt HZX.out)).trans HZX.out); clear hb6) | fail)
                    clear y0 y1 y2 u0 u1 u2
                    obtain ⟨u0, u1, u2⟩ := cells3_of HZX6.out
                    obtain ⟨e0, e1, e2⟩ := cells3_of HCB6.out
                    obtain ⟨f0, f1, f2⟩ := free3_of HCB6.out
                    go_wp2_with fail
                    go_roundw
                    case rel => exact ⟨dp, dx, dy, jh + 3 * ((k : Int) + 1), j, by go_num, rfl, by rw [HMV'.out], by omega, by omega, by omega, store3 HCB6.out, HNJ'.out, HDX.out, below_store3 HB6.out HLE.out⟩
                    case measure => simp [intOf]; omega
end Go.Proofs.YtjonbhimbhidpaaDoor
