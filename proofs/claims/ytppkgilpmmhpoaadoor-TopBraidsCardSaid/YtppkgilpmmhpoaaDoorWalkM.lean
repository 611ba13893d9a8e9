/-
  Drawn (4) of the braid with an odd number of crossings.
-/
import Derived.Test.YtppkgilpmmhpoaaDoorWalkJ
import Derived.Test.YtppkgilpmmhpoaaDoorWalkL
namespace Go.Proofs.YtppkgilpmmhpoaaDoor
open Go.RowKit
theorem range_snoc (y : Nat) : (List.range y).map iv ++ [.int .i64 (y : Int)] = (List.range (y + 1)).map iv := by
  rw [List.range_succ, List.map_append]; rfl
/-- the measure of the search -/
def msr (n : Nat) : Value → Nat
  | .slice (some ad) l _ => if l = 0 then 0 else if ad.off = 0 then n + 1 else l
  | _ => 0
theorem range_at {m j : Nat} (h : j < m) : ((List.range m).map iv).getD j undef = iv j := by
  rw [List.getD_eq_getElem?_getD, List.getElem?_map, List.getElem?_range h]; rfl
set_option maxRecDepth 100000 in
set_option maxHeartbeats 8000000 in
theorem drawn_odd (n wb wc : Nat) (w : World) (hn : 1 ≤ n ∧ n ≤ 10) (hp : n % 2 = 1) (hw : Wrd w n 0 wb) :
    Calls Tryd.prog 4 #[.slice (some ⟨wb, 0, none⟩) (2 * n) wc] w fun e w' => e = .returned (.tuple #[.bool true, .int .i64 0]) ∧ Below w.heap.size w w' := by
  have RC := hid (read_cur n wb wc w hn hw)
  have HN := hid hn
  obtain ⟨hn1, hn10⟩ := hn
  clear hw
  generalize 2 * n = m at *
  go_enter Tryd.func4, Tryd.ntmps4
  go_upto_region 2 with (first | (go_at_call 12; refine RC.out.mono ?_; rintro e w1 ⟨D, pb, gs, cs, rfl, HC, hb1⟩; have HB1 := hid hb1; clear hb1) | fail)
  obtain ⟨X, hX⟩ : ∃ X, X = w1.heap.size := ⟨_, rfl⟩
  obtain ⟨w2, hw2⟩ : ∃ v, v = w1.alloc (.cells #[.pointer (some ⟨D, 0, none⟩)] 39) := ⟨_, rfl⟩
  rw [← hX, ← hw2]
  have HB12 : Hid (Below w1.heap.size w1 w2) := by rw [hw2]; exact ba _ _
  have HX : Hid (∀ w', Below w2.heap.size w2 w' → w'.cell? ⟨X, 0, none⟩ = some (.pointer (some ⟨D, 0, none⟩))) := by
    have h : w2.heap[X]? = some (.cells #[.pointer (some ⟨D, 0, none⟩)] 39) := by rw [hw2, hX]; exact heap_alloc_new _ _
    exact fun w' hb => box1 ((hb.block X (heap_lt h)).trans h)
  clear hw2 hX
  have KB : Hid (∀ w', Below w2.heap.size w2 w' → w'.cell? ⟨D, 0, none⟩ = some (.int .i64 (n : Int))) := fun w' hb => (cells3_of (HC.out.below (HB12.out.trans (hb.mono HB12.out.size))).box).1
  have k0 := KB.out w2 (Below.refl _ _)
  have q0 := HX.out w2 (Below.refl _ _)
  have IC : Hid (∀ w' x y, Below w2.heap.size w2 w' → x < n → y < n → Calls Tryd.prog 14 #[.pointer (some ⟨D, 0, none⟩), .int .i64 (x : Int), .int .i64 (y : Int)] w' fun e w'' => e = .returned (.bool (x != y)) ∧ Below w'.heap.size w' w'') := fun w' x y hb hx hy => inter_any D n wb wc pb gs cs x y w' (HC.out.below (HB12.out.trans (hb.mono HB12.out.size))) hx hy
  go_upto_region 6 with fail
  clear k0 q0
  go_loopw [28] (fun xv wr => ∃ x : Nat, xv = .int .i64 x ∧ x ≤ n ∧ Hid (Below w2.heap.size w2 wr)) (fun xv _ => n - (intOf xv).toNat)
  case atStart => exact ⟨0, rfl, Nat.zero_le _, Below.refl _ _⟩
  case round =>
    obtain ⟨x, rfl, hx, HBr⟩ := hrel
    rename World => wr
    by_cases hlt : x < n
    · have BC := hid (both_any X D n wb wc pb gs cs x x wr (HC.out.below (HB12.out.trans (HBr.out.mono HB12.out.size))) (HX.out wr HBr.out) hlt hlt)
      rw [par_diag HN.out hlt] at BC
      have e2 : (((n - 1 : Nat) : Int)).tmod 2 = 0 := by rw [Int.tmod_eq_emod_of_nonneg (by omega)]; omega
      go_wp2_with (first | (go_at_call 13; refine BC.out.mono ?_; rintro e w3 ⟨rfl, hb3⟩; have HB3 := hid (below_step HBr.out hb3); clear hb3) | fail)
      clear e2 BC
      go_loopw [38] (fun yv wk => ∃ y : Nat, yv = .int .i64 y ∧ y ≤ x ∧ Hid (Below w2.heap.size w2 wk)) (fun yv _ => x - (intOf yv).toNat)
      case atStart => exact ⟨0, rfl, Nat.zero_le _, HB3⟩
      case round =>
        obtain ⟨y, rfl, hy, HBk⟩ := hrel
        rename World => wk
        by_cases hlt2 : y < x
        · have q0 := HX.out wk HBk.out
          have ICC := hid (IC.out wk x y HBk.out hlt (by omega))
          rw [show (x != y) = true by simp; omega] at ICC
          go_wp2_with (first | (go_at_call 14; refine ICC.out.mono ?_; rintro e w4 ⟨rfl, hb4⟩; have HB4 := hid (below_step HBk.out hb4); clear hb4) | fail)
          go_roundw
          case rel => first | exact ⟨y + 1, by go_num, by omega, HB4⟩ | ((repeat apply Exists.intro); exact ⟨⟨y + 1, by go_num, by omega, HB4⟩, rfl⟩)
          case measure => simp [intOf]; omega
        · obtain rfl : x = y := by omega
          go_wp2_with fail
          go_roundw
          case rel => first | exact ⟨x + 1, by go_num, by omega, HBk⟩ | ((repeat apply Exists.intro); exact ⟨⟨x + 1, by go_num, by omega, HBk⟩, rfl⟩)
          case measure => simp [intOf]; omega
    · obtain rfl : n = x := by omega
      have q0 := HX.out wr HBr.out
      have k0 := KB.out wr HBr.out
      have hb10 := ba wr (.cells #[.int .i64 (-1)] 3)
      have h10 := heap_alloc_new wr (.cells #[.int .i64 (-1)] 3)
      have HB10 := hid (below_step HBr.out hb10)
      have RP := hid (repeat_any n wr.heap.size (wr.alloc (.cells #[.int .i64 (-1)] 3)) ⟨hn1, by omega⟩ (box1 h10))
      have q1 := HX.out _ HB10.out
      have k1 := KB.out _ HB10.out
      clear hb10 h10
      go_upto_region 18 with (first | (go_at_call 15; refine RP.out.mono ?_; rintro e w11 ⟨gb, rfl, hg11, hge, hb11⟩; have HB11 := hid (below_step HB10.out hb11); have HGE : Hid (w2.heap.size ≤ gb) := hid (Nat.le_trans HB10.out.size hge.out); clear hb11 hge) | fail)
      clear q0 k0 q1 k1 RP
      have HS11 : Hid (OwnV w11 w2.heap.size 3 (.slice (some ⟨gb, 0, none⟩) n n) (SL n 0)) := by
        have e : SL n 0 = List.replicate n (.int .i64 (-1)) := by simp [SL]
        rw [e]
        refine ⟨by simp, .inr ⟨gb, n, _, by rw [List.length_replicate], HGE.out, hg11.out, by simp, by unfold maxLen; omega, by simp, by simp⟩⟩
      clear hg11
      have k0 := KB.out w11 HB11.out
      have q0 := HX.out w11 HB11.out
      go_wp2_with fail
      clear k0 q0
      go_loopw [66] (fun fv wf => ∃ f : Nat, fv = .int .i64 f ∧ f ≤ n ∧ Hid (OwnV wf w2.heap.size 3 (.slice (some ⟨gb, 0, none⟩) n n) (if f = 0 then SL n 0 else SL n n)) ∧ Hid (Below w2.heap.size w2 wf)) (fun fv _ => n - (intOf fv).toNat)
      case atStart => exact ⟨0, rfl, Nat.zero_le _, HS11, HB11⟩
      case round =>
        obtain ⟨f, rfl, hf, HSF, HBF⟩ := hrel
        rename World => wf
        by_cases hf0 : f = 0
        · subst hf0
          rw [if_pos rfl] at HSF
          rw [show (((0 : Nat) : Int)) = 0 from rfl]
          have hlf : (0 : Int) < (n : Int) := by omega
          have hdn : decide (0 < n) = true := decide_eq_true (by omega)
          have hs0 := ownV_cell HSF.out 0 (by rw [sl_len]; omega)
          rw [sl_hi _ _ _ (Nat.le_refl _) (by omega)] at hs0
          have hsf := ownV_frozen HSF.out 0
          go_upto_region 23 with fail
          clear hs0 hsf
          have HW := hid (ownV_set HSF.out 0 (.int .i64 0))
          have HSW : Hid (OwnV (wf.setCell ⟨gb, 0, none⟩ (.int .i64 0)) w2.heap.size 3 (.slice (some ⟨gb, 0, none⟩) n n) (SL n 1)) := by
            have h := HW.out.1
            rw [sl_set _ _ (by omega)] at h
            exact h
          have HBW : Hid (Below w2.heap.size w2 (wf.setCell ⟨gb, 0, none⟩ (.int .i64 0))) := hid (Below.grown HBF.out HW.out.2 HBF.out.size (fun b hb => by injection hb with hb; rw [← hb]; exact (ownV_le HSF.out).1))
          clear HW
          generalize wf.setCell ⟨gb, 0, none⟩ (.int .i64 0) = wg at *
          obtain ⟨Bt, hBt⟩ : ∃ Bt, Bt = wg.heap.size := ⟨_, rfl⟩
          have HBT2 : Hid (w2.heap.size ≤ Bt) := by rw [hBt]; exact HBW.out.size
          have HGT : Hid (gb < Bt) := by rw [hBt]; exact (ownV_le HSW.out).2
          have HTA : Hid (OwnV (wg.alloc (.cells #[.int .i64 0] 3)) Bt 3 (.slice (some ⟨wg.heap.size, 0, none⟩) 1 1) ((List.range 1).map iv)) := by
            rw [hBt]
            exact ⟨rfl, .inr ⟨_, 1, #[.int .i64 0], rfl, Nat.le_refl _, heap_alloc_new _ _, Nat.le_refl _, by decide, rfl, rfl⟩⟩
          have HSA := hid (ownV_below HSW.out (ba wg (.cells #[.int .i64 0] 3)))
          have HBA := hid (HBW.out.alloc HBW.out.size (.cells #[.int .i64 0] 3))
          go_upto_region 24 with fail
          obtain ⟨wh, hwh⟩ : ∃ v, v = wg.alloc (.cells #[.int .i64 0] 3) := ⟨_, rfl⟩
          rw [← hwh] at HTA HSA HBA ⊢
          obtain ⟨tb, htb⟩ : ∃ v, v = wg.heap.size := ⟨_, rfl⟩
          rw [← htb] at HTA ⊢
          clear hwh htb hBt HSW HBW
          go_loopw [11] (fun tv wr => ∃ k : Nat, k ≤ n ∧ Hid (if k = 0 then (OwnV wr Bt 3 tv ((List.range 1).map iv) ∧ OwnV wr w2.heap.size 3 (.slice (some ⟨gb, 0, none⟩) n n) (SL n 1)) else (TD wr n k tv ∧ OwnV wr w2.heap.size 3 (.slice (some ⟨gb, 0, none⟩) n n) (SL n n))) ∧ Hid (Below w2.heap.size w2 wr)) (fun tv _ => msr n tv)
          case atStart => exact ⟨0, Nat.zero_le _, ⟨HTA.out, HSA.out⟩, HBA⟩
          case round =>
            obtain ⟨k, hk, HTS, HBQ⟩ := hrel
            rename World => wq
            by_cases hk0 : k = 0
            · subst hk0
              have hTT := HTS.out
              rw [if_pos rfl] at hTT
              obtain ⟨HTO, HSO⟩ := hTT
              obtain ⟨tb0, tc0, rfl, -⟩ := ownV_some HTO (by simp)
              rw [List.length_map, List.length_range]
              have HTO := hid HTO
              have HSO := hid HSO
              clear HTS
              have hc0 : wq.cell? ⟨tb0, 0, none⟩ = some (.int .i64 0) := (ownV_cell HTO.out 0 (by simp)).trans (by rw [range_at (by omega)]; rfl)
              have k0 := KB.out wq HBQ.out
              have q0 := HX.out wq HBQ.out
              go_wp2_with fail
              clear hc0 k0 q0
              go_loopw [11, 91] (fun tv yv wr => ∃ y : Nat, yv = .int .i64 y ∧ y ≤ n ∧ Hid (OwnV wr Bt 3 tv ((List.range (max 1 y)).map iv)) ∧ Hid (OwnV wr w2.heap.size 3 (.slice (some ⟨gb, 0, none⟩) n n) (SL n (max 1 y))) ∧ Hid (Below w2.heap.size w2 wr)) (fun _ yv _ => n - (intOf yv).toNat)
              case atStart => exact ⟨0, rfl, Nat.zero_le _, HTO.out, HSO.out, HBQ⟩
              case round =>
                obtain ⟨y, rfl, hy, HTk, HSk, HBk⟩ := hrel
                rename World => wk
                by_cases hlt : y < n
                · have q0 := HX.out wk HBk.out
                  by_cases hy0 : y = 0
                  · subst hy0
                    have ICC : Hid (Calls Tryd.prog 14 #[.pointer (some ⟨D, 0, none⟩), .int .i64 0, .int .i64 0] wk fun e w'' => e = .returned (.bool false) ∧ Below wk.heap.size wk w'') := IC.out wk 0 0 HBk.out hlt hlt
                    go_wp2_with (first | (go_at_call 14; refine ICC.out.mono ?_; rintro e w5 ⟨rfl, hb5⟩; have HB5 := hid (below_step HBk.out hb5); have HS5 := hid (ownV_below HSk.out hb5); have HT5 := hid (ownV_below HTk.out hb5); clear hb5) | fail)
                    go_roundw
                    case rel => first | exact ⟨1, by go_num, by omega, HT5.out, HS5.out, HB5⟩ | ((repeat apply Exists.intro); exact ⟨⟨1, by go_num, by omega, HT5.out, HS5.out, HB5⟩, rfl⟩)
                    case measure => simp [intOf]; omega
                  · have hmy : max 1 y = y := by omega
                    rw [hmy] at HTk HSk
                    clear hmy
                    have hxm : 0 < y := by omega
                    have ICC : Hid (Calls Tryd.prog 14 #[.pointer (some ⟨D, 0, none⟩), .int .i64 0, .int .i64 (y : Int)] wk fun e w'' => e = .returned (.bool true) ∧ Below wk.heap.size wk w'') := by
                      have h := IC.out wk 0 y HBk.out (by omega) hlt
                      rw [show ((0 : Nat) != y) = true by simp; omega] at h
                      exact h
                    obtain ⟨tb, tc, rfl, -⟩ := ownV_some HTk.out (by simp; omega)
                    rw [List.length_map, List.length_range]
                    rw [List.length_map, List.length_range] at HTk
                    have HNE : Hid (tb ≠ gb) := by
                      have h1 := (ownV_le HTk.out).1
                      have h2 := HGT.out
                      show _ ≠ _
                      omega
                    have HLN : Hid (((List.range y).map iv).length < 1000000) := by show _ < _; rw [List.length_map, List.length_range]; omega
                    have HRG := hid (range_snoc y)
                    have HM1 : Hid (max 1 (y + 1) = y + 1) := by show _ = _; omega
                    have hxl : 0 < (SL n y).length := by rw [sl_len]; omega
                    have hx : 0 < n := by omega
                    have HBT : Hid (bth 0 y n = n - 2) := par_off HN.out (by omega) hlt (by omega)
                    go_upto_region 31 with (first | (go_at_call 14; refine ICC.out.mono ?_; rintro e w5 ⟨rfl, hb5⟩; have HB5 := hid (below_step HBk.out hb5); have HS5 := hid (ownV_below HSk.out hb5); have HTW := hid (ownV_below HTk.out hb5); clear hb5) | fail)
                    clear q0 ICC HTk HSk
                    refine wp_region_held_drew (S := fun w' => w'.cell? ⟨gb, 0, none⟩ = some (.int .i64 0)) (by kernel_rfl) (by have h := ownV_cell (ownV_below HS5.out (Below.refl _ w5).drew) 0 hxl; rw [sl_lo _ _ _ hxm] at h; exact h) (fun hHeld => ?_)
                    have HBU := hid (HB5.out.drew)
                    have HSU := hid (ownV_below HS5.out (Below.refl _ w5).drew)
                    have HTU := hid (ownV_below HTW.out (Below.refl _ w5).drew)
                    generalize w5.drew = u0 at *
                    refine take_at (i := 0) 99 (v := .slice (some ⟨gb, 0, none⟩) n n) rfl (by kernel_rfl) (by kernel_rfl) (by kernel_rfl) rfl (fun _ _ _ h => h) (by rfl) (fun w hSw => ?_) hHeld ?_
                    · (try dsimp only at hSw); go_simp
                    simp only [Act.put, List.setIfInBounds_toArray, List.set_cons_zero, List.set_cons_succ]
                    refine take_at (i := 1) 100 (v := .int .i64 0) rfl (by kernel_rfl) (by kernel_rfl) (by kernel_rfl) rfl (fun _ _ _ h => h) (by rfl) (fun w hSw => ?_) hHeld ?_
                    · (try dsimp only at hSw); go_simp
                    simp only [Act.put, List.setIfInBounds_toArray, List.set_cons_zero, List.set_cons_succ]
                    refine take_at (i := 2) 101 (v := .pointer (some ⟨gb, 0, none⟩)) rfl (by kernel_rfl) (by kernel_rfl) (by kernel_rfl) rfl (fun _ _ _ h => h) (by rfl) (fun w hSw => ?_) hHeld ?_
                    · (try dsimp only at hSw); go_simp
                    simp only [Act.put, List.setIfInBounds_toArray, List.set_cons_zero, List.set_cons_succ]
                    refine take_at (i := 3) 102 (v := .int .i64 0) rfl (by kernel_rfl) (by kernel_rfl) (by kernel_rfl) rfl (fun _ _ _ h => h) (by rfl) (fun w hSw => ?_) hHeld ?_
                    · (try dsimp only at hSw); go_simp
                    simp only [Act.put, List.setIfInBounds_toArray, List.set_cons_zero, List.set_cons_succ]
                    refine take_at (i := 4) 103 (v := .int .i64 1) rfl (by kernel_rfl) (by kernel_rfl) (by kernel_rfl) rfl (fun _ _ _ h => h) (by rfl) (fun w hSw => ?_) hHeld ?_
                    · (try dsimp only at hSw); go_simp; first | done | (rw [IntKind.wrap_i64]; omega) | decide
                    simp only [Act.put, List.setIfInBounds_toArray, List.set_cons_zero, List.set_cons_succ]
                    refine take_at (i := 5) 104 (v := .func (.func 13) #[] #[.pointer (some ⟨X, 0, none⟩)]) rfl (by kernel_rfl) (by kernel_rfl) (by kernel_rfl) rfl (fun _ _ _ h => h) (by rfl) (fun w hSw => ?_) hHeld ?_
                    · (try dsimp only at hSw); go_simp
                    simp only [Act.put, List.setIfInBounds_toArray, List.set_cons_zero, List.set_cons_succ]
                    refine take_at (i := 6) 105 (v := .int .i64 0) rfl (by kernel_rfl) (by kernel_rfl) (by kernel_rfl) rfl (fun _ _ _ h => h) (by rfl) (fun w hSw => ?_) hHeld ?_
                    · (try dsimp only at hSw); go_simp
                    simp only [Act.put, List.setIfInBounds_toArray, List.set_cons_zero, List.set_cons_succ]
                    refine take_at (i := 7) 106 (v := .int .i64 (y : Int)) rfl (by kernel_rfl) (by kernel_rfl) (by kernel_rfl) rfl (fun _ _ _ h => h) (by rfl) (fun w hSw => ?_) hHeld ?_
                    · (try dsimp only at hSw); go_simp
                    simp only [Act.put, List.setIfInBounds_toArray, List.set_cons_zero, List.set_cons_succ]
                    refine wpAnyH_ready (rs := [8]) (by kernel_rfl) (by simp) ?_
                    refine node_both 107 104 105 106 X D n wb wc pb gs cs 0 y rfl rfl rfl rfl rfl rfl rfl (HC.out.below (HB12.out.trans (HBU.out.mono HB12.out.size))) (HX.out _ HBU.out) hx hlt ?_ AllReadyH.nil
                    · intro w6 hb6
                      have HB6 := hid (below_step HBU.out hb6)
                      have HS6 := hid (ownV_below HSU.out hb6)
                      have HT6 := hid (ownV_below HTU.out hb6)
                      clear hHeld
                      have hHeld := ownV_cell HS6.out 0 hxl
                      rw [sl_lo _ _ _ hxm] at hHeld
                      refine ⟨hHeld, ?_⟩
                      rw [HBT.out]
                      clear hb6
                      simp only [Act.put, List.setIfInBounds_toArray, List.set_cons_zero, List.set_cons_succ]
                      refine take_at (i := 9) 108 (v := .int .i64 (1 + ((n - 2 : Nat) : Int))) rfl (by kernel_rfl) (by kernel_rfl) (by kernel_rfl) rfl (fun _ _ _ h => h) (by rfl) (fun w hSw => ?_) hHeld ?_
                      · (try dsimp only at hSw); go_simp; first | done | (rw [IntKind.wrap_i64]; omega)
                      simp only [Act.put, List.setIfInBounds_toArray, List.set_cons_zero, List.set_cons_succ]
                      refine take_at (i := 10) 109 (v := .int .i64 0) rfl (by kernel_rfl) (by kernel_rfl) (by kernel_rfl) rfl (fun _ _ _ h => h) (by rfl) (fun w hSw => ?_) hHeld ?_
                      · (try dsimp only at hSw); go_simp; first | done | (rw [Int.tmod_eq_emod_of_nonneg (by omega)]; omega)
                      simp only [Act.put, List.setIfInBounds_toArray, List.set_cons_zero, List.set_cons_succ]
                      refine take_at (i := 11) 14 (v := .int .i64 0) rfl (by kernel_rfl) (by kernel_rfl) (by kernel_rfl) rfl (fun _ _ _ h => h) (by rfl) (fun w hSw => ?_) hHeld ?_
                      · (try dsimp only at hSw); go_simp
                      simp only [Act.put, List.setIfInBounds_toArray, List.set_cons_zero, List.set_cons_succ]
                      refine wpAnyH_done (by kernel_rfl) ?_ _
                      clear hHeld
                      have hS6 := hid (ownV_cell HS6.out y (by rw [sl_len]; omega))
                      have hsy := hS6.out
                      rw [sl_hi _ _ _ (Nat.le_refl _) hlt] at hsy
                      have hsf := ownV_frozen HS6.out y
                      go_upto_region 36 with fail
                      clear hsy hsf hS6
                      have HW7 := hid (ownV_set HS6.out y (.int .i64 0))
                      have HT7 := hid (ownV_kept HT6.out HW7.out.2 (.inr (by intro e; injection e with e; exact HNE.out e)))
                      have HS7 : Hid (OwnV (w6.setCell ⟨gb, y, none⟩ (.int .i64 0)) w2.heap.size 3 (.slice (some ⟨gb, 0, none⟩) n n) (SL n (y + 1))) := by
                        have h := HW7.out.1
                        rw [sl_set _ _ hlt] at h
                        exact h
                      have HB7 : Hid (Below w2.heap.size w2 (w6.setCell ⟨gb, y, none⟩ (.int .i64 0))) := hid (Below.grown HB6.out HW7.out.2 HB6.out.size (fun b hb => by injection hb with hb; rw [← hb]; exact (ownV_le HS6.out).1))
                      have HTL : Hid (Bt ≤ (w6.setCell ⟨gb, y, none⟩ (.int .i64 0)).heap.size) := by
                        have h := (ownV_le HT7.out)
                        show _ ≤ _
                        omega
                      clear HW7 HS6 HT6 HSU HTU
                      generalize w6.setCell ⟨gb, y, none⟩ (.int .i64 0) = w7 at *
                      go_wp2_with (first
                        | (at_builtin; refine wpl_app_int (y : Int) _ _ (.slice (some ⟨tb, 0, none⟩) y tc) Bt _ (by rfl) (by rfl) (by rfl) (by rfl) HT7.out HLN.out HTL.out ?_; intro v' w8 ho8 hb8 hg8; have HO8 : Hid (OwnV w8 Bt 3 v' ((List.range (y + 1)).map iv)) := by { have h := ho8; rw [HRG.out] at h; exact h }; have HS8 := hid (ownV_kept HS7.out hg8 (.inr (by intro e; injection e with e; exact HNE.out e.symm))); have HB8 : Hid (Below w2.heap.size w2 w8) := hid (HB7.out.trans (hb8.mono HBT2.out)); obtain ⟨sa, sn, sc, rfl⟩ := ownV_sh ho8; clear ho8 hb8 hg8)
                        | fail)
                      go_roundw
                      case rel => first | exact ⟨y + 1, by go_num, by omega, by rw [HM1.out]; exact HO8, by rw [HM1.out]; exact HS8, HB8⟩ | ((repeat apply Exists.intro); exact ⟨⟨y + 1, by go_num, by omega, by rw [HM1.out]; exact HO8, by rw [HM1.out]; exact HS8, HB8⟩, rfl⟩)
                      case measure => simp [intOf]; omega
                · obtain rfl : n = y := by omega
                  rw [show max 1 n = n by omega] at HTk HSk
                  obtain ⟨tb, tc, rfl, -⟩ := ownV_some HTk.out (by simp; omega)
                  have hcp := ownV_capN HTk.out
                  rw [List.length_map, List.length_range] at HTk hcp ⊢
                  by_cases hc1 : tc = 1
                  · have hn1' : n = 1 := by omega
                    subst hn1'
                    subst hc1
                    go_wp2_with fail
                    go_roundw
                    case rel => first | exact ⟨1, Nat.le_refl _, by show if _ then _ else _; rw [if_neg (by decide)]; exact ⟨⟨_, _, rfl, fun h => absurd h (by omega)⟩, HSk.out⟩, HBk⟩ | ((repeat apply Exists.intro); exact ⟨⟨1, Nat.le_refl _, by show if _ then _ else _; rw [if_neg (by decide)]; exact ⟨⟨_, _, rfl, fun h => absurd h (by omega)⟩, HSk.out⟩, HBk⟩, rfl⟩)
                    case measure => first | ((simp only [msr]; repeat' split) <;> omega) | (simp [msr]; split <;> omega)
                  · have HTD : Hid (TD wk n 1 (.slice (some ⟨tb, 1, none⟩) (n - 1) (tc - 1))) := by
                      refine ⟨_, _, rfl, fun h => ⟨tb, rfl, by omega, fun j hj => ?_⟩⟩
                      rw [ownV_cell HTk.out j (by simpa using hj), range_at hj]
                    go_wp2_with fail
                    go_roundw
                    case rel => first | exact ⟨1, by omega, by show if _ then _ else _; rw [if_neg (by decide)]; exact ⟨HTD.out, HSk.out⟩, HBk⟩ | ((repeat apply Exists.intro); exact ⟨⟨1, by omega, by show if _ then _ else _; rw [if_neg (by decide)]; exact ⟨HTD.out, HSk.out⟩, HBk⟩, rfl⟩)
                    case measure => first | ((simp only [msr]; repeat' split) <;> omega) | (simp [msr]; split <;> omega)
            · have hTT := HTS.out
              rw [if_neg hk0] at hTT
              obtain ⟨HTO, HSO⟩ := hTT
              have HTO := hid HTO
              have HSO := hid HSO
              obtain ⟨ta, tc, rfl, hta⟩ := HTO.out
              clear HTS
              by_cases hkn : k < n
              · obtain ⟨tb, rfl, hcap, hcj⟩ := hta hkn
                have hc0 : wq.cell? ⟨tb, k, none⟩ = some (.int .i64 (k : Int)) := hcj k hkn
                have k0 := KB.out wq HBQ.out
                have q0 := HX.out wq HBQ.out
                obtain ⟨l, hl⟩ : ∃ l, l = n - k := ⟨_, rfl⟩
                have HL := hid hl
                have hl0 : 0 < l := by omega
                rw [← hl] at HTO ⊢
                clear hl hta hcj
                go_wp2_with fail
                clear hc0 k0 q0
                go_loopw [11, 91] (fun tv yv wr => ∃ y : Nat, yv = .int .i64 y ∧ y ≤ n ∧ tv = .slice (some ⟨tb, k, none⟩) l tc ∧ Hid (TD wr n k (.slice (some ⟨tb, k, none⟩) l tc)) ∧ Hid (OwnV wr w2.heap.size 3 (.slice (some ⟨gb, 0, none⟩) n n) (SL n n)) ∧ Hid (Below w2.heap.size w2 wr)) (fun _ yv _ => n - (intOf yv).toNat)
                case atStart => exact ⟨0, rfl, Nat.zero_le _, rfl, HTO, HSO, HBQ⟩
                case round =>
                  obtain ⟨y, rfl, hy, rfl, HTk, HSk, HBk⟩ := hrel
                  rename World => wk
                  by_cases hlt : y < n
                  · have q0 := HX.out wk HBk.out
                    by_cases hyk : k = y
                    · subst hyk
                      have ICC := hid (IC.out wk k k HBk.out hlt hlt)
                      rw [show (k != k) = false by simp] at ICC
                      go_wp2_with (first | (go_at_call 14; refine ICC.out.mono ?_; rintro e w5 ⟨rfl, hb5⟩; have HB5 := hid (below_step HBk.out hb5); have HS5 := hid (ownV_below HSk.out hb5); have HT5 := hid (td_below HTk.out hb5); clear hb5) | fail)
                      go_roundw
                      case rel => first | exact ⟨k + 1, by go_num, by omega, rfl, HT5, HS5, HB5⟩ | ((repeat apply Exists.intro); exact ⟨⟨k + 1, by go_num, by omega, rfl, HT5, HS5, HB5⟩, rfl⟩)
                      case measure => simp [intOf]; omega
                    · have ICC := hid (IC.out wk k y HBk.out hkn hlt)
                      rw [show (k != y) = true by simp; omega] at ICC
                      have hxl : k < (SL n n).length := by rw [sl_len]; omega
                      have hx : k < n := hkn
                      have hxm : k < n := hkn
                      have HBT : Hid (bth k y n = n - 2) := par_off HN.out (by omega) hlt (by omega)
                      have hn2 : 2 ≤ n := by omega
                      go_upto_region 31 with (first | (go_at_call 14; refine ICC.out.mono ?_; rintro e w5 ⟨rfl, hb5⟩; have HB5 := hid (below_step HBk.out hb5); have HS5 := hid (ownV_below HSk.out hb5); have HT5 := hid (td_below HTk.out hb5); clear hb5) | fail)
                      clear q0 ICC HTk HSk
                      refine wp_region_held_drew (S := fun w' => w'.cell? ⟨gb, k, none⟩ = some (.int .i64 0)) (by kernel_rfl) (by have h := ownV_cell (ownV_below HS5.out (Below.refl _ w5).drew) k hxl; rw [sl_lo _ _ _ hxm] at h; exact h) (fun hHeld => ?_)
                      have HBU := hid (HB5.out.drew)
                      have HSU := hid (ownV_below HS5.out (Below.refl _ w5).drew)
                      have HTU : Hid (TD w5.drew n k (.slice (some ⟨tb, k, none⟩) l tc)) := hid (td_below HT5.out (Below.refl _ w5).drew)
                      generalize w5.drew = u0 at *
                      refine take_at (i := 0) 99 (v := .slice (some ⟨gb, 0, none⟩) n n) rfl (by kernel_rfl) (by kernel_rfl) (by kernel_rfl) rfl (fun _ _ _ h => h) (by rfl) (fun w hSw => ?_) hHeld ?_
                      · (try dsimp only at hSw); go_simp
                      simp only [Act.put, List.setIfInBounds_toArray, List.set_cons_zero, List.set_cons_succ]
                      refine take_at (i := 1) 100 (v := .int .i64 (k : Int)) rfl (by kernel_rfl) (by kernel_rfl) (by kernel_rfl) rfl (fun _ _ _ h => h) (by rfl) (fun w hSw => ?_) hHeld ?_
                      · (try dsimp only at hSw); go_simp
                      simp only [Act.put, List.setIfInBounds_toArray, List.set_cons_zero, List.set_cons_succ]
                      refine take_at (i := 2) 101 (v := .pointer (some ⟨gb, k, none⟩)) rfl (by kernel_rfl) (by kernel_rfl) (by kernel_rfl) rfl (fun _ _ _ h => h) (by rfl) (fun w hSw => ?_) hHeld ?_
                      · (try dsimp only at hSw); go_simp
                      simp only [Act.put, List.setIfInBounds_toArray, List.set_cons_zero, List.set_cons_succ]
                      refine take_at (i := 3) 102 (v := .int .i64 0) rfl (by kernel_rfl) (by kernel_rfl) (by kernel_rfl) rfl (fun _ _ _ h => h) (by rfl) (fun w hSw => ?_) hHeld ?_
                      · (try dsimp only at hSw); go_simp
                      simp only [Act.put, List.setIfInBounds_toArray, List.set_cons_zero, List.set_cons_succ]
                      refine take_at (i := 4) 103 (v := .int .i64 1) rfl (by kernel_rfl) (by kernel_rfl) (by kernel_rfl) rfl (fun _ _ _ h => h) (by rfl) (fun w hSw => ?_) hHeld ?_
                      · (try dsimp only at hSw); go_simp; first | done | (rw [IntKind.wrap_i64]; omega) | decide
                      simp only [Act.put, List.setIfInBounds_toArray, List.set_cons_zero, List.set_cons_succ]
                      refine take_at (i := 5) 104 (v := .func (.func 13) #[] #[.pointer (some ⟨X, 0, none⟩)]) rfl (by kernel_rfl) (by kernel_rfl) (by kernel_rfl) rfl (fun _ _ _ h => h) (by rfl) (fun w hSw => ?_) hHeld ?_
                      · (try dsimp only at hSw); go_simp
                      simp only [Act.put, List.setIfInBounds_toArray, List.set_cons_zero, List.set_cons_succ]
                      refine take_at (i := 6) 105 (v := .int .i64 (k : Int)) rfl (by kernel_rfl) (by kernel_rfl) (by kernel_rfl) rfl (fun _ _ _ h => h) (by rfl) (fun w hSw => ?_) hHeld ?_
                      · (try dsimp only at hSw); go_simp
                      simp only [Act.put, List.setIfInBounds_toArray, List.set_cons_zero, List.set_cons_succ]
                      refine take_at (i := 7) 106 (v := .int .i64 (y : Int)) rfl (by kernel_rfl) (by kernel_rfl) (by kernel_rfl) rfl (fun _ _ _ h => h) (by rfl) (fun w hSw => ?_) hHeld ?_
                      · (try dsimp only at hSw); go_simp
                      simp only [Act.put, List.setIfInBounds_toArray, List.set_cons_zero, List.set_cons_succ]
                      refine wpAnyH_ready (rs := [8]) (by kernel_rfl) (by simp) ?_
                      refine node_both 107 104 105 106 X D n wb wc pb gs cs k y rfl rfl rfl rfl rfl rfl rfl (HC.out.below (HB12.out.trans (HBU.out.mono HB12.out.size))) (HX.out _ HBU.out) hx hlt ?_ AllReadyH.nil
                      · intro w6 hb6
                        have HB6 := hid (below_step HBU.out hb6)
                        have HS6 := hid (ownV_below HSU.out hb6)
                        have HT6 := hid (td_below HTU.out hb6)
                        clear hHeld
                        have hHeld := ownV_cell HS6.out k hxl
                        rw [sl_lo _ _ _ hxm] at hHeld
                        refine ⟨hHeld, ?_⟩
                        rw [HBT.out]
                        clear hb6
                        simp only [Act.put, List.setIfInBounds_toArray, List.set_cons_zero, List.set_cons_succ]
                        refine take_at (i := 9) 108 (v := .int .i64 (1 + ((n - 2 : Nat) : Int))) rfl (by kernel_rfl) (by kernel_rfl) (by kernel_rfl) rfl (fun _ _ _ h => h) (by rfl) (fun w hSw => ?_) hHeld ?_
                        · (try dsimp only at hSw); go_simp; first | done | (rw [IntKind.wrap_i64]; omega)
                        simp only [Act.put, List.setIfInBounds_toArray, List.set_cons_zero, List.set_cons_succ]
                        refine take_at (i := 10) 109 (v := .int .i64 0) rfl (by kernel_rfl) (by kernel_rfl) (by kernel_rfl) rfl (fun _ _ _ h => h) (by rfl) (fun w hSw => ?_) hHeld ?_
                        · (try dsimp only at hSw); go_simp; first | done | (rw [Int.tmod_eq_emod_of_nonneg (by omega)]; omega)
                        simp only [Act.put, List.setIfInBounds_toArray, List.set_cons_zero, List.set_cons_succ]
                        refine take_at (i := 11) 14 (v := .int .i64 0) rfl (by kernel_rfl) (by kernel_rfl) (by kernel_rfl) rfl (fun _ _ _ h => h) (by rfl) (fun w hSw => ?_) hHeld ?_
                        · (try dsimp only at hSw); go_simp
                        simp only [Act.put, List.setIfInBounds_toArray, List.set_cons_zero, List.set_cons_succ]
                        refine wpAnyH_done (by kernel_rfl) ?_ _
                        clear hHeld
                        have hsy := ownV_cell HS6.out y (by rw [sl_len]; omega)
                        rw [sl_lo _ _ _ hlt] at hsy
                        go_wp2_with fail
                        go_roundw
                        case rel => first | exact ⟨y + 1, by go_num, by omega, rfl, HT6, HS6, HB6⟩ | ((repeat apply Exists.intro); exact ⟨⟨y + 1, by go_num, by omega, rfl, HT6, HS6, HB6⟩, rfl⟩)
                        case measure => simp [intOf]; omega
                  · obtain rfl : n = y := by omega
                    obtain ⟨a', c', hv, hta⟩ := HTk.out
                    injection hv with e1 e2 e3
                    clear e2
                    subst e1
                    subst e3
                    obtain ⟨tb', hv2, hcap, hcj⟩ := hta hkn
                    cases hv2
                    have hln : l + k = n := by have := HL.out; omega
                    by_cases hc1 : tc = 1
                    · have hl1 : l = 1 := by omega
                      have hkn2 : k + 1 = n := by omega
                      subst hl1
                      subst hc1
                      clear hta hcap hcj HTO
                      go_wp2_with fail
                      go_roundw
                      case rel => first | exact ⟨k + 1, by omega, by show if _ then _ else _; rw [if_neg (by omega)]; exact ⟨⟨_, _, by rw [show n - (k + 1) = 0 by omega], fun h => absurd h (by omega)⟩, HSk.out⟩, HBk⟩ | ((repeat apply Exists.intro); exact ⟨⟨k + 1, by omega, by show if _ then _ else _; rw [if_neg (by omega)]; exact ⟨⟨_, _, by rw [show n - (k + 1) = 0 by omega], fun h => absurd h (by omega)⟩, HSk.out⟩, HBk⟩, rfl⟩)
                      case measure => first | ((simp only [msr]; repeat' split) <;> omega) | (simp [msr]; split <;> omega)
                    · have HTD : Hid (TD wk n (k + 1) (.slice (some ⟨tb, k + 1, none⟩) (l - 1) (tc - 1))) := by
                        refine ⟨_, _, by rw [show n - (k + 1) = l - 1 by omega], fun h => ⟨tb, rfl, by omega, hcj⟩⟩
                      clear hta hcj HTO
                      have hlc : l ≤ tc := by omega
                      go_wp2_with fail
                      go_roundw
                      case rel => first | exact ⟨k + 1, by omega, by show if _ then _ else _; rw [if_neg (by omega)]; exact ⟨HTD.out, HSk.out⟩, HBk⟩ | ((repeat apply Exists.intro); exact ⟨⟨k + 1, by omega, by show if _ then _ else _; rw [if_neg (by omega)]; exact ⟨HTD.out, HSk.out⟩, HBk⟩, rfl⟩)
                      case measure => first | ((simp only [msr]; repeat' split) <;> omega) | (simp [msr]; split <;> omega)
              · obtain rfl : n = k := by omega
                rw [Nat.sub_self] at HTO ⊢
                clear hta
                go_wp2_with fail
                go_roundw
                case rel => exact ⟨1, by go_num, by omega, by rw [if_neg (by decide)]; exact HSO, HBQ⟩
                case measure => simp [intOf]; omega
        · have hf1 : 1 ≤ f := by omega
          rw [if_neg hf0] at HSF
          by_cases hlf : f < n
          · have hs0 := ownV_cell HSF.out f (by rw [sl_len]; omega)
            rw [sl_lo _ _ _ hlf] at hs0
            go_wp2_with fail
            go_roundw
            case rel => first | exact ⟨f + 1, by go_num, by omega, by rw [if_neg (by omega)]; exact HSF, HBF⟩ | ((repeat apply Exists.intro); exact ⟨⟨f + 1, by go_num, by omega, by rw [if_neg (by omega)]; exact HSF, HBF⟩, rfl⟩)
            case measure => simp [intOf]; omega
          · obtain rfl : n = f := by omega
            go_wp2_with fail
            go_ret2
            exact ⟨rfl, below_step (HB1.out.trans (HB12.out.mono HB1.out.size)) HBF.out⟩
end Go.Proofs.YtppkgilpmmhpoaaDoor
