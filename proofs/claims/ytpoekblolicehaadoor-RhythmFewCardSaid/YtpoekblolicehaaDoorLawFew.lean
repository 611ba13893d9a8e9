/-
  The statement RhythmFew: the law answers true for all bytes.
-/
import Derived.Test.YtpoekblolicehaaDoorLawSquares
import Derived.Test.YtpoekblolicehaaDoorLawRuns
import Derived.Test.YtpoekblolicehaaDoorPlainR
import Derived.Test.YtpoekblolicehaaDoorLawTwo
namespace Go.Proofs.YtpoekblolicehaaDoor
open Go.RowKit

/-- the length of a run in thousandths of its period -/
def expo (r : Rn) : Nat := 1000 * (r.2.1 - r.1) / r.2.2
def expTo (rs : List Rn) (x : Nat) : Nat := ((rs.take x).map expo).sum
theorem expTo_succ (rs : List Rn) (x : Nat) (h : x < rs.length) : expTo rs (x + 1) = expTo rs x + expo (rx rs x) := by
  unfold expTo
  rw [List.take_succ_eq_append_getElem h, List.map_append, List.sum_append]
  simp [rx, h]
theorem expTo_le (rs : List Rn) (x : Nat) : expTo rs x ≤ (rs.map expo).sum := by
  unfold expTo
  conv => rhs; rw [← List.take_append_drop x rs, List.map_append, List.sum_append]
  omega
theorem rx_mem (rs : List Rn) (x : Nat) (h : x < rs.length) : rx rs x ∈ rs := by
  unfold rx
  rw [List.getD_eq_getElem?_getD, List.getElem?_eq_getElem h]
  simp

set_option maxHeartbeats 1000000 in
set_option maxRecDepth 100000 in
theorem RhythmFew_ok (a : Option Addr) (len cap : Nat) (zs : List Int) (w : World) (hr : IsRow .u8 w a len cap zs) :
    Calls Tryd.prog 14 #[.slice a len cap] w fun e w' => e = .returned (.bool true) ∧ Below w.heap.size w w' := by
  have cM := hid (made_any a len cap zs 200 w hr (by decide) (by decide))
  have cL := hid lives_any
  clear hr
  go_enter Tryd.func14, Tryd.ntmps14
  go_wp2_with fail
  refine cM.out.mono ?_
  rintro e w1 ⟨s, rfl, hs, hsz, n1, rfl⟩
  have h1 : 1 ≤ s.size := chk_pos hs
  have cP := fun w => runs_fin s w (by omega)
  have cQ := fun w => squares_any s w (by omega)
  simp only [hs, if_true] at cP cQ
  obtain ⟨f1, f2⟩ := few_runs s.data.toList h1
  have f3 := few_squares s.data.toList h1
  have F4 := hid (fun x (hx : x < (runs s.data.toList).length) => runP_of (rx_mem _ x hx))
  rw [data_size] at f1 f2 f3
  have f2 : ((runs s.data.toList).map expo).sum < 3000 * s.size := f2
  have F5 := hid (expTo_le (runs s.data.toList))
  have F6 := hid (expTo_succ (runs s.data.toList))
  generalize runs s.data.toList = rs at *
  generalize squares s.data.toList = q at *
  have CP := hid cP
  have CQ := hid cQ
  clear cP cQ hs
  go_wp2_with fail
  refine (CP.out _).mono ?_
  rintro e w2 ⟨v, rfl, hv, hb⟩
  have Hv := hid hv
  have Hb := hid (below_of_drewN hb)
  clear hv hb
  go_wp2_with fail
  refine (CQ.out _).mono ?_
  rintro e w3 ⟨rfl, hb3⟩
  have Hv3 := hid (isRuns_below Hv.out hb3)
  have Hb3 := hid (Hb.out.trans (hb3.mono Hb.out.size))
  clear hb3 Hv Hb
  obtain ⟨pa, pc, rfl, hl, hc⟩ := Hv3.out
  have HC := hid hc
  unfold maxLen at hl
  clear hc
  generalize hN : rs.length = N at *
  have HN := hid hN
  clear hN
  have i1 : decide ((N : Int) ≥ (s.size : Int)) = false := decide_eq_false (by omega)
  have i2 : decide ((q : Int) ≥ (s.size : Int)) = false := decide_eq_false (by omega)
  have i3 : decide (s.size ≤ N) = false := decide_eq_false (by omega)
  have i4 : decide (s.size ≤ q) = false := decide_eq_false (by omega)
  go_wp2_with fail
  refine (cL.out _).mono ?_
  rintro e w4 ⟨rfl, hb4⟩
  have HC4 := hid (fun i hi => show ∃ g, pa = some ⟨g, 0, none⟩ ∧ w4.cell? ⟨g, i * 3, none⟩ = some (.int .i64 (rx rs i).1) ∧ w4.cell? ⟨g, i * 3 + 1, none⟩ = some (.int .i64 (rx rs i).2.1) ∧ w4.cell? ⟨g, i * 3 + 2, none⟩ = some (.int .i64 (rx rs i).2.2) by
    obtain ⟨g, hg, c0, c1, c2⟩ := HC.out i hi
    have hlt := World.block_lt_of_cell? w3 _ c0
    exact ⟨g, hg, (hb4.cell (p := ⟨g, i * 3, none⟩) hlt).trans c0, (hb4.cell (p := ⟨g, i * 3 + 1, none⟩) hlt).trans c1, (hb4.cell (p := ⟨g, i * 3 + 2, none⟩) hlt).trans c2⟩)
  have Hb4 := hid (Hb3.out.trans (hb4.mono Hb3.out.size))
  clear hb4 HC Hv3 Hb3
  go_wp2_with fail
  go_loopg [8, 9, 10] N (fun g t i _ wr => ∃ x : Nat, x ≤ N ∧ g = N - x ∧ i = .int .i64 x ∧ t = .int .i64 (expTo rs x) ∧ ∃ m, wr = w4.drewN m)
  case atStart => exact ⟨0, by omega, by omega, rfl, rfl, 0, rfl⟩
  case round =>
    obtain ⟨x, hx, hgx, rfl, rfl, m, rfl⟩ := hrel
    have HGX := hid hgx; clear hgx
    have hex := F5.out x
    by_cases hxl : x < N
    · have hsu := F6.out x (by first | exact hxl | (rw [HN.out]; exact hxl))
      have hR := F4.out x (by first | exact hxl | (rw [HN.out]; exact hxl))
      obtain ⟨g, rfl, c0, c1, c2⟩ := HC4.out x (by first | exact hxl | (rw [HN.out]; exact hxl))
      have hex2 := F5.out (x + 1)
      rw [hsu] at hex2
      unfold expo at hsu hex2
      generalize rx rs x = r at *
      obtain ⟨i, j, p⟩ := r
      simp only at *
      have r1 := hR.pos
      have r2 := hR.two
      have r3 := hR.len
      rw [data_size] at r3
      have hper := (per_iff s.data.toList i j p (by rw [data_size]; exact r3) (by omega) (by omega)).2 hR.per
      have cR := fun w => rperiod_any (s.extract i j) p w (by rw [extract_size _ _ _ r3]; omega) (by rw [extract_size _ _ _ r3]; omega)
      have hpe : (s.extract i j).data.toList = part s.data.toList i j := by rw [Lib.extract_data]; rfl
      rw [hpe, hper] at cR
      have CR := hid cR
      clear cR hpe hper hR
      obtain ⟨d, rfl⟩ : ∃ d, j = i + d := ⟨j - i, by omega⟩
      rw [Nat.add_sub_cancel_left] at hsu hex2
      generalize hq2 : 1000 * d / p = y at *
      have HSU := hid hsu
      have hEX := hid hex2
      generalize expTo rs x = E at *
      have v1 : ((i + d : Nat) : Int) - (i : Int) = (d : Int) := by omega
      have v2 : (1000 * (d : Int)) / (p : Int) = (y : Int) := by rw [← hq2]; rfl
      have v3 : Int.tdiv (1000 * (d : Int)) (p : Int) = (y : Int) := by rw [Int.tdiv_eq_ediv_of_nonneg (by omega)]; exact v2
      have hy : y ≤ 600000 := by omega
      have HQ2 := hid hq2
      clear hsu hex2 hq2
      have w1 : decide ((p : Int) < 1) = false := decide_eq_false (by omega)
      have w2 : decide (s.size < p) = false := decide_eq_false (by omega)
      have w3' : decide ((i : Int) < 0) = false := decide_eq_false (by omega)
      have w5 : decide (s.size < i + d) = false := decide_eq_false (by omega)
      have w6 : decide ((d : Int) < 2 * (p : Int)) = false := decide_eq_false (by omega)
      have w7 : IntKind.i64.wrap (d : Int) = d := IntWalk.i64_in _ (by omega)
      have w8 : IntKind.i64.wrap (2 * (p : Int)) = 2 * p := IntWalk.i64_in _ (by omega)
      have w9 : IntKind.i64.wrap (1000 * (d : Int)) = 1000 * d := IntWalk.i64_in _ (by omega)
      have w10 : IntKind.i64.wrap (y : Int) = y := IntWalk.i64_in _ (by omega)
      have w11 : IntKind.i64.wrap ((E : Int) + (y : Int)) = (E : Int) + y := IntWalk.i64_in _ (by omega)
      have y1 : ((p : Int) == 0) = false := by rw [beq_eq_false_iff_ne]; omega
      have y2 : ¬ (p : Int) = 0 := by omega
      have y4 : (p == 0) = false := by rw [beq_eq_false_iff_ne]; omega
      have y5 : ((p : Int) == -1) = false := by rw [beq_eq_false_iff_ne]; omega
      have z1 : (x : Int) < N := by omega
      have z2 : (i : Int) ≤ ((i + d : Nat) : Int) := by omega
      have z3 : ((i + d : Nat) : Int) ≤ s.size := by omega
      have z4 : (i : Int) ≤ (i : Int) + (d : Int) := by omega
      have z5 : (i : Int) + (d : Int) ≤ s.size := by omega
      have z6 : decide ((s.size : Int) < (i : Int) + (d : Int)) = false := decide_eq_false (by omega)
      have z7 : (i : Int) + (d : Int) - (i : Int) = (d : Int) := by omega
      have z8 : ((i : Int) + (d : Int)).toNat = i + d := by omega
      have z9 : ¬ (s.size : Int) < (i : Int) + (d : Int) := by omega
      go_wp2_with fail
      go_quiet ((go_at_call 47; first | exact quiet_one (CR.out _) | exact quiet_add (CR.out _)))
      go_wp2_with fail
      go_quiet (fail)
      go_wp2_with fail
      go_roundg (N - (x + 1))
      case measure => have := HGX.out; omega
      case rel => exact ⟨x + 1, by omega, rfl, by go_num, by rw [HSU.out]; go_num, (by first | exact ⟨_, rfl⟩ | exact drew2 _ _ _)⟩
    · obtain rfl : x = N := by omega
      have j1 : (expTo rs x : Int) < 3000 * (s.size : Int) := by omega
      go_wp2_with fail
      go_ret
      exact ⟨rfl, below_drewN_r Hb4.out _⟩
end Go.Proofs.YtpoekblolicehaaDoor
