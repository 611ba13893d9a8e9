/-
  The statement RhythmLyndons: the law answers true for every string.
-/
import Derived.Test.YtpoekblolicehaaDoorWalkO
namespace Go.Proofs.YtpoekblolicehaaDoor
open Go.RowKit

set_option maxHeartbeats 400000 in
set_option maxRecDepth 100000 in
theorem RhythmLyndons_ok (x : ByteArray) (w : World) (hx : x.size ≤ maxLen) : Calls Tryd.prog 12 #[.string x] w fun e w' => e = .returned (.bool true) ∧ Below w.heap.size w w' := by
  have hcut := cut_any x 200 w hx (by decide)
  obtain ⟨t, ht⟩ : ∃ t, t = x.extract 0 (cutN x.size 200) := ⟨_, rfl⟩
  have hts : t.size ≤ 1000 := by
    rw [ht, ByteArray.size_extract]
    have := cutN_le x.size 200
    omega
  rw [← ht] at hcut
  clear ht
  have cP := hid (fun w => lyndon_fin t w hts)
  have cK := hid (fun w => rcheck_any t w hts)
  have cR := hid (fun w => rlyndon_any t w hts)
  have cL := hid lives_any
  clear hts hx
  generalize chk t.data.toList = q at *
  generalize lyn t.data.toList = l at *
  go_enter Tryd.func12, Tryd.ntmps12
  go_wp2_with fail
  refine hcut.mono ?_
  rintro e w1 ⟨rfl, rfl⟩
  go_wp2_with fail
  refine (cP.out _).mono ?_
  rintro e w1 ⟨v, rfl, hv, hb⟩
  have Hv := hid hv
  have Hb := hid hb
  clear hv hb
  go_wp2_with fail
  refine (cK.out _).mono ?_
  rintro e w2 ⟨rfl, n, rfl⟩
  by_cases hq : q = 0
  · subst hq
    rw [if_pos rfl] at Hv
    obtain ⟨a, c, rfl, hl, hc⟩ := Hv.out
    clear hc
    unfold maxLen at hl
    go_wp2_with fail
    refine (cR.out _).mono ?_
    rintro e w4 ⟨v2, rfl, hv2, hb4⟩
    have Hvv := hid (own_isStrs hv2)
    have H4 := hid (below_of_drewN hb4)
    clear hv2 hb4
    obtain ⟨a2, c2, rfl, hl2, hc⟩ := Hvv.out
    clear hc hl2
    generalize hN : l.length = N at *
    have HN := hid hN
    clear hN
    go_wp2_with fail
    refine (cL.out _).mono ?_
    rintro e w5 ⟨rfl, hb5⟩
    have Hv5 := hid (isStrs_below (isStrs_below Hv.out H4.out) hb5)
    have Hvv5 := hid (isStrs_below Hvv.out hb5)
    have Hend := hid (Hb.out.trans ((H4.out.trans (hb5.mono H4.out.size)).mono Hb.out.size))
    clear hb5
    go_wp2_with fail
    go_loopg [8] N (fun g i wr => ∃ x : Nat, x ≤ N ∧ g = N - x ∧ i = .int .i64 x ∧ ∃ m, wr = w5.drewN m)
    case atStart => exact ⟨0, by omega, by omega, rfl, 0, rfl⟩
    case round =>
      obtain ⟨x, hx, hgx, rfl, m, rfl⟩ := hrel
      have HGX := hid hgx; clear hgx
      by_cases hxl : x < N
      · obtain ⟨_, _, he, _, hc⟩ := Hv5.out
        injection he with e1 e2 e3
        subst e1 e3
        obtain ⟨g, rfl, cl⟩ := hc x (by rw [HN.out]; exact hxl)
        clear hc e2
        obtain ⟨_, _, he, _, hc⟩ := Hvv5.out
        injection he with e1 e2 e3
        subst e1 e3
        obtain ⟨g2, rfl, cl2⟩ := hc x (by rw [HN.out]; exact hxl)
        clear hc e2
        generalize strB (sx l x) = z at *
        have hz : (z.toList == z.toList) = true := by simp
        have i1 : (x : Int) < N := by omega
        go_wp2_with fail
        go_quiet (fail)
        go_wp2_with fail
        go_roundg (N - (x + 1))
        case measure => have := HGX.out; omega
        case rel => exact ⟨x + 1, by omega, rfl, by go_num, (by first | exact ⟨_, rfl⟩ | exact drew2 _ _ _)⟩
      · go_wp2_with fail
        go_ret
        exact ⟨rfl, below_drewN_r Hend.out _⟩
  · rw [if_neg hq] at Hv
    have hqb : (q == 0) = false := by simp [hq]
    obtain ⟨a, c, rfl, hl, hc⟩ := Hv.out
    clear hq hc hl
    go_wp2_with fail
    refine (cL.out _).mono ?_
    rintro e w4 ⟨rfl, hb4⟩
    go_wp2_with fail
    go_ret
    exact ⟨rfl, Hb.out.trans ((below_of_drewN hb4).mono (by exact Hb.out.size))⟩
end Go.Proofs.YtpoekblolicehaaDoor
