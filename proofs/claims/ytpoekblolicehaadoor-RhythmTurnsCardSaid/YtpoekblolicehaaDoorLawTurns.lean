/-
  The statement RhythmTurns: the law answers true for every string.
-/
import Derived.Test.YtpoekblolicehaaDoorWalkL
namespace Go.Proofs.YtpoekblolicehaaDoor
open Go.RowKit

set_option maxHeartbeats 400000 in
set_option maxRecDepth 100000 in
theorem RhythmTurns_ok (x : ByteArray) (w : World) (hx : x.size ≤ maxLen) : Calls Tryd.prog 9 #[.string x] w fun e w' => e = .returned (.bool true) ∧ Below w.heap.size w w' := by
  have hcut := cut_any x 200 w hx (by decide)
  obtain ⟨t, ht⟩ : ∃ t, t = x.extract 0 (cutN x.size 200) := ⟨_, rfl⟩
  have hts : t.size ≤ 1000 := by
    rw [ht, ByteArray.size_extract]
    have := cutN_le x.size 200
    omega
  rw [← ht] at hcut
  clear ht
  have cP := hid (fun w => turn_any t w hts)
  have cK := hid (fun w => rcheck_any t w hts)
  have cR := hid (fun w (h : 1 ≤ t.size) => rturn_any t w hts h)
  have cL := hid lives_any
  have c0 := hid (fun h : chk t.data.toList = 0 => chk_pos h)
  clear hts hx
  generalize chk t.data.toList = q at *
  generalize turn t.data.toList = l at *
  go_enter Tryd.func9, Tryd.ntmps9
  go_wp2_with fail
  refine hcut.mono ?_
  rintro e w1 ⟨rfl, rfl⟩
  have cP := cP.out
  by_cases hq : q = 0
  · have hp := hid (c0.out hq)
    subst hq
    simp only [if_true] at cP
    have CP := hid cP
    clear cP
    go_wp2_with fail
    refine (CP.out _).mono ?_
    rintro e w1 ⟨rfl, hb⟩
    have Hb := hid hb
    clear hb
    go_wp2_with fail
    refine (cK.out _).mono ?_
    rintro e w3 ⟨rfl, n, rfl⟩
    go_wp2_with fail
    refine (cR.out _ hp.out).mono ?_
    rintro e w4 ⟨rfl, n4, rfl⟩
    go_wp2_with fail
    refine (cL.out _).mono ?_
    rintro e w8 ⟨rfl, hb8⟩
    go_wp2_with fail
    go_ret
    exact ⟨rfl, Hb.out.trans ((below_of_drewN hb8).mono (by exact Hb.out.size))⟩
  · simp only [if_neg hq] at cP
    have CP := hid cP
    clear cP
    have hqb : (q == 0) = false := by simp [hq]
    have HQ := hid hq
    clear hq
    go_wp2_with fail
    refine (CP.out _).mono ?_
    rintro e w1 ⟨rfl, hb⟩
    have Hb := hid hb
    clear hb
    go_wp2_with fail
    refine (cK.out _).mono ?_
    rintro e w3 ⟨rfl, n, rfl⟩
    go_wp2_with fail
    refine (cL.out _).mono ?_
    rintro e w8 ⟨rfl, hb8⟩
    go_wp2_with fail
    go_ret
    exact ⟨rfl, Hb.out.trans ((below_of_drewN hb8).mono (by exact Hb.out.size))⟩
end Go.Proofs.YtpoekblolicehaaDoor
