/-
  The statement RhythmSquares: the law answers true for every string.
-/
import Derived.Test.YtpoekblolicehaaDoorWalkU
import Derived.Test.YtpoekblolicehaaDoorWalkJ
namespace Go.Proofs.YtpoekblolicehaaDoor
open Go.RowKit

set_option maxHeartbeats 400000 in
set_option maxRecDepth 100000 in
theorem RhythmSquares_ok (x : ByteArray) (w : World) (hx : x.size ≤ maxLen) : Calls Tryd.prog 16 #[.string x] w fun e w' => e = .returned (.bool true) ∧ Below w.heap.size w w' := by
  have hcut := cut_any x 80 w hx (by decide)
  obtain ⟨t, ht⟩ : ∃ t, t = x.extract 0 (cutN x.size 80) := ⟨_, rfl⟩
  have hts : t.size ≤ 1000 := by
    rw [ht, ByteArray.size_extract]
    have := cutN_le x.size 80
    omega
  rw [← ht] at hcut
  clear ht
  have cP := fun w => squares_any t w hts
  have cQ := hid (fun w => parts_any t w hts)
  have cK := hid (fun w => rcheck_any t w hts)
  have cR := hid (fun w => rsquares_any t w hts)
  have cS := hid (fun w => rparts_any t w hts)
  have cL := hid lives_any
  clear hts hx
  generalize chk t.data.toList = q at *
  generalize squares t.data.toList = l at *
  generalize partsL t.data.toList = m at *
  by_cases hq : q = 0
  · subst hq
    simp only [if_true] at cP
    have CP := hid cP
    clear cP
    go_enter Tryd.func16, Tryd.ntmps16
    go_wp2_with fail
    refine hcut.mono ?_
    rintro e w1 ⟨rfl, rfl⟩
    go_wp2_with fail
    refine (CP.out _).mono ?_
    rintro e w1 ⟨rfl, hb⟩
    have Hb := hid hb
    clear hb
    go_wp2_with fail
    refine (cQ.out _).mono ?_
    rintro e w2 ⟨u, rfl, hu, hb2⟩
    simp only [if_true] at hu
    have Hu := hid hu
    have Hb2 := hid (Hb.out.trans (hb2.mono Hb.out.size))
    clear hu hb2 Hb
    go_wp2_with fail
    refine (cK.out _).mono ?_
    rintro e w3 ⟨rfl, n, rfl⟩
    go_wp2_with fail
    refine (cR.out _).mono ?_
    rintro e w4 ⟨rfl, hb4⟩
    have H4 := hid (below_of_drewN hb4)
    clear hb4
    have hll : ((l : Int) == (l : Int)) = true := by simp
    have hll2 : (l == l) = true := by simp
    go_wp2_with fail
    refine (cS.out _).mono ?_
    rintro e w6 ⟨v3, rfl, hv3, hb6⟩
    have Hv3 := hid (own_isInts hv3)
    have H6 := hid hb6
    clear hv3 hb6
    go_wp2_with fail
    refine (same_any _ _ m m _ ?_ ?_).mono ?_
    · exact isInts_below Hu.out (H4.out.trans (H6.out.mono H4.out.size))
    · exact Hv3.out
    rintro e w7 ⟨rfl, k7, rfl⟩
    have hm : (m == m) = true := by simp
    go_wp2_with fail
    refine (cL.out _).mono ?_
    rintro e w8 ⟨rfl, hb8⟩
    go_wp2_with fail
    go_ret
    have h4 := Hb2.out.trans (H4.out.mono Hb2.out.size)
    have h6 := h4.trans (H6.out.mono h4.size)
    exact ⟨rfl, h6.trans ((below_of_drewN hb8).mono (by exact h6.size))⟩
  · simp only [if_neg hq] at cP
    have CP := hid cP
    clear cP
    have hqb : (q == 0) = false := by simp [hq]
    go_enter Tryd.func16, Tryd.ntmps16
    go_wp2_with fail
    refine hcut.mono ?_
    rintro e w1 ⟨rfl, rfl⟩
    go_wp2_with fail
    refine (CP.out _).mono ?_
    rintro e w1 ⟨rfl, hb⟩
    have Hb := hid hb
    clear hb
    go_wp2_with fail
    refine (cQ.out _).mono ?_
    rintro e w2 ⟨u, rfl, hu, hb2⟩
    rw [if_neg hq] at hu
    have Hb2 := hid (Hb.out.trans (hb2.mono Hb.out.size))
    obtain ⟨a2, c2, rfl, hl2, hc2⟩ := hu
    clear hb2 Hb hq hc2 hl2
    go_wp2_with fail
    refine (cK.out _).mono ?_
    rintro e w3 ⟨rfl, n, rfl⟩
    go_wp2_with fail
    refine (cL.out _).mono ?_
    rintro e w4 ⟨rfl, hb4⟩
    go_wp2_with fail
    go_ret
    exact ⟨rfl, Hb2.out.trans ((below_of_drewN hb4).mono (by exact Hb2.out.size))⟩
end Go.Proofs.YtpoekblolicehaaDoor
