/-
  The statement RhythmPeriods: the law answers true for every string.
-/
import Derived.Test.YtpoekblolicehaaDoorWalkJ
namespace Go.Proofs.YtpoekblolicehaaDoor
open Go.RowKit

theorem periods_fin (s : ByteArray) (w : World) (hs : s.size ≤ 1000) :
    Calls Tryd.prog 22 #[.string s] w fun e w' => ∃ v, e = .returned (.tuple #[v, .int .i64 (chk s.data.toList)]) ∧ IsInts w' v (if chk s.data.toList = 0 then periods s.data.toList else []) ∧ Below w.heap.size w w' :=
  (periods_any s w hs).mono fun _ _ ⟨v, h1, h2, h3⟩ => ⟨v, h1, own_isInts h2, h3⟩

set_option maxHeartbeats 400000 in
set_option maxRecDepth 100000 in
theorem RhythmPeriods_ok (x : ByteArray) (w : World) (hx : x.size ≤ maxLen) : Calls Tryd.prog 3 #[.string x] w fun e w' => e = .returned (.bool true) ∧ Below w.heap.size w w' := by
  have hcut := cut_any x 200 w hx (by decide)
  obtain ⟨t, ht⟩ : ∃ t, t = x.extract 0 (cutN x.size 200) := ⟨_, rfl⟩
  have hts : t.size ≤ 1000 := by
    rw [ht, ByteArray.size_extract]
    have := cutN_le x.size 200
    omega
  rw [← ht] at hcut
  clear ht
  have cP := hid (fun w => periods_fin t w hts)
  have cK := hid (fun w => rcheck_any t w hts)
  have cR := hid (fun w => rperiods_any t w hts)
  have cL := hid lives_any
  clear hts hx
  generalize chk t.data.toList = q at *
  generalize periods t.data.toList = l at *
  go_enter Tryd.func3, Tryd.ntmps3
  go_wp2_with fail
  refine hcut.mono ?_
  rintro e w1 ⟨rfl, rfl⟩
  go_wp2_with fail
  refine (cP.out _).mono ?_
  rintro e w1 ⟨v, rfl, hv, hb⟩
  have Hv := hid hv
  have Hb := hid hb
  clear hv hb
  go_wp2_with fail
  refine (cK.out _).mono ?_
  rintro e w2 ⟨rfl, n, rfl⟩
  by_cases hq : q = 0
  · subst hq
    rw [if_pos rfl] at Hv
    go_wp2_with fail
    refine (cR.out _).mono ?_
    rintro e w2 ⟨u, rfl, hu, hb2⟩
    have Hu := hid (own_isInts hu)
    have Hb2 := hid hb2
    clear hu hb2
    go_wp2_with fail
    refine (same_any _ _ l l _ ?_ ?_).mono ?_
    · exact isInts_below Hv.out (below_of_drewN Hb2.out)
    · exact Hu.out
    rintro e w3 ⟨rfl, m, rfl⟩
    have hl : (l == l) = true := by simp
    go_wp2_with fail
    refine (cL.out _).mono ?_
    rintro e w4 ⟨rfl, hb4⟩
    go_wp2_with fail
    go_ret
    have h3 := Hb.out.trans ((below_of_drewN Hb2.out).mono Hb.out.size)
    exact ⟨rfl, h3.trans ((below_of_drewN hb4).mono (by exact h3.size))⟩
  · rw [if_neg hq] at Hv
    have hqb : (q == 0) = false := by simp [hq]
    obtain ⟨a, c, rfl, hl, hc⟩ := Hv.out
    clear hq hc hl
    go_wp2_with fail
    refine (cL.out _).mono ?_
    rintro e w4 ⟨rfl, hb4⟩
    go_wp2_with fail
    go_ret
    exact ⟨rfl, Hb.out.trans ((below_of_drewN hb4).mono (by exact Hb.out.size))⟩
end Go.Proofs.YtpoekblolicehaaDoor
