/-
  The statement RhythmBalances: the law answers true for every string.
-/
import Derived.Test.YtpoekblolicehaaDoorWalkQ
import Derived.Test.YtpoekblolicehaaDoorWalkR
namespace Go.Proofs.YtpoekblolicehaaDoor
open Go.RowKit

set_option maxHeartbeats 400000 in
theorem balanced_bad (s : ByteArray) (w : World) (hs : s.size ≤ 1000) (hc : chk s.data.toList ≠ 0) :
    Calls Tryd.prog 52 #[.string s] w fun e w' => e = .returned (.tuple #[.bool false, .int .i64 (chk s.data.toList)]) ∧ Below w.heap.size w w' := by
  have hck := check_any s w hs
  have hc2 : (chk s.data.toList == 0) = false := by simp [hc]
  clear hc
  generalize chk s.data.toList = q at *
  go_enter Tryd.func52, Tryd.ntmps52
  go_wp2_with fail
  refine hck.mono ?_
  rintro e w1 ⟨rfl, hb⟩
  go_wp2_with fail
  go_ret2
  exact ⟨rfl, hb⟩
theorem balanced_any (s : ByteArray) (w : World) (hs : s.size ≤ 1000) :
    Calls Tryd.prog 52 #[.string s] w fun e w' => e = .returned (.tuple #[.bool (if chk s.data.toList = 0 then balanced s.data.toList else false), .int .i64 (chk s.data.toList)]) ∧ Below w.heap.size w w' := by
  by_cases hc : chk s.data.toList = 0
  · rw [hc, if_pos rfl]
    exact balanced_ok s w hs hc
  · rw [if_neg hc]
    exact balanced_bad s w hs hc

set_option maxHeartbeats 400000 in
set_option maxRecDepth 100000 in
theorem RhythmBalances_ok (x : ByteArray) (w : World) (hx : x.size ≤ maxLen) : Calls Tryd.prog 17 #[.string x] w fun e w' => e = .returned (.bool true) ∧ Below w.heap.size w w' := by
  have hcut := cut_any x 100 w hx (by decide)
  obtain ⟨t, ht⟩ : ∃ t, t = x.extract 0 (cutN x.size 100) := ⟨_, rfl⟩
  have hts : t.size ≤ 1000 := by
    rw [ht, ByteArray.size_extract]
    have := cutN_le x.size 100
    omega
  rw [← ht] at hcut
  clear ht
  have cP := hid (fun w => balanced_any t w hts)
  have cK := hid (fun w => rcheck_any t w hts)
  have cR := hid (fun w => rbalanced_any t w hts)
  have cL := hid lives_any
  clear hts hx
  generalize chk t.data.toList = q at *
  generalize balanced t.data.toList = l at *
  go_enter Tryd.func17, Tryd.ntmps17
  go_wp2_with fail
  refine hcut.mono ?_
  rintro e w1 ⟨rfl, rfl⟩
  have cP := cP.out
  by_cases hq : q = 0
  · subst hq
    simp only [if_true] at cP
    have CP := hid cP
    clear cP
    go_wp2_with fail
    refine (CP.out _).mono ?_
    rintro e w1 ⟨rfl, hb⟩
    have Hb := hid hb
    clear hb
    go_wp2_with fail
    refine (cK.out _).mono ?_
    rintro e w3 ⟨rfl, n, rfl⟩
    go_wp2_with fail
    refine (cR.out _).mono ?_
    rintro e w4 ⟨rfl, n4, rfl⟩
    have hll : (l == l) = true := by simp
    go_wp2_with fail
    refine (cL.out _).mono ?_
    rintro e w8 ⟨rfl, hb8⟩
    go_wp2_with fail
    go_ret
    exact ⟨rfl, Hb.out.trans ((below_of_drewN hb8).mono (by exact Hb.out.size))⟩
  · simp only [if_neg hq] at cP
    have CP := hid cP
    clear cP
    have hqb : (q == 0) = false := by simp [hq]
    clear hq
    go_wp2_with fail
    refine (CP.out _).mono ?_
    rintro e w1 ⟨rfl, hb⟩
    have Hb := hid hb
    clear hb
    go_wp2_with fail
    refine (cK.out _).mono ?_
    rintro e w3 ⟨rfl, n, rfl⟩
    go_wp2_with fail
    refine (cL.out _).mono ?_
    rintro e w8 ⟨rfl, hb8⟩
    go_wp2_with fail
    go_ret
    exact ⟨rfl, Hb.out.trans ((below_of_drewN hb8).mono (by exact Hb.out.size))⟩
end Go.Proofs.YtpoekblolicehaaDoor
