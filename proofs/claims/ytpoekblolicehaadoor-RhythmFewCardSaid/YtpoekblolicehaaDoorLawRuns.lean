/-
  The statement RhythmRuns: the law answers true for every string.
-/
import Derived.Test.YtpoekblolicehaaDoorWalkJ
namespace Go.Proofs.YtpoekblolicehaaDoor
open Go.RowKit

set_option maxHeartbeats 400000 in
theorem runs_bad (s : ByteArray) (w : World) (hs : s.size ≤ 1000) (hc : chk s.data.toList ≠ 0) :
    Calls Tryd.prog 31 #[.string s] w fun e w' => e = .returned (.tuple #[.slice none 0 0, .int .i64 (chk s.data.toList)]) ∧ Below w.heap.size w w' := by
  have hck := check_any s w hs
  have hc2 : (chk s.data.toList == 0) = false := by simp [hc]
  clear hc
  generalize chk s.data.toList = q at *
  go_enter Tryd.func31, Tryd.ntmps31
  go_wp2_with fail
  refine hck.mono ?_
  rintro e w1 ⟨rfl, hb⟩
  go_wp2_with fail
  go_ret2
  exact ⟨rfl, hb⟩
theorem runs_fin (s : ByteArray) (w : World) (hs : s.size ≤ 1000) :
    Calls Tryd.prog 31 #[.string s] w fun e w' => ∃ v, e = .returned (.tuple #[v, .int .i64 (chk s.data.toList)]) ∧ IsRuns w' v (if chk s.data.toList = 0 then runs s.data.toList else []) ∧ Below w.heap.size w w' := by
  by_cases hc : chk s.data.toList = 0
  · rw [hc, if_pos rfl]
    exact (runs_ok s w hs hc).mono fun _ _ ⟨v, h1, h2, h3⟩ => ⟨v, h1, ownR_isRuns h2, h3⟩
  · rw [if_neg hc]
    exact (runs_bad s w hs hc).mono fun _ w' ⟨h1, h3⟩ => ⟨_, h1, ownR_isRuns (ownR_nil w' 0), h3⟩

set_option maxHeartbeats 400000 in
set_option maxRecDepth 100000 in
theorem RhythmRuns_ok (x : ByteArray) (w : World) (hx : x.size ≤ maxLen) : Calls Tryd.prog 5 #[.string x] w fun e w' => e = .returned (.bool true) ∧ Below w.heap.size w w' := by
  have hcut := cut_any x 60 w hx (by decide)
  obtain ⟨t, ht⟩ : ∃ t, t = x.extract 0 (cutN x.size 60) := ⟨_, rfl⟩
  have hts : t.size ≤ 1000 := by
    rw [ht, ByteArray.size_extract]
    have := cutN_le x.size 60
    omega
  rw [← ht] at hcut
  clear ht
  have cP := hid (fun w => runs_fin t w hts)
  have cK := hid (fun w => rcheck_any t w hts)
  have cR := hid (fun w => rruns_ok t w hts)
  have cL := hid lives_any
  clear hts hx
  generalize chk t.data.toList = q at *
  generalize runs t.data.toList = l at *
  go_enter Tryd.func5, Tryd.ntmps5
  go_wp2_with fail
  refine hcut.mono ?_
  rintro e w1 ⟨rfl, rfl⟩
  go_wp2_with fail
  refine (cP.out _).mono ?_
  rintro e w1 ⟨v, rfl, hv, hb⟩
  have Hv := hid hv
  have Hb := hid hb
  clear hv hb
  go_wp2_with fail
  refine (cK.out _).mono ?_
  rintro e w2 ⟨rfl, n, rfl⟩
  by_cases hq : q = 0
  · subst hq
    rw [if_pos rfl] at Hv
    go_wp2_with fail
    refine (cR.out _).mono ?_
    rintro e w2 ⟨u, rfl, hu, hb2⟩
    have Hu := hid (ownR_isRuns hu)
    have Hb2 := hid hb2
    clear hu hb2
    go_wp2_with fail
    refine (sameRuns_any _ _ l l _ ?_ ?_).mono ?_
    · exact isRuns_below Hv.out (below_of_drewN Hb2.out)
    · exact Hu.out
    rintro e w3 ⟨rfl, m, rfl⟩
    have hl : (l == l) = true := by simp
    go_wp2_with fail
    refine (cL.out _).mono ?_
    rintro e w4 ⟨rfl, hb4⟩
    go_wp2_with fail
    go_ret
    have h3 := Hb.out.trans ((below_of_drewN Hb2.out).mono Hb.out.size)
    exact ⟨rfl, h3.trans ((below_of_drewN hb4).mono (by exact h3.size))⟩
  · rw [if_neg hq] at Hv
    have hqb : (q == 0) = false := by simp [hq]
    obtain ⟨a, c, rfl, hl, hc⟩ := Hv.out
    clear hq hc hl
    go_wp2_with fail
    refine (cL.out _).mono ?_
    rintro e w4 ⟨rfl, hb4⟩
    go_wp2_with fail
    go_ret
    exact ⟨rfl, Hb.out.trans ((below_of_drewN hb4).mono (by exact Hb.out.size))⟩
end Go.Proofs.YtpoekblolicehaaDoor
