/-
  The statement RhythmLocals: the law answers true for every string.
-/
import Derived.Test.YtpoekblolicehaaDoorWalkJ
namespace Go.Proofs.YtpoekblolicehaaDoor
open Go.RowKit

theorem locals_fin (s : ByteArray) (w : World) (hs : s.size ≤ 1000) :
    Calls Tryd.prog 27 #[.string s] w fun e w' => ∃ v, e = .returned (.tuple #[v, .int .i64 (chk s.data.toList)]) ∧ IsInts w' v (if chk s.data.toList = 0 then locals s.data.toList else []) ∧ Below w.heap.size w w' :=
  (local_list s w hs).mono fun _ _ ⟨v, h1, h2, h3⟩ => ⟨v, h1, own_isInts h2, h3⟩
theorem crits_fin (s : ByteArray) (w : World) (hs : s.size ≤ 1000) :
    Calls Tryd.prog 28 #[.string s] w fun e w' => ∃ v, e = .returned (.tuple #[v, .int .i64 (chk s.data.toList)]) ∧ IsInts w' v (if chk s.data.toList = 0 then crits s.data.toList else []) ∧ Below w.heap.size w w' :=
  (critical_any s w hs).mono fun _ _ ⟨v, h1, h2, h3⟩ => ⟨v, h1, own_isInts h2, h3⟩

set_option maxHeartbeats 400000 in
set_option maxRecDepth 100000 in
theorem RhythmLocals_ok (x : ByteArray) (w : World) (hx : x.size ≤ maxLen) : Calls Tryd.prog 4 #[.string x] w fun e w' => e = .returned (.bool true) ∧ Below w.heap.size w w' := by
  have hcut := cut_any x 200 w hx (by decide)
  obtain ⟨t, ht⟩ : ∃ t, t = x.extract 0 (cutN x.size 200) := ⟨_, rfl⟩
  have hts : t.size ≤ 1000 := by
    rw [ht, ByteArray.size_extract]
    have := cutN_le x.size 200
    omega
  rw [← ht] at hcut
  clear ht
  have cP := hid (fun w => locals_fin t w hts)
  have cQ := hid (fun w => crits_fin t w hts)
  have cK := hid (fun w => rcheck_any t w hts)
  have cR := hid (fun w (h : 1 ≤ t.size) => rlocals_any t w hts h)
  have cS := hid (fun w (h : 1 ≤ t.size) => rcritical_any t w hts h)
  have cL := hid lives_any
  have c0 := hid (fun h : chk t.data.toList = 0 => chk_pos h)
  clear hts hx
  generalize chk t.data.toList = q at *
  generalize locals t.data.toList = l at *
  generalize crits t.data.toList = m at *
  go_enter Tryd.func4, Tryd.ntmps4
  go_wp2_with fail
  refine hcut.mono ?_
  rintro e w1 ⟨rfl, rfl⟩
  go_wp2_with fail
  refine (cP.out _).mono ?_
  rintro e w1 ⟨v, rfl, hv, hb⟩
  have Hv := hid hv
  have Hb := hid hb
  clear hv hb
  go_wp2_with fail
  refine (cQ.out _).mono ?_
  rintro e w2 ⟨u, rfl, hu, hb2⟩
  have Hu := hid hu
  have Hv2 := hid (isInts_below Hv.out hb2)
  have Hb2 := hid (Hb.out.trans (hb2.mono Hb.out.size))
  clear hu hb2 Hv Hb
  go_wp2_with fail
  refine (cK.out _).mono ?_
  rintro e w3 ⟨rfl, n, rfl⟩
  by_cases hq : q = 0
  · have hp := hid (c0.out hq)
    subst hq
    rw [if_pos rfl] at Hv2 Hu
    go_wp2_with fail
    refine (cR.out _ hp.out).mono ?_
    rintro e w4 ⟨v2, rfl, hv2, hb4⟩
    have Hvv := hid (own_isInts hv2)
    have H4 := hid (below_of_drewN hb4)
    clear hv2 hb4
    go_wp2_with fail
    refine (same_any _ _ l l _ ?_ ?_).mono ?_
    · exact isInts_below Hv2.out H4.out
    · exact Hvv.out
    rintro e w5 ⟨rfl, k5, rfl⟩
    have hl : (l == l) = true := by simp
    go_wp2_with fail
    refine (cS.out _ hp.out).mono ?_
    rintro e w6 ⟨v3, rfl, hv3, hb6⟩
    have Hv3 := hid (own_isInts hv3)
    have H6 := hid (below_of_drewN hb6)
    clear hv3 hb6
    go_wp2_with fail
    refine (same_any _ _ m m _ ?_ ?_).mono ?_
    · exact isInts_below Hu.out (H4.out.trans (H6.out.mono H4.out.size))
    · exact Hv3.out
    rintro e w7 ⟨rfl, k7, rfl⟩
    have hm : (m == m) = true := by simp
    go_wp2_with fail
    refine (cL.out _).mono ?_
    rintro e w8 ⟨rfl, hb8⟩
    go_wp2_with fail
    go_ret
    have h4 := Hb2.out.trans (H4.out.mono Hb2.out.size)
    have h6 := h4.trans (H6.out.mono h4.size)
    exact ⟨rfl, h6.trans ((below_of_drewN hb8).mono (by exact h6.size))⟩
  · rw [if_neg hq] at Hv2 Hu
    have hqb : (q == 0) = false := by simp [hq]
    obtain ⟨a, c, rfl, hl, hc⟩ := Hv2.out
    clear hc hl
    obtain ⟨a2, c2, rfl, hl2, hc2⟩ := Hu.out
    clear hq hc2 hl2
    go_wp2_with fail
    refine (cL.out _).mono ?_
    rintro e w4 ⟨rfl, hb4⟩
    go_wp2_with fail
    go_ret
    exact ⟨rfl, Hb2.out.trans ((below_of_drewN hb4).mono (by exact Hb2.out.size))⟩
end Go.Proofs.YtpoekblolicehaaDoor
