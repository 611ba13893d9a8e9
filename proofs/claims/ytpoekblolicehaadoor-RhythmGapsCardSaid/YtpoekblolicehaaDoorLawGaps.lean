/-
  The statement RhythmGaps: the law answers true for all numbers.
-/
import Derived.Test.YtpoekblolicehaaDoorWalkM
namespace Go.Proofs.YtpoekblolicehaaDoor
open Go.RowKit

set_option maxHeartbeats 400000 in
set_option maxRecDepth 100000 in
theorem RhythmGaps_ok (s c n : Int) (w : World) (hs : (Lit.int .i64 s).wf = true) (hc : (Lit.int .i64 c).wf = true) (hn : (Lit.int .i64 n).wf = true) :
    Calls Tryd.prog 10 #[.int .i64 s, .int .i64 c, .int .i64 n] w fun e w' => e = .returned (.bool true) ∧ Below w.heap.size w w' := by
  have cL := hid lives_any
  clear hs hc hn
  by_cases hbad : n < 1 ∨ 1000 < n ∨ s < 0 ∨ n ≤ s ∨ c < 1 ∨ n < c
  · have cE := hid (fun w => gaps_bad s c n w hbad)
    have h6 : n < 1 ∨ (1 ≤ n ∧ 1000 < n) ∨ (1 ≤ n ∧ n ≤ 1000 ∧ s < 0) ∨ (1 ≤ n ∧ n ≤ 1000 ∧ 0 ≤ s ∧ n ≤ s) ∨ (1 ≤ n ∧ n ≤ 1000 ∧ 0 ≤ s ∧ s < n ∧ c < 1) ∨ (1 ≤ n ∧ n ≤ 1000 ∧ 0 ≤ s ∧ s < n ∧ 1 ≤ c ∧ n < c) := by omega
    clear hbad
    rcases h6 with h | ⟨h1, h⟩ | ⟨h1, h2, h⟩ | ⟨h1, h2, h3, h⟩ | ⟨h1, h2, h3, h4, h⟩ | ⟨h1, h2, h3, h4, h5, h⟩
    all_goals
      go_enter Tryd.func10, Tryd.ntmps10
      go_wp2_with fail
      refine (cE.out _).mono ?_
      rintro e w1 ⟨rfl, m, rfl⟩
      go_wp2_with fail
      refine (cL.out _).mono ?_
      rintro e w2 ⟨rfl, hb⟩
      go_wp2_with fail
      go_ret
      exact ⟨rfl, below_of_drewN hb⟩
  · obtain ⟨s, rfl⟩ := Int.eq_ofNat_of_zero_le (show 0 ≤ s by omega)
    obtain ⟨c, rfl⟩ := Int.eq_ofNat_of_zero_le (show 0 ≤ c by omega)
    obtain ⟨n, rfl⟩ := Int.eq_ofNat_of_zero_le (show 0 ≤ n by omega)
    have cE := fun w => gaps_good s c n w (by omega) (by omega) (by omega) (by omega) (by omega)
    have cF := fun w => rgaps_good s c n w (by omega) (by omega) (by omega) (by omega) (by omega)
    have d1 : decide ((n : Int) < 1) = false := by simp; omega
    have d2 : decide ((1000 : Int) < n) = false := by simp; omega
    have d3 : decide ((s : Int) < 0) = false := by simp
    have d4 : decide (n ≤ s) = false := by simp; omega
    have d5 : decide ((c : Int) < 1) = false := by simp; omega
    have d6 : decide (n < c) = false := by simp; omega
    generalize gaps s c n = gs at *
    clear hbad
    cases hap : apart s n c
    · simp only [hap] at cE cF
      have CE := hid cE
      have CF := hid cF
      clear cE cF hap
      go_enter Tryd.func10, Tryd.ntmps10
      go_wp2_with fail
      refine (CE.out _).mono ?_
      rintro e w1 ⟨v, rfl, hv, hb⟩
      have Hb := hid hb
      obtain ⟨va, vc, rfl, hvl, hvc⟩ := own_isInts (xs := []) hv
      clear hv hb hvl hvc
      go_wp2_with fail
      refine (CF.out _).mono ?_
      rintro e w2 ⟨u, rfl, hu, hb2⟩
      have Hb2 := hid hb2
      clear hu hb2
      go_wp2_with fail
      refine (cL.out _).mono ?_
      rintro e w3 ⟨rfl, hb3⟩
      go_wp2_with fail
      go_ret
      have h2 := Hb.out.trans ((Hb2.out).mono (by exact Hb.out.size))
      exact ⟨rfl, h2.trans (hb3.mono (by exact h2.size))⟩
    · simp only [hap, if_true] at cE cF
      have CE := hid cE
      have CF := hid cF
      clear cE cF hap
      go_enter Tryd.func10, Tryd.ntmps10
      go_wp2_with fail
      refine (CE.out _).mono ?_
      rintro e w1 ⟨v, rfl, hv, hb⟩
      have Hb := hid hb
      have Hv := hid (own_isInts hv)
      clear hv hb
      go_wp2_with fail
      refine (CF.out _).mono ?_
      rintro e w2 ⟨u, rfl, hu, hb2⟩
      have Hb2 := hid hb2
      have Hu := hid (own_isInts hu)
      clear hu hb2
      go_wp2_with fail
      refine (same_any _ _ gs gs _ ?_ ?_).mono ?_
      · exact isInts_below Hv.out Hb2.out
      · exact Hu.out
      rintro e w5 ⟨rfl, k5, rfl⟩
      have hl : (gs == gs) = true := by simp
      go_wp2_with fail
      refine (cL.out _).mono ?_
      rintro e w3 ⟨rfl, hb3⟩
      go_wp2_with fail
      go_ret
      have h2 := Hb.out.trans (Hb2.out.mono (by exact Hb.out.size))
      exact ⟨rfl, h2.trans ((below_of_drewN hb3).mono (by exact h2.size))⟩
end Go.Proofs.YtpoekblolicehaaDoor
