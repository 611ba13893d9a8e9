/-
  The statement RhythmEvens: the law answers true for all numbers.
-/
import Derived.Test.YtpoekblolicehaaDoorWalkJ
namespace Go.Proofs.YtpoekblolicehaaDoor
open Go.RowKit


set_option maxHeartbeats 400000 in
set_option maxRecDepth 100000 in
theorem RhythmEvens_ok (p q : Int) (w : World) (hp : (Lit.int .i64 p).wf = true) (hq : (Lit.int .i64 q).wf = true) :
    Calls Tryd.prog 6 #[.int .i64 p, .int .i64 q] w fun e w' => e = .returned (.bool true) ∧ Below w.heap.size w w' := by
  have cL := hid lives_any
  by_cases hbad : p < 1 ∨ q < 1 ∨ 200 < p ∨ 200 - p < q
  · have cE := hid (fun w => even_bad p q w hbad)
    have cases4 : ∀ h : p < 1 ∨ (1 ≤ p ∧ q < 1) ∨ (1 ≤ p ∧ 1 ≤ q ∧ 200 < p) ∨ (1 ≤ p ∧ 1 ≤ q ∧ p ≤ 200 ∧ 200 < q) ∨ (1 ≤ p ∧ 1 ≤ q ∧ p ≤ 200 ∧ q ≤ 200 ∧ 200 < p + q), True := fun _ => trivial
    have h5 : p < 1 ∨ (1 ≤ p ∧ q < 1) ∨ (1 ≤ p ∧ 1 ≤ q ∧ 200 < p) ∨ (1 ≤ p ∧ 1 ≤ q ∧ p ≤ 200 ∧ 200 < q) ∨ (1 ≤ p ∧ 1 ≤ q ∧ p ≤ 200 ∧ q ≤ 200 ∧ 200 < p + q) := by omega
    clear hbad hp hq cases4
    rcases h5 with h | ⟨h1, h⟩ | ⟨h1, h2, h⟩ | ⟨h1, h2, h3, h⟩ | ⟨h1, h2, h3, h4, h⟩
    all_goals
      go_enter Tryd.func6, Tryd.ntmps6
      go_wp2_with fail
      refine (cE.out _).mono ?_
      rintro e w1 ⟨rfl, rfl⟩
      go_wp2_with fail
      refine (cL.out _).mono ?_
      rintro e w2 ⟨rfl, hb⟩
      go_wp2_with fail
      go_ret
      exact ⟨rfl, hb⟩
  · obtain ⟨a, rfl⟩ := Int.eq_ofNat_of_zero_le (show 0 ≤ p by omega)
    obtain ⟨b, rfl⟩ := Int.eq_ofNat_of_zero_le (show 0 ≤ q by omega)
    have h1 : 1 ≤ a := by omega
    have h2 : 1 ≤ b := by omega
    have h3 : a + b ≤ 200 := by omega
    have g1 : 1 ≤ Nat.gcd a b := Nat.gcd_pos_of_pos_left _ h1
    have cG := fun w => gcd_any a b w (by omega) (by omega) (by omega) (by omega)
    rw [Int.toNat_natCast, Int.toNat_natCast] at cG
    have b1 : ¬ (a : Int) < 1 := by omega
    have b2 : ¬ (b : Int) < 1 := by omega
    have b3 : ¬ 200 < (a : Int) := by omega
    have b4 : ¬ 200 < (b : Int) := by omega
    have b5 : ¬ 200 < (a : Int) + b := by omega
    clear hbad hp hq
    by_cases hg : 1 < Nat.gcd a b
    · have cE := hid (fun w => even_none a b w h1 h2 h3 hg)
      generalize Nat.gcd a b = g at *
      have CG := hid cG; clear cG
      go_enter Tryd.func6, Tryd.ntmps6
      go_wp2_with fail
      refine (cE.out _).mono ?_
      rintro e w1 ⟨rfl, hb⟩
      go_wp2_with fail
      refine (CG.out _).mono ?_
      rintro e w2 ⟨rfl, n, rfl⟩
      go_wp2_with fail
      refine (cL.out _).mono ?_
      rintro e w3 ⟨rfl, hb3⟩
      go_wp2_with fail
      go_ret
      exact ⟨rfl, hb.trans ((below_of_drewN hb3).mono (by exact hb.size))⟩
    · have hg1 : Nat.gcd a b = 1 := by omega
      have cE := hid (fun w => even_ok a b w h1 h2 h3 hg1)
      have cF := hid (fun w => reven_ok a b w h1 h2 h3)
      rw [hg1] at cG
      clear hg hg1 g1
      have CG := hid cG; clear cG
      generalize (⟨(even a b).toArray⟩ : ByteArray) = t at *
      have ht : (t.toList == t.toList) = true := by simp
      go_enter Tryd.func6, Tryd.ntmps6
      go_wp2_with fail
      refine (cE.out _).mono ?_
      rintro e w1 ⟨rfl, hb⟩
      go_wp2_with fail
      refine (CG.out _).mono ?_
      rintro e w2 ⟨rfl, n, rfl⟩
      go_wp2_with fail
      refine (cF.out _).mono ?_
      rintro e w2 ⟨rfl, rfl⟩
      go_wp2_with fail
      refine (cL.out _).mono ?_
      rintro e w3 ⟨rfl, hb3⟩
      go_wp2_with fail
      go_ret
      exact ⟨rfl, hb.trans ((below_of_drewN hb3).mono (by exact hb.size))⟩
end Go.Proofs.YtpoekblolicehaaDoor
