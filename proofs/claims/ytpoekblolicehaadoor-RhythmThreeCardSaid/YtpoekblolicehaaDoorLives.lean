/-
  lives: the program returns the results of the examples that the document gives.
-/
import Derived.Test.YtpoekblolicehaaDoorWalkH
import Derived.Test.YtpoekblolicehaaDoorWalkI
namespace Go.Proofs.YtpoekblolicehaaDoor
open Go.RowKit

def abaab : ByteArray := ⟨#[97, 98, 97, 97, 98]⟩
def abl : Str := [97, 98, 97, 97, 98]
theorem ab_chk : chk abl = 0 := by decide
theorem ab_periods : periods abl = [3, 5] := by decide
theorem ab_crits : crits abl = [2, 4] := by decide
theorem ab_runs : runs abl = [(2, 4, 1)] := by decide
theorem ev32 : even 3 2 = [97, 97, 98, 97, 98] := by decide

theorem lives_periods (w : World) : Calls Tryd.prog 22 #[.string ⟨#[97, 98, 97, 97, 98]⟩] w fun e w' => ∃ v, e = .returned (.tuple #[v, .int .i64 0]) ∧ IsInts w' v [3, 5] ∧ Below w.heap.size w w' := by
  refine (periods_any ⟨#[97, 98, 97, 97, 98]⟩ w (by decide)).mono ?_
  rintro e w' ⟨v, rfl, hv, hb⟩
  have e1 : chk (⟨#[97, 98, 97, 97, 98]⟩ : ByteArray).data.toList = 0 := ab_chk
  rw [e1, if_pos rfl] at hv
  refine ⟨v, by rw [e1], ?_, hb⟩
  have e2 : periods (⟨#[97, 98, 97, 97, 98]⟩ : ByteArray).data.toList = [3, 5] := ab_periods
  rw [e2] at hv
  exact own_isInts hv
theorem lives_critical (w : World) : Calls Tryd.prog 28 #[.string ⟨#[97, 98, 97, 97, 98]⟩] w fun e w' => ∃ v, e = .returned (.tuple #[v, .int .i64 0]) ∧ IsInts w' v [2, 4] ∧ Below w.heap.size w w' := by
  refine (critical_any ⟨#[97, 98, 97, 97, 98]⟩ w (by decide)).mono ?_
  rintro e w' ⟨v, rfl, hv, hb⟩
  have e1 : chk (⟨#[97, 98, 97, 97, 98]⟩ : ByteArray).data.toList = 0 := ab_chk
  rw [e1, if_pos rfl] at hv
  refine ⟨v, by rw [e1], ?_, hb⟩
  have e2 : crits (⟨#[97, 98, 97, 97, 98]⟩ : ByteArray).data.toList = [2, 4] := ab_crits
  rw [e2] at hv
  exact own_isInts hv
theorem lives_runs (w : World) : Calls Tryd.prog 31 #[.string ⟨#[97, 98, 97, 97, 98]⟩] w fun e w' => ∃ v, e = .returned (.tuple #[v, .int .i64 0]) ∧ IsRuns w' v [(2, 4, 1)] ∧ Below w.heap.size w w' := by
  refine (runs_ok ⟨#[97, 98, 97, 97, 98]⟩ w (by decide) ab_chk).mono ?_
  rintro e w' ⟨v, rfl, hv, hb⟩
  refine ⟨v, rfl, ?_, hb⟩
  have e2 : runs (⟨#[97, 98, 97, 97, 98]⟩ : ByteArray).data.toList = [(2, 4, 1)] := ab_runs
  rw [e2] at hv
  exact ownR_isRuns hv
theorem lives_even (w : World) : Calls Tryd.prog 34 #[.int .i64 3, .int .i64 2] w fun e w' => e = .returned (.tuple #[.string ⟨#[97, 97, 98, 97, 98]⟩, .int .i64 0]) ∧ Below w.heap.size w w' := by
  have := even_ok 3 2 w (by decide) (by decide) (by decide) (by decide)
  rw [ev32] at this
  exact this

/-- a slice of ints that the walk has just laid -/
theorem made2 (w : World) (g : Nat) (hg : g = w.heap.size) (a b : Int) : IsInts (w.alloc (.cells #[.int .i64 a, .int .i64 b] 3)) (.slice (some ⟨g, 0, none⟩) 2 2) [a, b] := by
  subst hg
  refine ⟨_, 2, rfl, by unfold maxLen; simp, fun i hi => ⟨w.heap.size, rfl, ?_⟩⟩
  rw [World.cell?, heap_alloc_new]
  match i, hi with
  | 0, _ => rfl
  | 1, _ => rfl
theorem made1r (w : World) (g : Nat) (hg : g = w.heap.size) (a b c : Nat) : IsRuns (w.alloc (.cells #[.int .i64 a, .int .i64 b, .int .i64 c] 62)) (.slice (some ⟨g, 0, none⟩) 1 1) [(a, b, c)] := by
  subst hg
  refine ⟨_, 1, rfl, by unfold maxLen; simp, fun i hi => ⟨w.heap.size, rfl, ?_⟩⟩
  obtain rfl : i = 0 := by simpa using hi
  simp only [World.cell?, heap_alloc_new]
  exact ⟨rfl, rfl, rfl⟩

set_option maxHeartbeats 400000 in
set_option maxRecDepth 100000 in
theorem lives_any (w : World) : Calls Tryd.prog 24 #[] w fun e w' => e = .returned (.bool true) ∧ Below w.heap.size w w' := by
  go_enter Tryd.func24, Tryd.ntmps24
  go_wp2_with fail
  refine (lives_periods _).mono ?_
  rintro e w1 ⟨v1, rfl, h1, b1⟩
  have H1 := hid h1; have B1 := hid b1; clear h1 b1
  go_wp2_with fail
  refine (lives_critical _).mono ?_
  rintro e w2 ⟨v2, rfl, h2, b2⟩
  have H2 := hid h2; have B2 := hid b2; clear h2 b2
  go_wp2_with fail
  refine (lives_runs _).mono ?_
  rintro e w3 ⟨v3, rfl, h3, b3⟩
  have H3 := hid h3; have B3 := hid b3; clear h3 b3
  go_wp2_with fail
  refine (lives_even _).mono ?_
  rintro e w4 ⟨rfl, b4⟩
  have B4 := hid b4; clear b4
  go_wp2_with fail
  have b14 := (B2.out.trans (B3.out.mono B2.out.size)).trans (B4.out.mono (Nat.le_trans B2.out.size B3.out.size))
  have b24 := B3.out.trans (B4.out.mono B3.out.size)
  have I1 := hid (isInts_below H1.out b14)
  have I2 := hid (isInts_below H2.out b24)
  have I3 := hid (isRuns_below H3.out B4.out)
  have B14 := hid (B1.out.trans (b14.mono B1.out.size))
  clear b14 b24 H1 H2 H3 B1 B2 B3 B4
  refine (same_any _ _ [3, 5] [3, 5] _ ?_ ?_).mono ?_
  · exact isInts_below I1.out ((Below.refl _ _).alloc (Nat.le_refl _) _)
  · exact made2 w4 _ rfl 3 5
  rintro e w5 ⟨rfl, n5, rfl⟩
  go_wp2_with fail
  refine (same_any _ _ [2, 4] [2, 4] _ ?_ ?_).mono ?_
  · exact isInts_below I2.out ((below_drewN_r ((Below.refl w4.heap.size w4).alloc (Nat.le_refl _) _) _).alloc (by simp) _)
  · exact made2 _ _ (by simp) 2 4
  rintro e w6 ⟨rfl, n6, rfl⟩
  go_wp2_with fail
  refine (sameRuns_any _ _ [(2, 4, 1)] [(2, 4, 1)] _ ?_ ?_).mono ?_
  · exact isRuns_below I3.out ((below_drewN_r ((below_drewN_r ((Below.refl w4.heap.size w4).alloc (Nat.le_refl _) _) _).alloc (by simp) _) _).alloc (by simp; omega) _)
  · exact made1r _ _ (by simp) 2 4 1
  rintro e w7 ⟨rfl, n7, rfl⟩
  go_wp2_with fail
  go_ret
  have hz := B14.out.size
  exact ⟨rfl, below_drewN_r ((below_drewN_r ((below_drewN_r (B14.out.alloc (by omega) _) _).alloc (by simp; omega) _) _).alloc (by simp; omega) _) _⟩
end Go.Proofs.YtpoekblolicehaaDoor
