/-
  The law ClaimGranted of chapter 12: its contract.
-/
import Derived.Test.YtaedbkdimpdngaaWalkAH
import Derived.Test.YtaedbkdimpdngaaLawIdeals
namespace Go.Proofs.Ytaedbkdimpdngaa
open Go.RowKit
theorem find_ne {d : Dsp} {c j : Nat} (h : d.stepOf c = some j) : j ≠ 0 := find_pos d h
set_option maxRecDepth 100000 in
set_option maxHeartbeats 4000000 in
theorem ClaimGranted_ok (n : Int) (vx : Value) (xs : List Pr) (c : Int) (w : World) (hx : ArgPr w vx xs) :
    Calls Try.prog 3 #[.int .i64 n, vx, .int .i64 c] w fun e w' => e = .returned (.bool true) ∧ Below w.heap.size w w' := by
  have HF := hid (few_any vx xs w hx)
  have hl41 : (xs.take 41).length ≤ 41 := by rw [List.length_take]; omega
  generalize xs.take 41 = l at *
  clear hx
  go_enter Try.func3, Try.ntmps3
  go_upto_region 2 with (first | (go_at_call 16; refine HF.out.mono ?_; rintro e w2 ⟨v2, rfl, hp2, hb2⟩; obtain ⟨na, nn, nc, rfl⟩ := ownP_sh hp2; have HB2 := hid hb2; have HP2 : Hid (∀ w', Below w2.heap.size w2 w' → IsPr w' (.slice na nn nc) l) := (fun w' hb => isPr_below (ownP_isPr hp2 (by omega)) hb); clear hp2 hb2) | fail)
  clear HF hl41
  have VA : Hid (∀ w', Below w2.heap.size w2 w' → Calls Try.prog 19 #[.int .i64 n, .slice na nn nc] w' fun e w'' => e = .returned (.bool (validP n l)) ∧ w'' = w') := fun w' hb => valid_any n _ l w' (HP2.out w' hb)
  have ST : Hid (∀ w', Below w2.heap.size w2 w' → Calls Try.prog 18 #[.int .i64 n, .slice na nn nc, .int .i64 c] w' fun e w'' => Below w'.heap.size w' w'' ∧ (((validP n l = false ∨ c < 0 ∨ n ≤ c) ∧ e = .returned (.tuple #[.int .i64 0, .int .i64 1])) ∨ (validP n l = true ∧ ∃ m : Nat, c = (m : Int) ∧ c < n ∧ e = .returned (stepsV (dsp n.toNat l) m)))) := fun w' hb => pSteps_any n _ l c w' (HP2.out w' hb)
  cases hva : validP n l with
  | false =>
    have C1 := hid (ret_bad (pGranted_any n _ l w2 (HP2.out w2 (Below.refl _ _))) hva)
    have C2 : Hid (∀ w', Below w2.heap.size w2 w' → Calls Try.prog 18 #[.int .i64 n, .slice na nn nc, .int .i64 c] w' fun e w'' => e = .returned (.tuple #[.int .i64 0, .int .i64 1]) ∧ Below w'.heap.size w' w'') := fun w' hb => (ST.out w' hb).mono fun e w'' h => ⟨h.2.elim (fun x => x.2) (fun x => by rw [hva] at x; cases x.1), h.1⟩
    rw [hva] at VA
    clear hva HP2 ST
    go_wp2_with (first
      | (go_at_call 17; refine C1.out.mono ?_; rintro e w3 ⟨rfl, hb3⟩; have HB3 := hid hb3; clear hb3)
      | (go_at_call 18; refine (C2.out _ HB3.out).mono ?_; rintro e w4 ⟨rfl, hb4⟩; have HB4 := hid (below_step HB3.out hb4); clear hb4)
      | (go_at_call 19; refine (VA.out _ HB4.out).mono ?_; rintro e w5 ⟨rfl, rfl⟩)
      | (go_at_call 20; refine (lives_any _).mono ?_; rintro e w6 ⟨rfl, hb6⟩; have HB6 := hid (below_step HB4.out hb6); clear hb6)
      | fail)
    go_ret
    exact ⟨rfl, below_step HB2.out HB6.out⟩
  | true =>
    obtain ⟨hn1, hn12⟩ := valid_n hva
    obtain ⟨m, rfl⟩ : ∃ m : Nat, n = (m : Int) := ⟨n.toNat, by omega⟩
    have C1 := hid (granted_ok (HP2.out w2 (Below.refl _ _)) hva)
    have CO : Hid (∀ w', Below w2.heap.size w2 w' → Calls Try.prog 21 #[.int .i64 (m : Int), .slice na nn nc] w' fun e w'' => ∃ b1 b2, e = .returned (Dv b1 b2 (dsp m l)) ∧ RDd w'' b1 b2 (dsp m l) ∧ Below w'.heap.size w' w'') := fun w' hb => rOf_any m _ l w' (HP2.out w' hb) hva
    have HG16 : Hid ((dsp m l).grd < 2 ^ 16) := Nat.lt_of_lt_of_le ((dsp m l).F_lt _) (pow_small (show m ≤ 16 by omega))
    change Hid (Calls Try.prog 17 _ w2 fun e w' => ∃ a k c, e = .returned (.tuple #[.slice a k c, .int .i64 0]) ∧ IsV w' (.slice a k c) ((elems (dsp m l).grd).map iv) ∧ _) at C1
    change Hid (∀ w', _ → Calls Try.prog 18 _ w' fun e w'' => _ ∧ (_ ∨ (_ ∧ ∃ k : Nat, c = (k : Int) ∧ c < (m : Int) ∧ e = .returned (stepsV (dsp m l) k)))) at ST
    have hdm : (dsp m l).n = m := rfl
    rw [hva] at VA ST
    clear hva HP2
    generalize dsp m l = d at *
    subst hdm
    by_cases hc0 : c < 0 ∨ (d.n : Int) ≤ c
    · have CS : Hid (∀ w', Below w2.heap.size w2 w' → Calls Try.prog 18 #[.int .i64 (d.n : Int), .slice na nn nc, .int .i64 c] w' fun e w'' => e = .returned (.tuple #[.int .i64 0, .int .i64 1]) ∧ Below w'.heap.size w' w'') := fun w' hb => (ST.out w' hb).mono fun e w'' h => ⟨h.2.elim (fun x => x.2) (fun ⟨_, k, h1, h2, _⟩ => by omega), h.1⟩
      clear ST
      go_upto_region 7 with (first
        | (go_at_call 17; refine C1.out.mono ?_; rintro e w3 ⟨ga, gn, gc, rfl, hi3, hb3⟩; have HI3 := hid hi3; have HB3 := hid hb3; clear hi3 hb3)
        | (go_at_call 18; refine (CS.out _ HB3.out).mono ?_; rintro e w4 ⟨rfl, hb4⟩; have HI4 := hid (isV_below HI3.out hb4); have HB4 := hid (below_step HB3.out hb4); clear hb4)
        | (go_at_call 19; refine (VA.out _ HB4.out).mono ?_; rintro e w5 ⟨rfl, rfl⟩)
        | (go_at_call 21; refine (CO.out _ HB4.out).mono ?_; rintro e w6 ⟨b1, b2, rfl, hr6, hb6⟩; have HR6 := hid hr6; have HI6 := hid (isV_below HI4.out hb6); have HB6 := hid (below_step HB4.out hb6); clear hr6 hb6)
        | (go_at_call 22; refine (rGranted_any b1 b2 d _ HR6.out).mono ?_; rintro e w7 ⟨g, rfl, hc7, hb7⟩; have HC7 := hid hc7; have HI7 := hid (isV_below HI6.out hb7); have HB7 := hid (below_step HB6.out hb7); clear hc7 hb7)
        | fail)
      go_upto_region 9 with (first
        | (go_at_call 24; refine (rList_any d.grd _ HG16.out).mono ?_; rintro e w8 ⟨v8, rfl, ho8, hb8⟩; have HL8 := hid (ownV_isV ho8 (by rw [List.length_map]; exact elems_le _)); have HI8 := hid (isV_below HI7.out hb8); have HB8 := hid (below_step HB7.out hb8); have HQ8 := hid hb8; clear ho8 hb8)
        | (go_at_call 23; refine (same01_any _ _ _ _ _ HI8.out HL8.out).mono ?_; rintro e w9 ⟨rfl, hb9⟩; rw [beq_self_eq_true]; have HB9 := hid (below_step HB8.out hb9); have HQ9 := hid (below_step HQ8.out hb9); clear hb9)
        | (go_at_call 20; refine (lives_any _).mono ?_; rintro e w10 ⟨rfl, hb10⟩; have HB10 := hid (below_step HB9.out hb10); have HQ10 := hid (below_step HQ9.out hb10); clear hb10)
        | fail)
      rcases hc0 with hc0 | hc0
      · have e1 : decide (c < 0) = true := decide_eq_true hc0
        go_wp2_with fail
        go_ret
        exact ⟨rfl, below_step HB2.out HB10.out⟩
      · by_cases hcn : c < 0
        · have e1 : decide (c < 0) = true := decide_eq_true hcn
          go_wp2_with fail
          go_ret
          exact ⟨rfl, below_step HB2.out HB10.out⟩
        · have e1 : decide (c < 0) = false := decide_eq_false hcn
          have e2 : decide ((d.n : Int) ≤ c) = true := decide_eq_true hc0
          go_wp2_with fail
          go_ret
          exact ⟨rfl, below_step HB2.out HB10.out⟩
    · obtain ⟨k, rfl⟩ : ∃ k : Nat, c = (k : Int) := ⟨c.toNat, by omega⟩
      have hkm : k < d.n := by omega
      have hkm2 : ¬ d.n ≤ k := by omega
      have e1 : decide ((k : Int) < 0) = false := decide_eq_false (by omega)
      cases hst : d.stepOf k with
      | none =>
        have CS : Hid (∀ w', Below w2.heap.size w2 w' → Calls Try.prog 18 #[.int .i64 (d.n : Int), .slice na nn nc, .int .i64 (k : Int)] w' fun e w'' => e = .returned (.tuple #[.int .i64 0, .int .i64 5]) ∧ Below w'.heap.size w' w'') := fun w' hb => (ST.out w' hb).mono fun e w'' h => ⟨h.2.elim (fun x => by rcases x.1 with h1 | h1 | h1 <;> first | cases h1 | omega) (fun ⟨_, j, h1, h2, h3⟩ => by
          have : j = k := by omega
          subst this
          unfold stepsV at h3
          rw [hst] at h3
          exact h3), h.1⟩
        clear ST hc0
        go_upto_region 7 with (first
          | (go_at_call 17; refine C1.out.mono ?_; rintro e w3 ⟨ga, gn, gc, rfl, hi3, hb3⟩; have HI3 := hid hi3; have HB3 := hid hb3; clear hi3 hb3)
          | (go_at_call 18; refine (CS.out _ HB3.out).mono ?_; rintro e w4 ⟨rfl, hb4⟩; have HI4 := hid (isV_below HI3.out hb4); have HB4 := hid (below_step HB3.out hb4); clear hb4)
          | (go_at_call 19; refine (VA.out _ HB4.out).mono ?_; rintro e w5 ⟨rfl, rfl⟩)
          | (go_at_call 21; refine (CO.out _ HB4.out).mono ?_; rintro e w6 ⟨b1, b2, rfl, hr6, hb6⟩; have HR6 := hid hr6; have HI6 := hid (isV_below HI4.out hb6); have HB6 := hid (below_step HB4.out hb6); clear hr6 hb6)
          | (go_at_call 22; refine (rGranted_any b1 b2 d _ HR6.out).mono ?_; rintro e w7 ⟨g, rfl, hc7, hb7⟩; have HC7 := hid hc7; have HI7 := hid (isV_below HI6.out hb7); have HB7 := hid (below_step HB6.out hb7); clear hc7 hb7)
          | fail)
        go_upto_region 9 with (first
          | (go_at_call 24; refine (rList_any d.grd _ HG16.out).mono ?_; rintro e w8 ⟨v8, rfl, ho8, hb8⟩; have HL8 := hid (ownV_isV ho8 (by rw [List.length_map]; exact elems_le _)); have HI8 := hid (isV_below HI7.out hb8); have HB8 := hid (below_step HB7.out hb8); have HQ8 := hid hb8; clear ho8 hb8)
          | (go_at_call 23; refine (same01_any _ _ _ _ _ HI8.out HL8.out).mono ?_; rintro e w9 ⟨rfl, hb9⟩; rw [beq_self_eq_true]; have HB9 := hid (below_step HB8.out hb9); have HQ9 := hid (below_step HQ8.out hb9); clear hb9)
          | (go_at_call 20; refine (lives_any _).mono ?_; rintro e w10 ⟨rfl, hb10⟩; have HB10 := hid (below_step HB9.out hb10); have HQ10 := hid (below_step HQ9.out hb10); clear hb10)
          | fail)
        have c0 := (HQ10.out.cell (World.block_lt_of_cell? _ _ (HC7.out k hkm))).trans (HC7.out k hkm)
        rw [hst] at c0
        change w10.cell? _ = some (.int .i64 0) at c0
        clear hst
        go_wp2_with fail
        go_ret
        exact ⟨rfl, below_step HB2.out HB10.out⟩
      | some j =>
        have hj0 := find_ne hst
        have CS : Hid (∀ w', Below w2.heap.size w2 w' → Calls Try.prog 18 #[.int .i64 (d.n : Int), .slice na nn nc, .int .i64 (k : Int)] w' fun e w'' => e = .returned (.tuple #[.int .i64 (j : Int), .int .i64 0]) ∧ Below w'.heap.size w' w'') := fun w' hb => (ST.out w' hb).mono fun e w'' h => ⟨h.2.elim (fun x => by rcases x.1 with h1 | h1 | h1 <;> first | cases h1 | omega) (fun ⟨_, i, h1, h2, h3⟩ => by
          have : i = k := by omega
          subst this
          unfold stepsV at h3
          rw [hst] at h3
          exact h3), h.1⟩
        clear ST hc0
        go_upto_region 7 with (first
          | (go_at_call 17; refine C1.out.mono ?_; rintro e w3 ⟨ga, gn, gc, rfl, hi3, hb3⟩; have HI3 := hid hi3; have HB3 := hid hb3; clear hi3 hb3)
          | (go_at_call 18; refine (CS.out _ HB3.out).mono ?_; rintro e w4 ⟨rfl, hb4⟩; have HI4 := hid (isV_below HI3.out hb4); have HB4 := hid (below_step HB3.out hb4); clear hb4)
          | (go_at_call 19; refine (VA.out _ HB4.out).mono ?_; rintro e w5 ⟨rfl, rfl⟩)
          | (go_at_call 21; refine (CO.out _ HB4.out).mono ?_; rintro e w6 ⟨b1, b2, rfl, hr6, hb6⟩; have HR6 := hid hr6; have HI6 := hid (isV_below HI4.out hb6); have HB6 := hid (below_step HB4.out hb6); clear hr6 hb6)
          | (go_at_call 22; refine (rGranted_any b1 b2 d _ HR6.out).mono ?_; rintro e w7 ⟨g, rfl, hc7, hb7⟩; have HC7 := hid hc7; have HI7 := hid (isV_below HI6.out hb7); have HB7 := hid (below_step HB6.out hb7); clear hc7 hb7)
          | fail)
        go_upto_region 9 with (first
          | (go_at_call 24; refine (rList_any d.grd _ HG16.out).mono ?_; rintro e w8 ⟨v8, rfl, ho8, hb8⟩; have HL8 := hid (ownV_isV ho8 (by rw [List.length_map]; exact elems_le _)); have HI8 := hid (isV_below HI7.out hb8); have HB8 := hid (below_step HB7.out hb8); have HQ8 := hid hb8; clear ho8 hb8)
          | (go_at_call 23; refine (same01_any _ _ _ _ _ HI8.out HL8.out).mono ?_; rintro e w9 ⟨rfl, hb9⟩; rw [beq_self_eq_true]; have HB9 := hid (below_step HB8.out hb9); have HQ9 := hid (below_step HQ8.out hb9); clear hb9)
          | (go_at_call 20; refine (lives_any _).mono ?_; rintro e w10 ⟨rfl, hb10⟩; have HB10 := hid (below_step HB9.out hb10); have HQ10 := hid (below_step HQ9.out hb10); clear hb10)
          | fail)
        have c0 := (HQ10.out.cell (World.block_lt_of_cell? _ _ (HC7.out k hkm))).trans (HC7.out k hkm)
        rw [hst] at c0
        change w10.cell? _ = some (.int .i64 (j : Int)) at c0
        have hjb : ((j : Int) == 0) = false := beq_eq_false_iff_ne.2 (by omega)
        clear hst
        go_wp2_with fail
        go_ret
        exact ⟨rfl, below_step HB2.out HB10.out⟩
end Go.Proofs.Ytaedbkdimpdngaa
