/-
  The law ClaimOdds of chapter 12: its contract.
-/
import Derived.Test.YtaedbkdimpdngaaWalkAJ
import Derived.Test.YtaedbkdimpdngaaLawIdeals
namespace Go.Proofs.Ytaedbkdimpdngaa
open Go.RowKit
set_option maxRecDepth 100000 in
set_option maxHeartbeats 4000000 in
theorem ClaimOdds_ok (n : Int) (vx : Value) (xs : List Pr) (w : World) (hx : ArgPr w vx xs) :
    Calls Try.prog 4 #[.int .i64 n, vx] w fun e w' => e = .returned (.bool true) ∧ Below w.heap.size w w' := by
  have HF := hid (few_any vx xs w hx)
  have hl41 : (xs.take 41).length ≤ 41 := by rw [List.length_take]; omega
  generalize xs.take 41 = l at *
  clear hx
  go_enter Try.func4, Try.ntmps4
  go_upto_region 2 with (first | (go_at_call 16; refine HF.out.mono ?_; rintro e w2 ⟨v2, rfl, hp2, hb2⟩; obtain ⟨na, nn, nc, rfl⟩ := ownP_sh hp2; have HB2 := hid hb2; have HP2 : Hid (∀ w', Below w2.heap.size w2 w' → IsPr w' (.slice na nn nc) l) := (fun w' hb => isPr_below (ownP_isPr hp2 (by omega)) hb); clear hp2 hb2) | fail)
  clear HF hl41
  by_cases h8 : 8 < n
  · have e1 : decide (8 < n) = true := decide_eq_true h8
    by_cases h12 : n ≤ 12
    · have e2 : decide (n ≤ 12) = true := decide_eq_true h12
      go_upto_region 4 with fail
      clear e1 e2 h8 h12
      have VA : Hid (∀ w', Below w2.heap.size w2 w' → Calls Try.prog 19 #[.int .i64 8, .slice na nn nc] w' fun e w'' => e = .returned (.bool (validP 8 l)) ∧ w'' = w') := fun w' hb => valid_any 8 _ l w' (HP2.out w' hb)
      cases hva : validP 8 l with
      | false =>
        have C1 := hid (ret_bad (pOdd_any 8 _ l w2 (HP2.out w2 (Below.refl _ _))) hva)
        rw [hva] at VA
        clear hva HP2
        go_wp2_with (first
          | (go_at_call 25; refine C1.out.mono ?_; rintro e w3 ⟨rfl, hb3⟩; have HB3 := hid hb3; clear hb3)
          | (go_at_call 19; refine (VA.out _ HB3.out).mono ?_; rintro e w4 ⟨rfl, rfl⟩)
          | (go_at_call 20; refine (lives_any _).mono ?_; rintro e w5 ⟨rfl, hb5⟩; have HB5 := hid (below_step HB3.out hb5); clear hb5)
          | fail)
        go_ret
        exact ⟨rfl, below_step HB2.out HB5.out⟩
      | true =>
        obtain ⟨hn1, hn12⟩ := valid_n hva
        have hm8 : (dsp 8 l).n ≤ 8 := by show 8 ≤ 8; exact Nat.le_refl _
        have CO : Hid (∀ w', Below w2.heap.size w2 w' → Calls Try.prog 21 #[.int .i64 8, .slice na nn nc] w' fun e w'' => ∃ b1 b2, e = .returned (Dv b1 b2 (dsp 8 l)) ∧ RDd w'' b1 b2 (dsp 8 l) ∧ Below w'.heap.size w' w'') := fun w' hb => rOf_any 8 _ l w' (HP2.out w' hb) hva
        have ON : Hid ((dsp 8 l).odd = none → Calls Try.prog 25 #[.int .i64 8, .slice na nn nc] w2 fun e w'' => e = .returned (.tuple #[.slice none 0 0, .int .i64 5]) ∧ Below w2.heap.size w2 w'') := fun ho => odd_none_ok (n := 8) (HP2.out w2 (Below.refl _ _)) hva ho
        have OS : Hid (∀ x, (dsp 8 l).odd = some x → Calls Try.prog 25 #[.int .i64 8, .slice na nn nc] w2 fun e w'' => ∃ a k c, e = .returned (.tuple #[.slice a k c, .int .i64 0]) ∧ IsV w'' (.slice a k c) (x.map iv) ∧ k = x.length ∧ Below w2.heap.size w2 w'') := fun x ho => odd_some_ok (n := 8) (HP2.out w2 (Below.refl _ _)) hva ho
        rw [hva] at VA
        clear hva HP2 hn1 hn12
        generalize dsp 8 l = d at *
        cases ho : d.odd with
        | none =>
          have C1 := hid (ON.out ho)
          clear ON OS
          go_upto_region 10 with (first
            | (go_at_call 25; refine C1.out.mono ?_; rintro e w3 ⟨rfl, hb3⟩; have HB3 := hid hb3; clear hb3)
            | (go_at_call 19; refine (VA.out _ HB3.out).mono ?_; rintro e w4 ⟨rfl, rfl⟩)
            | (go_at_call 21; refine (CO.out _ HB3.out).mono ?_; rintro e w5 ⟨b1, b2, rfl, hr5, hb5⟩; have HR5 := hid hr5; have HB5 := hid (below_step HB3.out hb5); clear hr5 hb5)
            | (go_at_call 26; refine (rOdd_any b1 b2 d _ HR5.out hm8).mono ?_; rintro e w6 ⟨v6, rfl, hv6, hb6⟩; rw [ho] at hv6; obtain rfl : v6 = .slice none 0 0 := hv6; have HB6 := hid (below_step HB5.out hb6); clear hb6)
            | fail)
          clear ho
          go_wp2_with (first
            | (go_at_call 20; refine (lives_any _).mono ?_; rintro e w7 ⟨rfl, hb7⟩; have HB7 := hid (below_step HB6.out hb7); clear hb7)
            | fail)
          go_ret
          exact ⟨rfl, below_step HB2.out HB7.out⟩
        | some x =>
          have C1 := hid (OS.out x ho)
          clear ON OS
          go_upto_region 10 with (first
            | (go_at_call 25; refine C1.out.mono ?_; rintro e w3 ⟨oa, ok, oc, rfl, hi3, -, hb3⟩; have HI3 := hid hi3; have HB3 := hid hb3; clear hi3 hb3)
            | (go_at_call 19; refine (VA.out _ HB3.out).mono ?_; rintro e w4 ⟨rfl, rfl⟩)
            | (go_at_call 21; refine (CO.out _ HB3.out).mono ?_; rintro e w5 ⟨b1, b2, rfl, hr5, hb5⟩; have HR5 := hid hr5; have HI5 := hid (isV_below HI3.out hb5); have HB5 := hid (below_step HB3.out hb5); clear hr5 hb5)
            | (go_at_call 26; refine (rOdd_any b1 b2 d _ HR5.out hm8).mono ?_; rintro e w6 ⟨v6, rfl, hv6, hb6⟩; rw [ho] at hv6; obtain ⟨hx1, hx8, g6, c6, rfl, hxv⟩ := hv6; have HX6 := hid hxv; have HI6 := hid (isV_below HI5.out hb6); have HB6 := hid (below_step HB5.out hb6); clear hb6 hxv)
            | fail)
          have L1 := hid (same01_any _ _ _ _ w6 HI6.out HX6.out)
          rw [beq_self_eq_true] at L1
          clear ho HX6 HI6 HI5 HI3
          generalize x.length = xl at *
          go_wp2_with (first
            | (go_at_call 23; refine L1.out.mono ?_; rintro e w7 ⟨rfl, hb7⟩; have HB7 := hid (below_step HB6.out hb7); clear hb7)
            | (go_at_call 20; refine (lives_any _).mono ?_; rintro e w8 ⟨rfl, hb8⟩; have HB8 := hid (below_step HB7.out hb8); clear hb8)
            | fail)
          go_ret
          exact ⟨rfl, below_step HB2.out HB8.out⟩
    · have e2 : decide (n ≤ 12) = false := decide_eq_false h12
      go_upto_region 4 with fail
      clear e1 e2
      have VA : Hid (∀ w', Below w2.heap.size w2 w' → Calls Try.prog 19 #[.int .i64 n, .slice na nn nc] w' fun e w'' => e = .returned (.bool (validP n l)) ∧ w'' = w') := fun w' hb => valid_any n _ l w' (HP2.out w' hb)
      cases hva : validP n l with
      | false =>
        have C1 := hid (ret_bad (pOdd_any n _ l w2 (HP2.out w2 (Below.refl _ _))) hva)
        rw [hva] at VA
        clear hva HP2
        go_wp2_with (first
          | (go_at_call 25; refine C1.out.mono ?_; rintro e w3 ⟨rfl, hb3⟩; have HB3 := hid hb3; clear hb3)
          | (go_at_call 19; refine (VA.out _ HB3.out).mono ?_; rintro e w4 ⟨rfl, rfl⟩)
          | (go_at_call 20; refine (lives_any _).mono ?_; rintro e w5 ⟨rfl, hb5⟩; have HB5 := hid (below_step HB3.out hb5); clear hb5)
          | fail)
        go_ret
        exact ⟨rfl, below_step HB2.out HB5.out⟩
      | true =>
        obtain ⟨hn1, hn12⟩ := valid_n hva
        obtain ⟨m, rfl⟩ : ∃ m : Nat, n = (m : Int) := ⟨n.toNat, by omega⟩
        have hm8 : (dsp m l).n ≤ 8 := by show m ≤ 8; omega
        have CO : Hid (∀ w', Below w2.heap.size w2 w' → Calls Try.prog 21 #[.int .i64 (m : Int), .slice na nn nc] w' fun e w'' => ∃ b1 b2, e = .returned (Dv b1 b2 (dsp m l)) ∧ RDd w'' b1 b2 (dsp m l) ∧ Below w'.heap.size w' w'') := fun w' hb => rOf_any m _ l w' (HP2.out w' hb) hva
        have ON : Hid ((dsp m l).odd = none → Calls Try.prog 25 #[.int .i64 (m : Int), .slice na nn nc] w2 fun e w'' => e = .returned (.tuple #[.slice none 0 0, .int .i64 5]) ∧ Below w2.heap.size w2 w'') := fun ho => odd_none_ok (n := (m : Int)) (HP2.out w2 (Below.refl _ _)) hva ho
        have OS : Hid (∀ x, (dsp m l).odd = some x → Calls Try.prog 25 #[.int .i64 (m : Int), .slice na nn nc] w2 fun e w'' => ∃ a k c, e = .returned (.tuple #[.slice a k c, .int .i64 0]) ∧ IsV w'' (.slice a k c) (x.map iv) ∧ k = x.length ∧ Below w2.heap.size w2 w'') := fun x ho => odd_some_ok (n := (m : Int)) (HP2.out w2 (Below.refl _ _)) hva ho
        rw [hva] at VA
        clear hva HP2 hn1 hn12
        generalize dsp m l = d at *
        cases ho : d.odd with
        | none =>
          have C1 := hid (ON.out ho)
          clear ON OS
          go_upto_region 10 with (first
            | (go_at_call 25; refine C1.out.mono ?_; rintro e w3 ⟨rfl, hb3⟩; have HB3 := hid hb3; clear hb3)
            | (go_at_call 19; refine (VA.out _ HB3.out).mono ?_; rintro e w4 ⟨rfl, rfl⟩)
            | (go_at_call 21; refine (CO.out _ HB3.out).mono ?_; rintro e w5 ⟨b1, b2, rfl, hr5, hb5⟩; have HR5 := hid hr5; have HB5 := hid (below_step HB3.out hb5); clear hr5 hb5)
            | (go_at_call 26; refine (rOdd_any b1 b2 d _ HR5.out hm8).mono ?_; rintro e w6 ⟨v6, rfl, hv6, hb6⟩; rw [ho] at hv6; obtain rfl : v6 = .slice none 0 0 := hv6; have HB6 := hid (below_step HB5.out hb6); clear hb6)
            | fail)
          clear ho
          go_wp2_with (first
            | (go_at_call 20; refine (lives_any _).mono ?_; rintro e w7 ⟨rfl, hb7⟩; have HB7 := hid (below_step HB6.out hb7); clear hb7)
            | fail)
          go_ret
          exact ⟨rfl, below_step HB2.out HB7.out⟩
        | some x =>
          have C1 := hid (OS.out x ho)
          clear ON OS
          go_upto_region 10 with (first
            | (go_at_call 25; refine C1.out.mono ?_; rintro e w3 ⟨oa, ok, oc, rfl, hi3, -, hb3⟩; have HI3 := hid hi3; have HB3 := hid hb3; clear hi3 hb3)
            | (go_at_call 19; refine (VA.out _ HB3.out).mono ?_; rintro e w4 ⟨rfl, rfl⟩)
            | (go_at_call 21; refine (CO.out _ HB3.out).mono ?_; rintro e w5 ⟨b1, b2, rfl, hr5, hb5⟩; have HR5 := hid hr5; have HI5 := hid (isV_below HI3.out hb5); have HB5 := hid (below_step HB3.out hb5); clear hr5 hb5)
            | (go_at_call 26; refine (rOdd_any b1 b2 d _ HR5.out hm8).mono ?_; rintro e w6 ⟨v6, rfl, hv6, hb6⟩; rw [ho] at hv6; obtain ⟨hx1, hx8, g6, c6, rfl, hxv⟩ := hv6; have HX6 := hid hxv; have HI6 := hid (isV_below HI5.out hb6); have HB6 := hid (below_step HB5.out hb6); clear hb6 hxv)
            | fail)
          have L1 := hid (same01_any _ _ _ _ w6 HI6.out HX6.out)
          rw [beq_self_eq_true] at L1
          clear ho HX6 HI6 HI5 HI3
          generalize x.length = xl at *
          go_wp2_with (first
            | (go_at_call 23; refine L1.out.mono ?_; rintro e w7 ⟨rfl, hb7⟩; have HB7 := hid (below_step HB6.out hb7); clear hb7)
            | (go_at_call 20; refine (lives_any _).mono ?_; rintro e w8 ⟨rfl, hb8⟩; have HB8 := hid (below_step HB7.out hb8); clear hb8)
            | fail)
          go_ret
          exact ⟨rfl, below_step HB2.out HB8.out⟩
  · have e1 : decide (8 < n) = false := decide_eq_false h8
    go_upto_region 4 with fail
    clear e1
    have VA : Hid (∀ w', Below w2.heap.size w2 w' → Calls Try.prog 19 #[.int .i64 n, .slice na nn nc] w' fun e w'' => e = .returned (.bool (validP n l)) ∧ w'' = w') := fun w' hb => valid_any n _ l w' (HP2.out w' hb)
    cases hva : validP n l with
    | false =>
      have C1 := hid (ret_bad (pOdd_any n _ l w2 (HP2.out w2 (Below.refl _ _))) hva)
      rw [hva] at VA
      clear hva HP2
      go_wp2_with (first
        | (go_at_call 25; refine C1.out.mono ?_; rintro e w3 ⟨rfl, hb3⟩; have HB3 := hid hb3; clear hb3)
        | (go_at_call 19; refine (VA.out _ HB3.out).mono ?_; rintro e w4 ⟨rfl, rfl⟩)
        | (go_at_call 20; refine (lives_any _).mono ?_; rintro e w5 ⟨rfl, hb5⟩; have HB5 := hid (below_step HB3.out hb5); clear hb5)
        | fail)
      go_ret
      exact ⟨rfl, below_step HB2.out HB5.out⟩
    | true =>
      obtain ⟨hn1, hn12⟩ := valid_n hva
      obtain ⟨m, rfl⟩ : ∃ m : Nat, n = (m : Int) := ⟨n.toNat, by omega⟩
      have hm8 : (dsp m l).n ≤ 8 := by show m ≤ 8; omega
      have CO : Hid (∀ w', Below w2.heap.size w2 w' → Calls Try.prog 21 #[.int .i64 (m : Int), .slice na nn nc] w' fun e w'' => ∃ b1 b2, e = .returned (Dv b1 b2 (dsp m l)) ∧ RDd w'' b1 b2 (dsp m l) ∧ Below w'.heap.size w' w'') := fun w' hb => rOf_any m _ l w' (HP2.out w' hb) hva
      have ON : Hid ((dsp m l).odd = none → Calls Try.prog 25 #[.int .i64 (m : Int), .slice na nn nc] w2 fun e w'' => e = .returned (.tuple #[.slice none 0 0, .int .i64 5]) ∧ Below w2.heap.size w2 w'') := fun ho => odd_none_ok (n := (m : Int)) (HP2.out w2 (Below.refl _ _)) hva ho
      have OS : Hid (∀ x, (dsp m l).odd = some x → Calls Try.prog 25 #[.int .i64 (m : Int), .slice na nn nc] w2 fun e w'' => ∃ a k c, e = .returned (.tuple #[.slice a k c, .int .i64 0]) ∧ IsV w'' (.slice a k c) (x.map iv) ∧ k = x.length ∧ Below w2.heap.size w2 w'') := fun x ho => odd_some_ok (n := (m : Int)) (HP2.out w2 (Below.refl _ _)) hva ho
      rw [hva] at VA
      clear hva HP2 hn1 hn12
      generalize dsp m l = d at *
      cases ho : d.odd with
      | none =>
        have C1 := hid (ON.out ho)
        clear ON OS
        go_upto_region 10 with (first
          | (go_at_call 25; refine C1.out.mono ?_; rintro e w3 ⟨rfl, hb3⟩; have HB3 := hid hb3; clear hb3)
          | (go_at_call 19; refine (VA.out _ HB3.out).mono ?_; rintro e w4 ⟨rfl, rfl⟩)
          | (go_at_call 21; refine (CO.out _ HB3.out).mono ?_; rintro e w5 ⟨b1, b2, rfl, hr5, hb5⟩; have HR5 := hid hr5; have HB5 := hid (below_step HB3.out hb5); clear hr5 hb5)
          | (go_at_call 26; refine (rOdd_any b1 b2 d _ HR5.out hm8).mono ?_; rintro e w6 ⟨v6, rfl, hv6, hb6⟩; rw [ho] at hv6; obtain rfl : v6 = .slice none 0 0 := hv6; have HB6 := hid (below_step HB5.out hb6); clear hb6)
          | fail)
        clear ho
        go_wp2_with (first
          | (go_at_call 20; refine (lives_any _).mono ?_; rintro e w7 ⟨rfl, hb7⟩; have HB7 := hid (below_step HB6.out hb7); clear hb7)
          | fail)
        go_ret
        exact ⟨rfl, below_step HB2.out HB7.out⟩
      | some x =>
        have C1 := hid (OS.out x ho)
        clear ON OS
        go_upto_region 10 with (first
          | (go_at_call 25; refine C1.out.mono ?_; rintro e w3 ⟨oa, ok, oc, rfl, hi3, -, hb3⟩; have HI3 := hid hi3; have HB3 := hid hb3; clear hi3 hb3)
          | (go_at_call 19; refine (VA.out _ HB3.out).mono ?_; rintro e w4 ⟨rfl, rfl⟩)
          | (go_at_call 21; refine (CO.out _ HB3.out).mono ?_; rintro e w5 ⟨b1, b2, rfl, hr5, hb5⟩; have HR5 := hid hr5; have HI5 := hid (isV_below HI3.out hb5); have HB5 := hid (below_step HB3.out hb5); clear hr5 hb5)
          | (go_at_call 26; refine (rOdd_any b1 b2 d _ HR5.out hm8).mono ?_; rintro e w6 ⟨v6, rfl, hv6, hb6⟩; rw [ho] at hv6; obtain ⟨hx1, hx8, g6, c6, rfl, hxv⟩ := hv6; have HX6 := hid hxv; have HI6 := hid (isV_below HI5.out hb6); have HB6 := hid (below_step HB5.out hb6); clear hb6 hxv)
          | fail)
        have L1 := hid (same01_any _ _ _ _ w6 HI6.out HX6.out)
        rw [beq_self_eq_true] at L1
        clear ho HX6 HI6 HI5 HI3
        generalize x.length = xl at *
        go_wp2_with (first
          | (go_at_call 23; refine L1.out.mono ?_; rintro e w7 ⟨rfl, hb7⟩; have HB7 := hid (below_step HB6.out hb7); clear hb7)
          | (go_at_call 20; refine (lives_any _).mono ?_; rintro e w8 ⟨rfl, hb8⟩; have HB8 := hid (below_step HB7.out hb8); clear hb8)
          | fail)
        go_ret
        exact ⟨rfl, below_step HB2.out HB8.out⟩
end Go.Proofs.Ytaedbkdimpdngaa
