/-
  The law ClaimIdeals of chapter 12: its contract.
-/
import Derived.Test.YtaedbkdimpdngaaRefA
import Derived.Test.YtaedbkdimpdngaaLawIdeal
import Derived.Test.YtaedbkdimpdngaaLawRings
namespace Go.Proofs.Ytaedbkdimpdngaa
open Go.RowKit
theorem ret_bad {w : World} {k : Nat} {args : Array Value} {n : Int} {l : List Pr} {bad : Value} {good : Value → World → Prop} (h : Calls Try.prog k args w (Ret w n l bad good)) (hva : validP n l = false) :
    Calls Try.prog k args w fun e w' => e = .returned bad ∧ Below w.heap.size w w' :=
  h.mono fun e w' hp => by
    obtain ⟨hb, ⟨_, he⟩ | ⟨h2, _⟩⟩ := hp
    · exact ⟨he, hb⟩
    · rw [hva] at h2; cases h2
set_option maxRecDepth 100000 in
set_option maxHeartbeats 4000000 in
theorem ClaimIdeals_ok (n : Int) (vx : Value) (xs : List Pr) (w : World) (hx : ArgPr w vx xs) :
    Calls Try.prog 7 #[.int .i64 n, vx] w fun e w' => e = .returned (.bool true) ∧ Below w.heap.size w w' := by
  have HF := hid (few_any vx xs w hx)
  have hl41 : (xs.take 41).length ≤ 41 := by rw [List.length_take]; omega
  generalize xs.take 41 = l at *
  clear hx
  go_enter Try.func7, Try.ntmps7
  go_upto_region 2 with (first | (go_at_call 16; refine HF.out.mono ?_; rintro e w2 ⟨v2, rfl, hp2, hb2⟩; obtain ⟨na, nn, nc, rfl⟩ := ownP_sh hp2; have HB2 := hid hb2; have HP2 : Hid (∀ w', Below w2.heap.size w2 w' → IsPr w' (.slice na nn nc) l) := (fun w' hb => isPr_below (ownP_isPr hp2 (by omega)) hb); clear hp2 hb2) | fail)
  clear HF hl41
  have VA : Hid (∀ w', Below w2.heap.size w2 w' → Calls Try.prog 19 #[.int .i64 n, .slice na nn nc] w' fun e w'' => e = .returned (.bool (validP n l)) ∧ w'' = w') := fun w' hb => valid_any n _ l w' (HP2.out w' hb)
  cases hva : validP n l with
  | false =>
    have C1 := hid (ret_bad (pIdeal_any n _ l w2 (HP2.out w2 (Below.refl _ _))) hva)
    rw [hva] at VA
    clear hva HP2
    go_wp2_with (first
      | (go_at_call 33; refine C1.out.mono ?_; rintro e w3 ⟨rfl, hb3⟩; have HB3 := hid hb3; clear hb3)
      | (go_at_call 19; refine (VA.out _ HB3.out).mono ?_; rintro e w4 ⟨rfl, rfl⟩)
      | (go_at_call 20; refine (lives_any _).mono ?_; rintro e w5 ⟨rfl, hb5⟩; have HB5 := hid (below_step HB3.out hb5); clear hb5)
      | fail)
    go_ret
    exact ⟨rfl, below_step HB2.out HB5.out⟩
  | true =>
    obtain ⟨hn1, hn12⟩ := valid_n hva
    obtain ⟨m, rfl⟩ : ∃ m : Nat, n = (m : Int) := ⟨n.toNat, by omega⟩
    have C1 := hid (ideal_ok (HP2.out w2 (Below.refl _ _)) hva)
    have C2 : Hid (∀ w', Below w2.heap.size w2 w' → Calls Try.prog 21 #[.int .i64 (m : Int), .slice na nn nc] w' fun e w'' => ∃ b1 b2, e = .returned (Dv b1 b2 (dsp m l)) ∧ RDd w'' b1 b2 (dsp m l) ∧ Below w'.heap.size w' w'') := fun w' hb => rOf_any m _ l w' (HP2.out w' hb) hva
    have hid16 : (dsp m l).ideal < 2 ^ 16 := Nat.lt_of_lt_of_le ((dsp m l).adm_lt (dsp m l).ideal_adm) (pow_small (show m ≤ 16 by omega))
    have HI16 := hid hid16
    rw [hva] at VA
    change Hid (Calls Try.prog 33 _ w2 fun e w' => ∃ a k c, e = .returned (.tuple #[.slice a k c, .int .i64 0]) ∧ IsV w' (.slice a k c) ((elems (dsp m l).ideal).map iv) ∧ _) at C1
    clear hva HP2 hn1 hn12 hid16
    generalize dsp m l = d at *
    go_upto_region 5 with (first
      | (go_at_call 33; refine C1.out.mono ?_; rintro e w3 ⟨ia, ik, ic, rfl, hi3, hb3⟩; have HI3 := hid hi3; have HB3 := hid hb3; clear hi3 hb3)
      | (go_at_call 19; refine (VA.out _ HB3.out).mono ?_; rintro e w4 ⟨rfl, rfl⟩)
      | fail)
    go_wp2_with (first
      | (go_at_call 21; refine (C2.out _ HB3.out).mono ?_; rintro e w5 ⟨b1, b2, rfl, hr5, hb5⟩; have HR5 := hid hr5; have HI5 := hid (isV_below HI3.out hb5); have HB5 := hid (below_step HB3.out hb5); clear hr5 hb5)
      | (go_at_call 34; refine (rIdeal_any b1 b2 d _ HR5.out).mono ?_; rintro e w6 ⟨rfl, hb6⟩; have HI6 := hid (isV_below HI5.out hb6); have HB6 := hid (below_step HB5.out hb6); clear hb6)
      | (go_at_call 24; refine (rList_any d.ideal _ HI16.out).mono ?_; rintro e w7 ⟨v7, rfl, ho7, hb7⟩; have HL7 := hid (ownV_isV ho7 (by rw [List.length_map]; exact elems_le _)); have HI7 := hid (isV_below HI6.out hb7); have HB7 := hid (below_step HB6.out hb7); clear ho7 hb7)
      | (go_at_call 23; refine (same01_any _ _ _ _ _ HI7.out HL7.out).mono ?_; rintro e w8 ⟨rfl, hb8⟩; rw [beq_self_eq_true]; have HB8 := hid (below_step HB7.out hb8); clear hb8)
      | (go_at_call 20; refine (lives_any _).mono ?_; rintro e w9 ⟨rfl, hb9⟩; have HB9 := hid (below_step HB8.out hb9); clear hb9)
      | fail)
    go_ret
    exact ⟨rfl, below_step HB2.out HB9.out⟩
end Go.Proofs.Ytaedbkdimpdngaa
