/-
  The law ClaimCores of chapter 12: its contract.
-/
import Derived.Test.YtaedbkdimpdngaaWalkAM
import Derived.Test.YtaedbkdimpdngaaLawIdeals
namespace Go.Proofs.Ytaedbkdimpdngaa
open Go.RowKit
set_option maxRecDepth 100000 in
set_option maxHeartbeats 4000000 in
theorem ClaimCores_ok (n : Int) (vx : Value) (xs : List Pr) (w : World) (hx : ArgPr w vx xs) :
    Calls Try.prog 10 #[.int .i64 n, vx] w fun e w' => e = .returned (.bool true) ∧ Below w.heap.size w w' := by
  have HF := hid (few_any vx xs w hx)
  have hl41 : (xs.take 41).length ≤ 41 := by rw [List.length_take]; omega
  generalize xs.take 41 = l at *
  clear hx
  go_enter Try.func10, Try.ntmps10
  go_upto_region 2 with (first | (go_at_call 16; refine HF.out.mono ?_; rintro e w2 ⟨v2, rfl, hp2, hb2⟩; obtain ⟨na, nn, nc, rfl⟩ := ownP_sh hp2; have HB2 := hid hb2; have HP2 : Hid (∀ w', Below w2.heap.size w2 w' → IsPr w' (.slice na nn nc) l) := (fun w' hb => isPr_below (ownP_isPr hp2 (by omega)) hb); clear hp2 hb2) | fail)
  clear HF hl41
  have VA : Hid (∀ w', Below w2.heap.size w2 w' → Calls Try.prog 19 #[.int .i64 n, .slice na nn nc] w' fun e w'' => e = .returned (.bool (validP n l)) ∧ w'' = w') := fun w' hb => valid_any n _ l w' (HP2.out w' hb)
  cases hva : validP n l with
  | false =>
    have C1 := hid (ret_bad (pCore_any n _ l w2 (HP2.out w2 (Below.refl _ _))) hva)
    rw [hva] at VA
    clear hva HP2
    go_wp2_with (first
      | (go_at_call 39; refine C1.out.mono ?_; rintro e w3 ⟨rfl, hb3⟩; have HB3 := hid hb3; clear hb3)
      | (go_at_call 19; refine (VA.out _ HB3.out).mono ?_; rintro e w4 ⟨rfl, rfl⟩)
      | (go_at_call 20; refine (lives_any _).mono ?_; rintro e w5 ⟨rfl, hb5⟩; have HB5 := hid (below_step HB3.out hb5); clear hb5)
      | fail)
    go_ret
    exact ⟨rfl, below_step HB2.out HB5.out⟩
  | true =>
    obtain ⟨hn1, hn12⟩ := valid_n hva
    obtain ⟨m, rfl⟩ : ∃ m : Nat, n = (m : Int) := ⟨n.toNat, by omega⟩
    have C1 : Hid (Calls Try.prog 39 #[.int .i64 (m : Int), .slice na nn nc] w2 fun e w' => ∃ x, e = .returned (.tuple #[x, .int .i64 0]) ∧ OwnP w' w2.heap.size 45 x (coreL (dsp m l)) ∧ Below w2.heap.size w2 w') := (ret_ok (pCore_any _ _ l w2 (HP2.out w2 (Below.refl _ _))) hva).mono fun e w' h => by
      obtain ⟨u, rfl, ⟨x, rfl, ho⟩, hb⟩ := h
      exact ⟨x, rfl, ho, hb⟩
    have CO : Hid (∀ w', Below w2.heap.size w2 w' → Calls Try.prog 21 #[.int .i64 (m : Int), .slice na nn nc] w' fun e w'' => ∃ b1 b2, e = .returned (Dv b1 b2 (dsp m l)) ∧ RDd w'' b1 b2 (dsp m l) ∧ Below w'.heap.size w' w'') := fun w' hb => rOf_any m _ l w' (HP2.out w' hb) hva
    have hkl : (coreL (dsp m l)).length ≤ 200 := by
      have h := coreK_len (dsp m l) m
      have h2 : m * (dsp m l).n ≤ 12 * 12 := Nat.mul_le_mul (by omega) (by show m ≤ 12; omega)
      show (coreK (dsp m l) (dsp m l).n).length ≤ 200
      change (coreK (dsp m l) m).length ≤ _ at h
      show (coreK (dsp m l) m).length ≤ 200
      omega
    rw [hva] at VA
    clear hva HP2 hn1 hn12
    generalize dsp m l = d at *
    go_upto_region 6 with (first
      | (go_at_call 39; refine C1.out.mono ?_; rintro e w3 ⟨x3, rfl, ho3, hb3⟩; have HX3 := hid (ownP_isPr ho3 (by omega)); have HB3 := hid hb3; clear ho3 hb3)
      | (go_at_call 19; refine (VA.out _ HB3.out).mono ?_; rintro e w4 ⟨rfl, rfl⟩)
      | (go_at_call 21; refine (CO.out _ HB3.out).mono ?_; rintro e w5 ⟨b1, b2, rfl, hr5, hb5⟩; have HR5 := hid hr5; have HX5 := hid (isPr_below HX3.out hb5); have HB5 := hid (below_step HB3.out hb5); clear hr5 hb5)
      | (go_at_call 40; refine (rCore_any b1 b2 d _ HR5.out).mono ?_; rintro e w6 ⟨v6, rfl, ho6, hb6⟩; have HY6 := hid (ownP_isPr ho6 (by omega)); have HX6 := hid (isPr_below HX5.out hb6); have HB6 := hid (below_step HB5.out hb6); clear ho6 hb6)
      | fail)
    clear C1 CO VA HX3 HX5 HR5
    generalize coreL d = K at *
    obtain ⟨xa, xc, rfl⟩ := isPr_slice HX6.out
    obtain ⟨ya, yc, rfl⟩ := isPr_slice HY6.out
    have HX : Hid (∀ w', Below w6.heap.size w6 w' → IsPr w' (.slice xa K.length xc) K) := fun w' hb => isPr_below HX6.out hb
    have HY : Hid (∀ w', Below w6.heap.size w6 w' → IsPr w' (.slice ya K.length yc) K) := fun w' hb => isPr_below HY6.out hb
    clear HX6 HY6
    obtain ⟨kl, hkle⟩ : ∃ kl, kl = K.length := ⟨_, rfl⟩
    have HKL := hid hkle
    rw [← hkle] at hkl HX HY ⊢
    clear hkle
    go_upto_region 9 with (first | (go_at_call 20; refine (lives_any _).mono ?_; rintro e w7 ⟨rfl, hb7⟩; have HB7 := hid hb7; clear hb7) | fail)
    go_loopw [9] (fun iv wr => ∃ i : Nat, iv = .int .i64 i ∧ i ≤ kl ∧ Hid (Below w6.heap.size w6 wr)) (fun iv _ => kl - (intOf iv).toNat)
    case atStart => exact ⟨0, rfl, Nat.zero_le _, HB7⟩
    case round =>
      obtain ⟨i, rfl, hi, HBr⟩ := hrel
      rename World => wr
      by_cases hlt : i < kl
      · have hil : i < K.length := by rw [← HKL.out]; exact hlt
        obtain ⟨xg, rfl, -, -, -⟩ := isPr_at (HX.out wr HBr.out) i hil
        obtain ⟨yg, rfl, -, -, -⟩ := isPr_at (HY.out wr HBr.out) i hil
        have KX : Hid (∀ w', Below w6.heap.size w6 w' → w'.cell? ⟨xg, i * 2, none⟩ = some (.int .i64 (prAt K i).1) ∧ w'.cell? ⟨xg, i * 2 + 1, none⟩ = some (.int .i64 (prAt K i).2)) := fun w' hb => by
          obtain ⟨g', e, _, d0, d1⟩ := isPr_at (HX.out w' hb) i hil
          cases e
          exact ⟨d0, d1⟩
        have KY : Hid (∀ w', Below w6.heap.size w6 w' → w'.cell? ⟨yg, i * 2, none⟩ = some (.int .i64 (prAt K i).1) ∧ w'.cell? ⟨yg, i * 2 + 1, none⟩ = some (.int .i64 (prAt K i).2)) := fun w' hb => by
          obtain ⟨g', e, _, d0, d1⟩ := isPr_at (HY.out w' hb) i hil
          cases e
          exact ⟨d0, d1⟩
        generalize (prAt K i).1 = px at *
        generalize (prAt K i).2 = py at *
        obtain ⟨c0, c1⟩ := KX.out wr HBr.out
        obtain ⟨c2, c3⟩ := KY.out wr HBr.out
        go_upto_region 11 with fail
        go_quiet (fail)
        have HBq := hid (below_drewN_r HBr.out nq)
        clear c0 c1 c2 c3
        obtain ⟨c0, c1⟩ := KX.out _ HBq.out
        obtain ⟨c2, c3⟩ := KY.out _ HBq.out
        generalize wr.drewN nq = wq at *
        go_wp2_with fail
        go_roundw
        case rel => exact ⟨i + 1, by go_num, by omega, HBq⟩
        case measure => simp [intOf]; omega
      · have HFF := hid (below_step HB2.out (below_step HB6.out HBr.out))
        go_wp2_with fail
        go_ret
        exact ⟨rfl, HFF.out⟩
end Go.Proofs.Ytaedbkdimpdngaa
