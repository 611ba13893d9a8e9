/-
  The statement RhythmReversed: the law answers true for all bytes.
-/
import Derived.Test.YtpoekblolicehaaDoorLawSquares
import Derived.Test.YtpoekblolicehaaDoorLawBalances
import Derived.Test.YtpoekblolicehaaDoorLawPeriods
import Derived.Test.YtpoekblolicehaaDoorLawRuns
import Derived.Test.YtpoekblolicehaaDoorPlainP
namespace Go.Proofs.YtpoekblolicehaaDoor
open Go.RowKit

theorem one_letter (s : ByteArray) (i : Nat) (h : i < s.size) : (s.extract i (i + 1)).data.toList = [s[i]] := by
  rw [Lib.extract_data, show i + 1 - i = 1 by omega]
  rw [List.drop_eq_getElem_cons (by rw [data_size]; exact h)]
  rfl
theorem rev_succ (s : ByteArray) (k : Nat) (h : k < s.size) : (s.data.toList.drop (s.size - 1 - k)).reverse = (s.data.toList.drop (s.size - k)).reverse ++ [s[s.size - 1 - k]] := by
  rw [List.drop_eq_getElem_cons (show s.size - 1 - k < s.data.toList.length by rw [data_size]; omega), List.reverse_cons, show s.size - 1 - k + 1 = s.size - k by omega]
  rfl
theorem chk_rev (l : Str) (h : chk l = 0) : chk l.reverse = 0 := by
  obtain ⟨h1, h2, h3⟩ := chk_ok h
  rw [chk_good (by rw [List.length_reverse]; omega) (by rw [List.all_reverse]; exact h3), if_neg]
  simpa using h2

set_option maxHeartbeats 1000000 in
set_option maxRecDepth 100000 in
theorem RhythmReversed_ok (a : Option Addr) (len cap : Nat) (zs : List Int) (w : World) (hr : IsRow .u8 w a len cap zs) :
    Calls Tryd.prog 20 #[.slice a len cap] w fun e w' => e = .returned (.bool true) ∧ Below w.heap.size w w' := by
  have cM := hid (made_any a len cap zs 120 w hr (by decide) (by decide))
  have cL := hid lives_any
  clear hr
  go_enter Tryd.func20, Tryd.ntmps20
  go_wp2_with fail
  refine cM.out.mono ?_
  rintro e w1 ⟨s, rfl, hs, hsz, n1, rfl⟩
  have h1 : 1 ≤ s.size := chk_pos hs
  have Hs := hid hs
  clear hs
  go_wp2_with fail
  go_loopg [4, 5] s.size (fun g t i wr => ∃ (k : Nat) (t' : ByteArray), k ≤ s.size ∧ g = s.size - k ∧ i = .int .i64 ((s.size : Int) - 1 - k) ∧ t = .string t' ∧ Hid (t'.data.toList = (s.data.toList.drop (s.size - k)).reverse) ∧ wr = w.drewN n1)
  case atStart => exact ⟨0, ⟨#[]⟩, by omega, by omega, by simp, rfl, by rw [Nat.sub_zero, List.drop_of_length_le (by rw [data_size]; exact Nat.le_refl _)]; exact hid rfl, rfl⟩
  case round =>
    obtain ⟨k, t, hk, hgk, rfl, rfl, HT, rfl⟩ := hrel
    have HGK := hid hgk; clear hgk
    have hts : t.size = k := by
      have := congrArg List.length HT.out
      rw [List.length_reverse, List.length_drop, data_size, data_size] at this
      omega
    by_cases hkl : k < s.size
    · obtain ⟨y, hy⟩ : ∃ y, y = s.size - 1 - k := ⟨_, rfl⟩
      have hrv := rev_succ s k hkl
      have hys : y < s.size := by omega
      have hol := one_letter s y hys
      have v1 : (s.size : Int) - 1 - (k : Int) = (y : Int) := by omega
      have v2 : (0 : Int) ≤ (y : Int) := by omega
      have v3 : (y : Int) + 1 ≤ s.size := by omega
      have v4 : IntKind.i64.wrap ((y : Int) - 1) = (y : Int) - 1 := IntWalk.i64_in _ (by omega)
      have v5 : ((y : Int) + 1).toNat = y + 1 := by omega
      have hsz2 : (s.extract y (y + 1)).size = 1 := by rw [extract_size _ _ _ (by omega)]; omega
      have hsz3 : t.size + (s.extract y (y + 1)).size ≤ 1000 := by omega
      have HV := hid hrv
      have HOL := hid hol
      have HY := hid hy
      have v6 := hid v1
      have HS2 := hid hsz2
      have HTS := hid hts
      clear hrv hol hy hsz2 hts
      rw [v1]
      clear v1
      go_wp2_with fail
      go_roundg (s.size - (k + 1))
      case measure => have := HGK.out; omega
      case rel =>
        refine ⟨k + 1, t ++ s.extract y (y + 1), by omega, rfl, congrArg (Value.int .i64) (by have := v6.out; omega), rfl, ?_, rfl⟩
        rw [ByteArray.data_append, Array.toList_append, HT.out, HOL.out, show s.size - (k + 1) = s.size - 1 - k by omega, HV.out]
        refine hid ?_
        congr 2
        simp only [HY.out]
    · obtain rfl : k = s.size := by omega
      have hl : t.data.toList = s.data.toList.reverse := by rw [HT.out, Nat.sub_self, List.drop_zero]
      have htc : chk t.data.toList = 0 := by rw [hl]; exact chk_rev _ Hs.out
      have cP := hid (fun w => periods_fin s w (by omega))
      have cP' := hid (fun w => periods_fin t w (by omega))
      have cQ := hid (fun w => squares_any s w (by omega))
      have cQ' := hid (fun w => squares_any t w (by omega))
      have cD := hid (fun w => parts_any s w (by omega))
      have cD' := hid (fun w => parts_any t w (by omega))
      have cR := hid (fun w => runs_fin s w (by omega))
      have cR' := hid (fun w => runs_fin t w (by omega))
      have cB := hid (fun w => balanced_any s w (by omega))
      have cB' := hid (fun w => balanced_any t w (by omega))
      rw [htc, hl] at cP' cQ' cD' cR' cB'
      rw [Hs.out] at cP cQ cD cR cB
      simp only [if_true] at cP cP' cQ cQ' cD cD' cR cR' cB cB'
      rw [periods_rev] at cP'
      rw [squares_rev] at cQ'
      rw [partsL_rev] at cD'
      rw [balanced_rev] at cB'
      have hrl := runs_rev s.data.toList
      clear hl htc HT hts
      generalize periods s.data.toList = P at *
      generalize squares s.data.toList = Q at *
      generalize partsL s.data.toList = D at *
      generalize balanced s.data.toList = B at *
      generalize runs s.data.toList.reverse = R' at *
      generalize runs s.data.toList = R at *
      have HRL := hid hrl
      clear hrl
      have v1 : decide ((s.size : Int) - 1 - (s.size : Int) ≥ 0) = false := decide_eq_false (by omega)
      have v2 : ¬ (0 : Int) ≤ (s.size : Int) - 1 - (s.size : Int) := by omega
      go_wp2_with fail
      refine (cP.out _).mono ?_
      rintro e w2 ⟨p, rfl, hp, hb⟩
      have Hp := hid hp
      have Hb := hid (below_of_drewN hb)
      clear hp hb
      go_wp2_with fail
      refine (cP'.out _).mono ?_
      rintro e w3 ⟨p', rfl, hp', hb3⟩
      have Hp' := hid hp'
      have Hp3 := hid (isInts_below Hp.out hb3)
      have Hb3 := hid (Hb.out.trans (hb3.mono Hb.out.size))
      clear hp' hb3 Hp Hb
      go_wp2_with fail
      refine (cQ.out _).mono ?_
      rintro e w4 ⟨rfl, hb4⟩
      have Hb4 := hid hb4
      clear hb4
      go_wp2_with fail
      refine (cQ'.out _).mono ?_
      rintro e w5 ⟨rfl, hb5⟩
      have Hb5 := hid (Hb4.out.trans (hb5.mono Hb4.out.size))
      clear hb5 Hb4
      go_wp2_with fail
      refine (cD.out _).mono ?_
      rintro e w6 ⟨d, rfl, hd, hb6⟩
      have Hd := hid hd
      have Hb6 := hid (Hb5.out.trans (hb6.mono Hb5.out.size))
      clear hd hb6 Hb5
      go_wp2_with fail
      refine (cD'.out _).mono ?_
      rintro e w7 ⟨d', rfl, hd', hb7⟩
      have Hd' := hid hd'
      have Hd7 := hid (isInts_below Hd.out hb7)
      have Hb7 := hid (Hb6.out.trans (hb7.mono Hb6.out.size))
      clear hd' hb7 Hd Hb6
      go_wp2_with fail
      refine (cR.out _).mono ?_
      rintro e w8 ⟨r, rfl, ⟨ra, rc, rfl, hrm, hrc⟩, hb8⟩
      have Hb8 := hid hb8
      clear hb8 hrc hrm
      go_wp2_with fail
      refine (cR'.out _).mono ?_
      rintro e w9 ⟨r', rfl, ⟨ra', rc', rfl, hrm', hrc'⟩, hb9⟩
      have Hb9 := hid (Hb8.out.trans (hb9.mono Hb8.out.size))
      clear hb9 hrc' hrm' Hb8
      rw [HRL.out]
      go_wp2_with fail
      refine (cB.out _).mono ?_
      rintro e w10 ⟨rfl, hb10⟩
      have Hb10 := hid (Hb9.out.trans (hb10.mono Hb9.out.size))
      clear hb10 Hb9
      go_wp2_with fail
      refine (cB'.out _).mono ?_
      rintro e w11 ⟨rfl, hb11⟩
      have Hb11 := hid (Hb10.out.trans (hb11.mono Hb10.out.size))
      clear hb11 Hb10
      have HX := hid (Hb7.out.trans (Hb11.out.mono Hb7.out.size))
      have HY := hid (Hb3.out.trans (HX.out.mono Hb3.out.size))
      go_wp2_with fail
      refine (same_any _ _ P P _ (isInts_below Hp3.out HX.out) (isInts_below Hp'.out HX.out)).mono ?_
      rintro e w12 ⟨rfl, k12, rfl⟩
      have hP : (P == P) = true := by simp
      have hQ : ((Q : Int) == (Q : Int)) = true := by simp
      have hQ2 : (Q == Q) = true := by simp
      go_wp2_with fail
      refine (same_any _ _ D D _ (isInts_below Hd7.out (below_drewN_r Hb11.out _)) (isInts_below Hd'.out (below_drewN_r Hb11.out _))).mono ?_
      rintro e w13 ⟨rfl, k13, rfl⟩
      have hD : (D == D) = true := by simp
      have hN : ((R.length : Int) == (R.length : Int)) = true := by simp
      have hN2 : (R.length == R.length) = true := by simp
      have hB : (B == B) = true := by simp
      go_wp2_with fail
      refine (cL.out _).mono ?_
      rintro e w14 ⟨rfl, hb14⟩
      go_wp2_with fail
      go_ret
      exact ⟨rfl, HY.out.trans ((by first | exact below_of_drewN (below_of_drewN hb14) | exact below_of_drewN hb14 : Below w11.heap.size w11 w14).mono (by exact HY.out.size))⟩
end Go.Proofs.YtpoekblolicehaaDoor
