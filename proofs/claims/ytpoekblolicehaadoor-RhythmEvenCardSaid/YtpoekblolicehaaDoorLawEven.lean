/-
  The statement RhythmEven: the law answers true for all bytes.
-/
import Derived.Test.YtpoekblolicehaaDoorLawBalances
import Derived.Test.YtpoekblolicehaaDoorPlainM
namespace Go.Proofs.YtpoekblolicehaaDoor
open Go.RowKit

def isAB (c : UInt8) : Bool := c == 97 || c == 98
theorem ab_letter (c : UInt8) (h : isAB c = true) : letter c = true := by
  unfold isAB at h
  simp only [Bool.or_eq_true, beq_iff_eq] at h
  rcases h with rfl | rfl <;> decide
theorem ext2 (z : Int) : ∃ c, (⟨#[97, 98]⟩ : ByteArray).extract (z % 2).toNat (z % 2 + 1).toNat = ⟨#[c]⟩ ∧ isAB c = true := by
  have h : z % 2 = 0 ∨ z % 2 = 1 := by omega
  rcases h with h | h <;> rw [h]
  · exact ⟨97, rfl, rfl⟩
  · exact ⟨98, rfl, rfl⟩
/-- what the law asks of each word -/
theorem even_word (z : Str) (hab : z.all isAB = true) (hl : isLyn z = true) (h1 : z.count 98 ≠ 0) (h2 : z.count 98 ≠ z.length) :
    (balanced z = true ∧ Nat.gcd (z.length - z.count 98) (z.count 98) = 1 ∧ even (z.length - z.count 98) (z.count 98) = z) ∨
    (balanced z = false ∧ Nat.gcd (z.length - z.count 98) (z.count 98) = 1 ∧ even (z.length - z.count 98) (z.count 98) ≠ z) ∨
    (balanced z = false ∧ 1 < Nat.gcd (z.length - z.count 98) (z.count 98)) := by
  have hle : z.count 98 ≤ z.length := List.count_le_length
  cases hb : balanced z
  · right
    by_cases hg : Nat.gcd (z.length - z.count 98) (z.count 98) = 1
    · refine .inl ⟨rfl, hg, fun he => ?_⟩
      have := even_balanced (z.length - z.count 98) (z.count 98) (by omega)
      rw [he, hb] at this
      cases this
    · refine .inr ⟨rfl, ?_⟩
      have := Nat.gcd_pos_of_pos_right (z.length - z.count 98) (show 0 < z.count 98 by omega)
      omega
  · left
    obtain ⟨g, e⟩ := even_conv (l := z) hab hl hb (by omega) (by omega)
    exact ⟨rfl, g, e⟩

set_option maxHeartbeats 1000000 in
set_option maxRecDepth 100000 in
theorem RhythmEven_ok (a : Option Addr) (len cap : Nat) (zs : List Int) (w : World) (hr : IsRow .u8 w a len cap zs) :
    Calls Tryd.prog 19 #[.slice a len cap] w fun e w' => e = .returned (.bool true) ∧ Below w.heap.size w w' := by
  have HR := hid hr
  have hl := isRow_len hr
  unfold maxLen at hl
  have cL := hid lives_any
  clear hr
  go_enter Tryd.func19, Tryd.ntmps19
  go_wp2_with fail
  go_loopg [3, 4] len (fun g s i wr => ∃ (k : Nat) (t : ByteArray), k ≤ len ∧ k ≤ 60 ∧ g = len - k ∧ i = .int .i64 k ∧ s = .string t ∧ t.size = k ∧ Hid (t.data.toList.all isAB = true) ∧ ∃ n, wr = w.drewN n)
  case atStart => exact ⟨0, ⟨#[]⟩, Nat.zero_le _, Nat.zero_le _, by omega, rfl, rfl, rfl, rfl, 0, rfl⟩
  case round =>
    obtain ⟨k, t, hk, hkm, hgk, rfl, rfl, hts, HAL, n, rfl⟩ := hrel
    have HGK := hid hgk; clear hgk
    have HT := hid hts
    have hts2 : t.size ≤ 60 := by omega
    clear hts
    by_cases hlt : k < len ∧ k < 60
    · obtain ⟨hlt, hlm⟩ := hlt
      obtain ⟨b, off, rfl, hc, hw⟩ := isRow_at HR.out hlt
      generalize zs.getD k 0 = z at *
      obtain ⟨hz0, hz1⟩ := wf_u8 hw
      obtain ⟨c, hec, hlc⟩ := ext2 z
      have Hec := hid hec
      have Hlc := hid hlc
      clear hw hec hlc
      have hsz : t.size + ((⟨#[97, 98]⟩ : ByteArray).extract (z % 2).toNat (z % 2 + 1).toNat).size ≤ 1000 := by
        rw [Hec.out]; show t.size + 1 ≤ 1000; omega
      go_wp2_with fail
      go_quiet (fail)
      go_wp2_with fail
      go_roundg (len - (k + 1))
      case measure => have := HGK.out; omega
      case rel =>
        refine ⟨k + 1, t ++ ⟨#[c]⟩, by omega, by omega, rfl, by go_num, by rw [Hec.out], by rw [snoc_size, HT.out], ?_, (by first | exact ⟨_, rfl⟩ | exact drew2 _ _ _)⟩
        rw [snoc_data, List.all_append, HAL.out]
        simp [Hlc.out]
        exact hid trivial
    · obtain ⟨s, hs⟩ : ∃ s, s = t ++ (⟨#[98]⟩ : ByteArray) := ⟨_, rfl⟩
      have hall : s.data.toList.all isAB = true := by
        rw [hs, snoc_data, List.all_append, HAL.out]; rfl
      have hss : s.size ≤ 61 := by rw [hs, snoc_size]; omega
      have hs1 : s.data.toList.isEmpty = false := by
        rw [hs, snoc_data]; simp
      have hchk : chk s.data.toList = 0 := by
        rw [chk_good (by rw [data_size]; omega) (by rw [List.all_eq_true] at hall ⊢; exact fun c hc => ab_letter c (hall c hc)), if_neg (by rw [hs1]; decide)]
      have cP := fun w => lyndon_fin s w (by omega)
      simp only [hchk, if_true] at cP
      have F1 := hid (fun x hx => words_at s.data.toList hchk x hx)
      have F2 := hid (fun x (hx : x < (lyn s.data.toList).length) => show (sx (lyn s.data.toList) x).all isAB = true ∧ (sx (lyn s.data.toList) x).length ≤ 61 by
        have hm : sx (lyn s.data.toList) x ∈ lyn s.data.toList := by
          unfold sx
          rw [List.getD_eq_getElem?_getD, List.getElem?_eq_getElem hx]
          simp
        obtain ⟨_, b, c⟩ := lyn_all _ s.data.toList (Nat.le_refl _) _ hm
        rw [data_size] at b
        exact ⟨c _ hall, by omega⟩)
      have CP := hid cP
      have hts3 : t.size + (⟨#[98]⟩ : ByteArray).size ≤ 100 := by show t.size + 1 ≤ 100; omega
      generalize lyn s.data.toList = l at *
      clear cP hchk hall hs1
      have HS := hid hs
      clear hs
      have CP2 := CP
      rw [HS.out] at CP2
      clear CP
      have HT60 := hid hlt
      have hkc : (k : Int) < 60 ∧ ¬ k < len ∨ ¬ (k : Int) < 60 := by omega
      have HK0 := hid hkc
      clear hkc hlt
      have hor : decide (k < len) = false ∨ (decide (k < len) = true ∧ decide ((k : Int) < 60) = false) := by
        by_cases h : k < len
        · right
          have := HT60.out
          exact ⟨decide_eq_true h, decide_eq_false (by omega)⟩
        · exact .inl (decide_eq_false h)
      clear HT60 HK0
      rcases hor with hd1 | ⟨hd1, hd2⟩
      all_goals
        go_wp2_with fail
        refine (CP2.out _).mono ?_
        rintro e w2 ⟨v, rfl, hv, hb⟩
        have Hv := hid hv
        have Hb := hid (by first | exact hb | exact below_of_drewN hb : Below w.heap.size w w2)
        clear hv hb
        obtain ⟨pa, pc, rfl, hvl, hc⟩ := Hv.out
        unfold maxLen at hvl
        clear hc
        generalize hN : l.length = N at *
        have HN := hid hN
        clear hN
        go_wp2_with fail
        refine (cL.out _).mono ?_
        rintro e w5 ⟨rfl, hb5⟩
        have Hv5 := hid (isStrs_below Hv.out hb5)
        have Hb5 := hid (Hb.out.trans (hb5.mono Hb.out.size))
        clear hb5 Hv Hb
        go_wp2_with fail
        go_loopg [7, 8, 9, 10, 11, 12, 13] N (fun g i _ _ _ _ _ _ wr => ∃ (x : Nat), x ≤ N ∧ g = N - x ∧ i = .int .i64 x ∧ Hid (Below w5.heap.size w5 wr))
        case atStart => exact ⟨0, by omega, by omega, rfl, Below.refl _ _⟩
        case round =>
          obtain ⟨x, hx, hgx, rfl, HB⟩ := hrel
          have HGX := hid hgx; clear hgx
          by_cases hxl : x < N
          · obtain ⟨g1, g2, g3, g4⟩ := F1.out x hxl
            obtain ⟨h1, h2⟩ := F2.out x hxl
            have hew := even_word (sx l x) h1 g1
            have HC := hid g3
            clear g1 g3 g4 h1
            have HV := hid (isStrs_below Hv5.out HB.out)
            obtain ⟨_, _, he, _, hc⟩ := HV.out
            injection he with e1 e2 e3
            subst e1 e3
            obtain ⟨g, rfl, cl⟩ := hc x (by rw [HN.out]; exact hxl)
            clear hc e2
            have i1 : (x : Int) < N := by omega
            obtain ⟨z, hz⟩ : ∃ z, z = strB (sx l x) := ⟨_, rfl⟩
            have hzl : z.data.toList = sx l x := by rw [hz, strB_list]
            have hzs : z.size = (sx l x).length := by rw [hz, strB_size]
            rw [← hz] at cl
            have cB := fun w => bs_any z w (by rw [hzs]; omega)
            have cA := fun w => balanced_any z w (by rw [hzs]; omega)
            rw [hzl] at cB cA
            rw [HC.out] at cA
            simp only [if_true] at cA
            have hcl : (sx l x).count 98 ≤ (sx l x).length := List.count_le_length
            have HEV := hid hew
            have HZ := hid hz
            have HZL := hid hzl
            have HV0 := hid (fun w' (hb : Below w5.heap.size w5 w') => isStrs_below Hv5.out hb)
            generalize (sx l x).count 98 = b at *
            rw [← hzs] at hcl h2
            have HZS := hid hzs
            have CB := hid cB
            have CA := hid cA
            clear hz hzl hzs cB cA hew
            go_wp2_with fail
            refine (CB.out _).mono ?_
            rintro e w6 ⟨rfl, m6, rfl⟩
            go_wp2_with fail
            refine (CA.out _).mono ?_
            rintro e w7 ⟨rfl, hb7⟩
            have HB7 := hid (HB.out.trans ((by first | exact below_of_drewN hb7 | exact hb7 : Below wr.heap.size wr w7).mono HB.out.size))
            clear hb7
            obtain ⟨_, _, he, _, hc⟩ := HV0.out _ HB7.out
            injection he with e1 e2 e3
            subst e1 e3
            obtain ⟨_, ea, cl7⟩ := hc x (by rw [HN.out]; exact hxl)
            cases ea
            rw [← HZ.out] at cl7
            clear hc e2
            by_cases hb0 : b = 0
            · have d1 : ((b : Int) == 0) = true := by rw [hb0]; rfl
              have d1' : (b == 0) = true := by rw [hb0]; rfl
              clear hb0
              go_wp2_with fail
              go_roundg (N - (x + 1))
              case measure => have := HGX.out; omega
              case rel => exact ⟨x + 1, by omega, rfl, by go_num, HB7.out⟩
            have d1 : ((b : Int) == 0) = false := by rw [beq_eq_false_iff_ne]; omega
            have d1' : (b == 0) = false := by rw [beq_eq_false_iff_ne]; omega
            by_cases hbn : b = z.size
            · have d2 : ((b : Int) == (z.size : Int)) = true := by rw [hbn]; simp
              have d2' : (b == z.size) = true := by rw [hbn]; simp
              clear hbn hb0
              go_wp2_with fail
              go_roundg (N - (x + 1))
              case measure => have := HGX.out; omega
              case rel => exact ⟨x + 1, by omega, rfl, by go_num, HB7.out⟩
            have d2 : ((b : Int) == (z.size : Int)) = false := by rw [beq_eq_false_iff_ne]; omega
            have d2' : (b == z.size) = false := by rw [beq_eq_false_iff_ne]; omega
            have hew := HEV.out hb0
            rw [← HZS.out] at hew
            have hew := hew hbn
            clear HEV
            obtain ⟨A, hA⟩ : ∃ A, A = z.size - b := ⟨_, rfl⟩
            rw [← hA] at hew
            have v3 : (z.size : Int) - (b : Int) = (A : Int) := by omega
            have v4 : IntKind.i64.wrap (A : Int) = A := IntWalk.i64_in _ (by omega)
            have hA1 : 1 ≤ A := by omega
            have hb1 : 1 ≤ b := by omega
            have hAb : A + b ≤ 200 := by omega
            clear hA hb0 hbn
            rcases hew with ⟨q1, q2, q3⟩ | ⟨q1, q2, q3⟩ | ⟨q1, q2⟩
            · have cE := hid (fun w => even_ok A b w hA1 hb1 hAb q2)
              have q4 : (⟨(even A b).toArray⟩ : ByteArray) = z := by rw [q3, HZ.out]; rfl
              rw [q4] at cE
              have hz : (z.toList == z.toList) = true := by simp
              clear q2 q3 q4
              go_wp2_with fail
              refine (cE.out _).mono ?_
              rintro e w8 ⟨rfl, hb8⟩
              have HB8 := hid (HB7.out.trans (hb8.mono HB7.out.size))
              clear hb8
              obtain ⟨_, _, he, _, hc⟩ := HV0.out _ HB8.out
              injection he with e1 e2 e3
              subst e1 e3
              obtain ⟨_, ea, cl8⟩ := hc x (by rw [HN.out]; exact hxl)
              cases ea
              rw [← HZ.out] at cl8
              clear hc e2
              go_wp2_with fail
              go_roundg (N - (x + 1))
              case measure => have := HGX.out; omega
              case rel => exact ⟨x + 1, by omega, rfl, by go_num, HB8.out⟩
            · have cE := hid (fun w => even_ok A b w hA1 hb1 hAb q2)
              obtain ⟨E, hE⟩ : ∃ E : ByteArray, E = ⟨(even A b).toArray⟩ := ⟨_, rfl⟩
              rw [← hE] at cE
              have hz : (E.toList == z.toList) = false := by
                rw [beq_eq_false_iff_ne, toList_data, toList_data, hE, HZL.out]; exact q3
              clear q2 q3 hE
              go_wp2_with fail
              refine (cE.out _).mono ?_
              rintro e w8 ⟨rfl, hb8⟩
              have HB8 := hid (HB7.out.trans (hb8.mono HB7.out.size))
              clear hb8
              obtain ⟨_, _, he, _, hc⟩ := HV0.out _ HB8.out
              injection he with e1 e2 e3
              subst e1 e3
              obtain ⟨_, ea, cl8⟩ := hc x (by rw [HN.out]; exact hxl)
              cases ea
              rw [← HZ.out] at cl8
              clear hc e2
              go_wp2_with fail
              go_roundg (N - (x + 1))
              case measure => have := HGX.out; omega
              case rel => exact ⟨x + 1, by omega, rfl, by go_num, HB8.out⟩
            · have cE := hid (fun w => even_none A b w hA1 hb1 hAb q2)
              clear q2
              go_wp2_with fail
              refine (cE.out _).mono ?_
              rintro e w8 ⟨rfl, hb8⟩
              have HB8 := hid (HB7.out.trans (hb8.mono HB7.out.size))
              clear hb8
              go_wp2_with fail
              go_roundg (N - (x + 1))
              case measure => have := HGX.out; omega
              case rel => exact ⟨x + 1, by omega, rfl, by go_num, HB8.out⟩
          · obtain rfl : x = N := by omega
            go_wp2_with fail
            go_ret
            exact ⟨rfl, Hb5.out.trans (HB.out.mono Hb5.out.size)⟩
end Go.Proofs.YtpoekblolicehaaDoor
