/-
  The statement RhythmRotations: the law answers true for all bytes and numbers.
-/
import Derived.Test.YtpoekblolicehaaDoorWalkO
import Derived.Test.YtpoekblolicehaaDoorPlainJ
import Derived.Test.YtpoekblolicehaaDoorLawTwo
namespace Go.Proofs.YtpoekblolicehaaDoor
open Go.RowKit

set_option maxHeartbeats 1000000 in
set_option maxRecDepth 100000 in
theorem RhythmRotations_ok (a : Option Addr) (len cap : Nat) (zs : List Int) (t : Int) (w : World) (hr : IsRow .u8 w a len cap zs) (ht : (Lit.int .u8 t).wf = true) :
    Calls Tryd.prog 15 #[.slice a len cap, .int .u8 t] w fun e w' => e = .returned (.bool true) ∧ Below w.heap.size w w' := by
  have cM := hid (made_any a len cap zs 100 w hr (by decide) (by decide))
  have cL := hid lives_any
  obtain ⟨ht0, ht1⟩ := wf_u8 ht
  clear hr ht
  go_enter Tryd.func15, Tryd.ntmps15
  go_wp2_with fail
  refine cM.out.mono ?_
  rintro e w1 ⟨s, rfl, hs, hsz, n1, rfl⟩
  have h1 : 1 ≤ s.size := chk_pos hs
  have hr1 : 0 ≤ t % (s.size : Int) := Int.emod_nonneg _ (by omega)
  have hr2 : t % (s.size : Int) < s.size := Int.emod_lt_of_pos _ (by omega)
  obtain ⟨k, hk⟩ := Int.eq_ofNat_of_zero_le hr1
  have hkl : k < s.size := by omega
  -- what is known of the rotations
  obtain ⟨T, hT⟩ : ∃ T, T = rotB s k := ⟨_, rfl⟩
  have hTl : T.data.toList = rot s.data.toList k := by rw [hT]; exact rotB_list s k (by omega)
  have hTs : T.size = s.size := by rw [← data_size, hTl, rot_length, data_size]
  have hTc : chk T.data.toList = 0 := by rw [hTl]; exact chk_rot _ _ hs
  have ha := turn_lt s.data.toList h1
  have hb := turn_lt T.data.toList (by rw [data_size]; omega)
  rw [data_size] at ha hb
  rw [hTs] at hb
  obtain ⟨U, hU⟩ : ∃ U, U = rotB s (turn s.data.toList) := ⟨_, rfl⟩
  have hUl : U.data.toList = rot s.data.toList (turn s.data.toList) := by rw [hU]; exact rotB_list s _ (by omega)
  have hUs : U.size = s.size := by rw [← data_size, hUl, rot_length, data_size]
  have hUT : rotB T (turn T.data.toList) = U := by
    rw [← strB_data U, ← strB_data (rotB T _), rotB_list T _ (by omega), hUl, hTl]
    rw [← turn_rot _ _ (by rw [data_size]; exact hkl)]
  have hUc : chk U.data.toList = 0 := by rw [hUl]; exact chk_rot _ _ hs
  have hLow : Low U.data.toList := by rw [hUl]; exact low_turn _ h1
  have cTs := fun w => turn_any s w (by omega)
  have cTT := fun w => turn_any T w (by omega)
  have cTU := fun w => turn_any U w (by omega)
  have cLy := fun w => lyndon_fin U w (by omega)
  simp only [hs, hTc, hUc, if_true] at cTs cTT cTU cLy
  rw [low_turn0 _ hLow] at cTU
  have cR1 := hid (fun w => rotation_any s k w (by omega) (by omega))
  have cR2 := hid (fun w => rotation_any s (turn s.data.toList) w (by omega) (by omega))
  have cR3 := hid (fun w => rotation_any T (turn T.data.toList) w (by omega) (by omega))
  rw [hUT] at cR3
  rw [← hU] at cR2
  rw [← hT] at cR1
  have F1 := hid (low_same _ hLow (by rw [data_size]; omega))
  have F2 := lyn_pos U.data.toList (by rw [data_size]; omega)
  change Hid (∀ i, i < (lyn U.data.toList).length → sx (lyn U.data.toList) i = sx (lyn U.data.toList) 0) at F1
  have CTs := hid cTs
  have CTT := hid cTT
  have CTU := hid cTU
  have CLy := hid cLy
  generalize lyn U.data.toList = l at *
  generalize turn s.data.toList = A at *
  generalize turn T.data.toList = B at *
  have HK := hid hk
  clear cTs cTT cTU cLy hLow hUc hUT hUs hUl hU hTc hTs hTl hT hs hk
  have hUb : (U.toList == U.toList) = true := by simp
  have d1 : decide ((A : Int) < 0) = false := by simp
  have d2 : decide (s.size ≤ A) = false := by simp; omega
  have d3 : decide ((B : Int) < 0) = false := by simp
  have d4 : decide (s.size ≤ B) = false := by simp; omega
  have d5 : decide ((A : Int) ≥ s.size) = false := by simp; omega
  have d6 : decide ((B : Int) ≥ s.size) = false := by simp; omega
  have hwr : IntKind.i64.wrap (t % (s.size : Int)) = (k : Int) := by rw [IntWalk.i64_in _ (by omega)]; exact HK.out
  have hkr := HK.out
  have hx1 : 1 ≤ (s.size : Int) := by omega
  go_wp2_with fail
  refine (cR1.out _).mono ?_
  rintro e w2 ⟨rfl, n2, rfl⟩
  go_wp2_with fail
  refine (CTs.out _).mono ?_
  rintro e w3 ⟨rfl, hb3⟩
  have H3 := hid (below_of_drewN hb3)
  clear hb3
  go_wp2_with fail
  refine (CTT.out _).mono ?_
  rintro e w4 ⟨rfl, hb4⟩
  have H4 := hid (H3.out.trans (hb4.mono (by exact H3.out.size)))
  clear hb4 H3
  go_wp2_with fail
  refine (cR2.out _).mono ?_
  rintro e w5 ⟨rfl, n5, rfl⟩
  go_wp2_with fail
  refine (cR3.out _).mono ?_
  rintro e w6 ⟨rfl, n6, rfl⟩
  go_wp2_with fail
  refine (cL.out _).mono ?_
  rintro e w7 ⟨rfl, hb7⟩
  have H7 := hid (H4.out.trans ((below_of_drewN hb7).mono (by exact H4.out.size)))
  clear hb7 H4
  go_wp2_with fail
  refine (cR2.out _).mono ?_
  rintro e w8 ⟨rfl, n8, rfl⟩
  go_wp2_with fail
  refine (CLy.out _).mono ?_
  rintro e w9 ⟨v, rfl, hv, hb9⟩
  have H9 := hid (H7.out.trans ((below_of_drewN hb9).mono (by exact H7.out.size)))
  have Hv := hid hv
  clear hb9 H7 hv
  obtain ⟨pa, pc, rfl, hl, hc⟩ := Hv.out
  unfold maxLen at hl
  clear hc
  generalize hN : l.length = N at *
  have HN := hid hN
  clear hN
  have hN0 : ((N : Int) == 0) = false := by simp; omega
  go_wp2_with fail
  refine (cR2.out _).mono ?_
  rintro e w10 ⟨rfl, n10, rfl⟩
  go_wp2_with fail
  refine (CTU.out _).mono ?_
  rintro e w11 ⟨rfl, hb11⟩
  have Hv2 := hid (isStrs_below Hv.out (below_of_drewN hb11))
  have H11 := hid (H9.out.trans ((below_of_drewN hb11).mono (by exact H9.out.size)))
  clear hb11 H9
  go_wp2_with fail
  go_loopg [16] N (fun g i wr => ∃ x : Nat, x ≤ N ∧ g = N - x ∧ i = .int .i64 x ∧ ∃ m, wr = w11.drewN m)
  case atStart => exact ⟨0, by omega, by omega, rfl, 0, rfl⟩
  case round =>
    obtain ⟨x, hx, hgx, rfl, m, rfl⟩ := hrel
    have HGX := hid hgx; clear hgx
    by_cases hxl : x < N
    · obtain ⟨_, _, he, _, hc⟩ := Hv2.out
      injection he with e1 e2 e3
      subst e1 e3
      obtain ⟨g, rfl, cl⟩ := hc x (by rw [HN.out]; exact hxl)
      obtain ⟨_, ea, cl0⟩ := hc 0 (by rw [HN.out]; omega)
      cases ea
      rw [F1.out x hxl] at cl
      clear hc e2
      generalize strB (sx l 0) = z at *
      have hz : (z.toList == z.toList) = true := by simp
      have i1 : (x : Int) < N := by omega
      have i2 : (0 : Int) < N := by omega
      go_wp2_with fail
      go_quiet (fail)
      go_wp2_with fail
      go_roundg (N - (x + 1))
      case measure => have := HGX.out; omega
      case rel => exact ⟨x + 1, by omega, rfl, by go_num, (by first | exact ⟨_, rfl⟩ | exact drew2 _ _ _)⟩
    · go_wp2_with fail
      go_ret
      exact ⟨rfl, below_drewN_r H11.out _⟩
end Go.Proofs.YtpoekblolicehaaDoor
