/-
  Walks over chapter 6: the reference's Valid.
-/
import Derived.Test.YtjonbhimbhidpaaDoorWalkN
namespace Go.Proofs.YtjonbhimbhidpaaDoor
open Go.RowKit

theorem num_C {o : Ov} (hn : o.Num) (hP : 1 ≤ o.P) (hR : 1 ≤ o.R) : o.C ≤ 1000 := by
  have h1 : o.safe.getD 0 [] ∈ o.safe := by
    have : 0 < o.safe.length := hP
    rw [List.getD_eq_getElem?_getD, List.getElem?_eq_getElem this]
    exact List.getElem_mem this
  have h2 : rowAt o.safe 0 0 ∈ o.safe.getD 0 [] := by
    have : 0 < (o.safe.getD 0 []).length := hR
    unfold rowAt
    generalize o.safe.getD 0 [] = q at *
    rw [List.getD_eq_getElem?_getD, List.getElem?_eq_getElem this]
    exact List.getElem_mem this
  exact hn.short _ h1 _ h2

set_option maxHeartbeats 8000000 in
set_option maxRecDepth 100000 in
theorem valid_any (vs vm vj : Value) (o : Ov) (w : World) (ho : IsOv w vs vm vj o) (hn : o.Num) :
    Calls Tryd.prog 17 #[.agg #[vs, vm, vj]] w fun e w' => e = .returned (.bool o.valid) ∧ Below w.heap.size w w' := by
  have HO := hid ho
  have HN := hid hn
  obtain ⟨⟨a1, c1, rfl, hl1, hc1⟩, ⟨a2, c2, rfl, hl2, hc2⟩, ⟨a3, c3, rfl, hl3, hc3⟩⟩ := ho
  have HC1 := hid hc1
  have HC2 := hid hc2
  have HC3 := hid hc3
  clear hc1 hc2 hc3 hn
  have HB0 : Hid (Below w.heap.size w (w.alloc (.cells #[.slice a1 o.safe.length c1, .slice a2 o.moves.length c2, .slice a3 o.jolts.length c3] 26))) := (Below.refl _ _).alloc (Nat.le_refl _) _
  obtain ⟨P, hP⟩ : ∃ P, P = o.P := ⟨_, rfl⟩
  obtain ⟨M, hM⟩ : ∃ M, M = o.moves.length := ⟨_, rfl⟩
  obtain ⟨J, hJ⟩ : ∃ J, J = o.jolts.length := ⟨_, rfl⟩
  have HP := hid hP
  have HM := hid hM
  have HJ := hid hJ
  have hPl : o.safe.length = P := hP.symm
  rw [hPl, ← hM, ← hJ] at HB0 ⊢
  rw [hPl] at hl1
  rw [← hM] at hl2
  rw [← hJ] at hl3
  clear hP hM hJ hPl
  obtain ⟨V, hV⟩ : ∃ V, V = o.valid := ⟨_, rfl⟩
  rw [← hV]
  have HVV := hid hV
  clear hV
  by_cases hA : 1 ≤ P ∧ P ≤ 4
  · obtain ⟨p1, p2⟩ := hA
    obtain ⟨g1, u1, rfl, hcell1, hs1⟩ := HC1.out 0 (by have h1 := HP.out; unfold Ov.P at h1; omega)
    obtain ⟨a4, c4, rfl, hl4, hc4⟩ := hs1
    have HC4 := hid hc4
    obtain ⟨R, hR⟩ : ∃ R, R = (o.safe.getD 0 []).length := ⟨_, rfl⟩
    rw [← hR] at hcell1 hl4
    have HR : Hid (R = o.R) := hR
    have lt1 := World.block_lt_of_cell? w _ hcell1
    clear hc4 hR
    by_cases hB : 1 ≤ R ∧ R ≤ 16
    · obtain ⟨r1, r2⟩ := hB
      have hC1000 := num_C HN.out (by rw [← HP.out]; exact p1) (by rw [← HR.out]; exact r1)
      obtain ⟨g2, rfl, hcell2⟩ := HC4.out 0 (by have h1 := HR.out; unfold Ov.R at h1; omega)
      obtain ⟨C, hC⟩ : ∃ C, C = (strB ((o.safe.getD 0 []).getD 0 [])).size := ⟨_, rfl⟩
      have HC : Hid (C = o.C) := by rw [hC, strB_size]; rfl
      rw [← HC.out] at hC1000
      have lt2 := World.block_lt_of_cell? w _ hcell2
      generalize strB ((o.safe.getD 0 []).getD 0 []) = s0 at hC hcell2
      subst hC
      by_cases hD : 1 ≤ s0.size ∧ s0.size ≤ 16
      · obtain ⟨s1, s2⟩ := hD
        by_cases hE : M ≤ 16
        · by_cases hF : 1 ≤ J ∧ J ≤ 4
          · obtain ⟨j1, j2⟩ := hF
            have HX0 := hid (heap_alloc_new w (.cells #[.slice (some ⟨g1, 0, none⟩) P c1, .slice a2 M c2, .slice a3 J c3] 26))
            have cf := hid (form_any (.slice (some ⟨g1, 0, none⟩) P c1) (.slice a2 M c2) (.slice a3 J c3) (.slice (some ⟨g1, 0, none⟩) P c1) o o.safe (w.alloc (.cells #[.slice (some ⟨g1, 0, none⟩) P c1, .slice a2 M c2, .slice a3 J c3] 26)) (by have := isOv_below HO.out (w' := _) (by have := HB0.out; exact this); rw [show o.safe.length = P from HP.out.symm, show o.moves.length = M from HM.out.symm, show o.jolts.length = J from HJ.out.symm] at this; exact this)
              ⟨by rw [← HP.out]; exact p1, by rw [← HR.out]; exact r1, by rw [← HP.out]; omega, by rw [← HR.out]; omega, by rw [← HC.out]; omega⟩ (by have := (isOv_below HO.out (w' := _) (by have := HB0.out; exact this)).safe; rw [show o.safe.length = P from HP.out.symm] at this; exact this) HN.out.short)
            rw [← HP.out, ← HR.out, ← HC.out] at cf
            obtain ⟨W0, hW0⟩ : ∃ W0, W0 = (w.alloc (.cells #[.slice (some ⟨g1, 0, none⟩) P c1, .slice a2 M c2, .slice a3 J c3] 26)) := ⟨_, rfl⟩
            rw [← hW0] at HB0 HX0 cf
            have HWW := hid hW0
            have hsz0 : W0.heap.size = w.heap.size + 1 := by rw [hW0]; simp
            have HSZ := hid hsz0
            clear hW0 hsz0
            cases hG : formB P R s0.size o.safe
            · have hv : V = false := by rw [HVV.out]; exact valid_form (by rw [← HP.out, ← HR.out, ← HC.out]; exact hG)
              subst hv
              rw [hG] at cf
              clear hG
              go_enter Tryd.func17, Tryd.ntmps17
              go_wp2_with (first | (go_at_call 48; first | (refine (rin_t _ _ _ _ (by omega)).mono ?_; rintro e w3 ⟨rfl, rfl⟩) | (refine (rin_f _ _ _ _ (by omega)).mono ?_; rintro e w3 ⟨rfl, rfl⟩)) | (go_at_call 37; rw [← HWW.out]; refine (cf.out).mono ?_; rintro e w3 ⟨rfl, hb3⟩; have HB3 := hid hb3; obtain ⟨x0, x1, x2⟩ := cells3_of ((hb3.block w.heap.size (by rw [HSZ.out]; exact Nat.lt_succ_self _)).trans HX0.out); clear hb3) | fail)
              go_ret
              exact ⟨rfl, HB0.out.trans (HB3.out.mono HB0.out.size)⟩
            · rw [hG] at cf
              have HG := hid hG
              clear hG
              go_enter Tryd.func17, Tryd.ntmps17
              go_wp2_with (first | (go_at_call 48; first | (refine (rin_t _ _ _ _ (by omega)).mono ?_; rintro e w3 ⟨rfl, rfl⟩) | (refine (rin_f _ _ _ _ (by omega)).mono ?_; rintro e w3 ⟨rfl, rfl⟩)) | (go_at_call 37; rw [← HWW.out]; refine (cf.out).mono ?_; rintro e w3 ⟨rfl, hb3⟩; have HB3 := hid hb3; obtain ⟨x0, x1, x2⟩ := cells3_of ((hb3.block w.heap.size (by rw [HSZ.out]; exact Nat.lt_succ_self _)).trans HX0.out); clear hb3) | fail)
              go_loopw [3] (fun v wr => ∃ i : Nat, v = .int .i64 i ∧ i ≤ M ∧ Hid ((o.moves.take i).all (mvOk o.P) = true) ∧ Hid (Below W0.heap.size W0 wr) ∧ Hid (wr.heap[w.heap.size]? = some (.cells #[.slice (some ⟨g1, 0, none⟩) P c1, .slice a2 M c2, .slice a3 J c3] 26))) (fun v _ => M - (intOf v).toNat)
              case atStart => exact ⟨0, rfl, Nat.zero_le _, by rw [List.take_zero]; rfl, HB3, (HB3.out.block w.heap.size (by rw [HSZ.out]; exact Nat.lt_succ_self _)).trans HX0.out⟩
              case round =>
                clear x0 x1 x2
                obtain ⟨i, rfl, hi, HAl, HBl, HXl⟩ := hrel
                obtain ⟨x0, x1, x2⟩ := cells3_of HXl.out
                have hlw0 := heap_lt HXl.out
                by_cases hlt : i < M
                · have hlt' : i < o.moves.length := by rw [← HM.out]; exact hlt
                  obtain ⟨g3, rfl, n0, n1, n2, n3⟩ := HC2.out i hlt'
                  have em : mvAt o.moves i = o.moves[i] := by simp [mvAt, hlt']
                  have lt3 := World.block_lt_of_cell? w _ n0
                  have up := HB0.out.trans (HBl.out.mono HB0.out.size)
                  have HMV : Hid (∀ b, mvOk o.P o.moves[i] = b → (o.moves.take (i + 1)).all (mvOk o.P) = b ∧ (b = false → V = false)) := by
                    intro b hb
                    have e : (o.moves.take (i + 1)).all (mvOk o.P) = b := by rw [all_take_succ _ _ _ hlt', HAl.out, hb]; rfl
                    refine ⟨e, ?_⟩
                    rintro rfl
                    rw [HVV.out]
                    exact valid_mv (all_of_take _ _ _ e)
                  rw [em] at n0 n1 n2 n3
                  generalize o.moves[i] = m at *
                  obtain ⟨a, b, x, y⟩ := m
                  simp only at n0 n1 n2 n3
                  replace n0 := (up.cell lt3).trans n0
                  replace n1 := (up.cell (p := ⟨g3, i * 4 + 1, none⟩) lt3).trans n1
                  replace n2 := (up.cell (p := ⟨g3, i * 4 + 2, none⟩) lt3).trans n2
                  replace n3 := (up.cell (p := ⟨g3, i * 4 + 3, none⟩) lt3).trans n3
                  have hlw : g3 < wr.heap.size := Nat.lt_of_lt_of_le lt3 up.size
                  have HBa : Hid (Below W0.heap.size W0 (wr.alloc (.cells #[.int .i64 a, .int .i64 b, .int .i64 x, .int .i64 y] 53))) := HBl.out.alloc HBl.out.size _
                  have HBb : Hid (Below w.heap.size w (wr.alloc (.cells #[.int .i64 a, .int .i64 b, .int .i64 x, .int .i64 y] 53))) := up.alloc up.size _
                  have HXa : Hid ((wr.alloc (.cells #[.int .i64 a, .int .i64 b, .int .i64 x, .int .i64 y] 53)).heap[w.heap.size]? = some (.cells #[.slice (some ⟨g1, 0, none⟩) P c1, .slice (some ⟨g3, 0, none⟩) M c2, .slice a3 J c3] 26)) := (Below.heap_alloc _ _ _ hlw0).trans HXl.out
                  clear em up HAl hlt'
                  by_cases e1 : 0 ≤ a ∧ a ≤ (P : Int) - 1
                  · by_cases e2 : 0 ≤ b ∧ b ≤ (P : Int) - 1
                    · by_cases e3 : -5 ≤ x ∧ x ≤ 5
                      · by_cases e4 : -5 ≤ y ∧ y ≤ 5
                        · have HV := hid ((HMV.out true (by unfold mvOk within5; rw [← HP.out]; simp; omega)).1)
                          go_wp2_with (first | (go_at_call 48; first | (refine (rin_t _ _ _ _ (by omega)).mono ?_; rintro e w3 ⟨rfl, rfl⟩) | (refine (rin_f _ _ _ _ (by omega)).mono ?_; rintro e w3 ⟨rfl, rfl⟩)) | fail)
                          go_roundw
                          case rel => exact ⟨i + 1, by go_num, by omega, HV, HBa, HXa⟩
                          case measure => simp [intOf]; omega
                        · have hv := (HMV.out false (by unfold mvOk within5; rw [← HP.out]; simp; omega)).2 rfl
                          subst hv
                          go_wp2_with (first | (go_at_call 48; first | (refine (rin_t _ _ _ _ (by omega)).mono ?_; rintro e w3 ⟨rfl, rfl⟩) | (refine (rin_f _ _ _ _ (by omega)).mono ?_; rintro e w3 ⟨rfl, rfl⟩)) | fail)
                          go_ret
                          exact ⟨rfl, HBb.out⟩
                      · have hv := (HMV.out false (by unfold mvOk within5; rw [← HP.out]; simp; omega)).2 rfl
                        subst hv
                        go_wp2_with (first | (go_at_call 48; first | (refine (rin_t _ _ _ _ (by omega)).mono ?_; rintro e w3 ⟨rfl, rfl⟩) | (refine (rin_f _ _ _ _ (by omega)).mono ?_; rintro e w3 ⟨rfl, rfl⟩)) | fail)
                        go_ret
                        exact ⟨rfl, HBb.out⟩
                    · have hv := (HMV.out false (by unfold mvOk within5; rw [← HP.out]; simp; omega)).2 rfl
                      subst hv
                      go_wp2_with (first | (go_at_call 48; first | (refine (rin_t _ _ _ _ (by omega)).mono ?_; rintro e w3 ⟨rfl, rfl⟩) | (refine (rin_f _ _ _ _ (by omega)).mono ?_; rintro e w3 ⟨rfl, rfl⟩)) | fail)
                      go_ret
                      exact ⟨rfl, HBb.out⟩
                  · have hv := (HMV.out false (by unfold mvOk within5; rw [← HP.out]; simp; omega)).2 rfl
                    subst hv
                    go_wp2_with (first | (go_at_call 48; first | (refine (rin_t _ _ _ _ (by omega)).mono ?_; rintro e w3 ⟨rfl, rfl⟩) | (refine (rin_f _ _ _ _ (by omega)).mono ?_; rintro e w3 ⟨rfl, rfl⟩)) | fail)
                    go_ret
                    exact ⟨rfl, HBb.out⟩
                · obtain rfl : i = M := by omega
                  have HMA : Hid (o.moves.all (mvOk o.P) = true) := by
                    have := HAl.out
                    rw [HM.out, List.take_of_length_le (Nat.le_refl _)] at this
                    exact this
                  clear HAl
                  go_wp2
                  clear x0 x1 x2
                  go_loopw [5] (fun v wr2 => ∃ k : Nat, v = .int .i64 k ∧ k ≤ J ∧ Hid ((o.jolts.take k).all jlOk = true) ∧ wr2 = wr) (fun v _ => J - (intOf v).toNat)
                  case atStart => exact ⟨0, rfl, Nat.zero_le _, by rw [List.take_zero]; rfl, rfl⟩
                  case round =>
                    obtain ⟨k, rfl, hk, HAl, rfl⟩ := hrel
                    obtain ⟨x0, x1, x2⟩ := cells3_of HXl.out
                    have HBb := hid (HB0.out.trans (HBl.out.mono HB0.out.size))
                    by_cases hlt : k < J
                    · have hlt' : k < o.jolts.length := by rw [← HJ.out]; exact hlt
                      obtain ⟨g3, rfl, n0, n1⟩ := HC3.out k hlt'
                      have em : jlAt o.jolts k = o.jolts[k] := by simp [jlAt, hlt']
                      have lt3 := World.block_lt_of_cell? w _ n0
                      have HMV : Hid (∀ b, jlOk o.jolts[k] = b → (o.jolts.take (k + 1)).all jlOk = b ∧ (b = false → V = false)) := by
                        intro b hb
                        have e : (o.jolts.take (k + 1)).all jlOk = b := by rw [all_take_succ _ _ _ hlt', HAl.out, hb]; rfl
                        refine ⟨e, ?_⟩
                        rintro rfl
                        rw [HVV.out]
                        exact valid_jl (all_of_take _ _ _ e)
                      rw [em] at n0 n1
                      generalize o.jolts[k] = m at *
                      obtain ⟨x, y⟩ := m
                      simp only at n0 n1
                      replace n0 := (HBb.out.cell lt3).trans n0
                      replace n1 := (HBb.out.cell (p := ⟨g3, k * 2 + 1, none⟩) lt3).trans n1
                      clear em HAl hlt'
                      by_cases e3 : -5 ≤ x ∧ x ≤ 5
                      · by_cases e4 : -5 ≤ y ∧ y ≤ 5
                        · have HV := hid ((HMV.out true (by unfold jlOk within5; simp; omega)).1)
                          go_wp2_with (first | (go_at_call 48; first | (refine (rin_t _ _ _ _ (by omega)).mono ?_; rintro e w3 ⟨rfl, rfl⟩) | (refine (rin_f _ _ _ _ (by omega)).mono ?_; rintro e w3 ⟨rfl, rfl⟩)) | fail)
                          go_roundw
                          case rel => exact ⟨k + 1, by go_num, by omega, HV, trivial⟩
                          case measure => simp [intOf]; omega
                        · have hv := (HMV.out false (by unfold jlOk within5; simp; omega)).2 rfl
                          subst hv
                          go_wp2_with (first | (go_at_call 48; first | (refine (rin_t _ _ _ _ (by omega)).mono ?_; rintro e w3 ⟨rfl, rfl⟩) | (refine (rin_f _ _ _ _ (by omega)).mono ?_; rintro e w3 ⟨rfl, rfl⟩)) | fail)
                          go_ret
                          exact ⟨rfl, HBb.out⟩
                      · have hv := (HMV.out false (by unfold jlOk within5; simp; omega)).2 rfl
                        subst hv
                        go_wp2_with (first | (go_at_call 48; first | (refine (rin_t _ _ _ _ (by omega)).mono ?_; rintro e w3 ⟨rfl, rfl⟩) | (refine (rin_f _ _ _ _ (by omega)).mono ?_; rintro e w3 ⟨rfl, rfl⟩)) | fail)
                        go_ret
                        exact ⟨rfl, HBb.out⟩
                    · obtain rfl : k = J := by omega
                      have HJA : Hid (o.jolts.all jlOk = true) := by
                        have := HAl.out
                        rw [HJ.out, List.take_of_length_le (Nat.le_refl _)] at this
                        exact this
                      have hv : V = true := by
                        rw [HVV.out]
                        exact valid_true ⟨by rw [← HP.out]; exact p1, by rw [← HP.out]; exact p2, by rw [← HM.out]; exact hE, by rw [← HJ.out]; exact j1, by rw [← HJ.out]; exact j2⟩ (by rw [← HR.out]; exact ⟨r1, r2⟩) (by rw [← HC.out]; exact ⟨s1, s2⟩) (by rw [← HP.out, ← HR.out, ← HC.out]; exact HG.out) HMA.out HJA.out
                      subst hv
                      go_wp2
                      go_ret
                      exact ⟨rfl, HBb.out⟩
          · have hv : V = false := by
              rw [HVV.out]; exact valid_lens (fun h => hF (by rw [HJ.out]; exact ⟨h.2.2.2.1, h.2.2.2.2⟩))
            subst hv
            go_enter Tryd.func17, Tryd.ntmps17
            go_wp2_with (first | (go_at_call 48; first | (refine (rin_t _ _ _ _ (by omega)).mono ?_; rintro e w3 ⟨rfl, rfl⟩) | (refine (rin_f _ _ _ _ (by omega)).mono ?_; rintro e w3 ⟨rfl, rfl⟩)) | fail)
            go_ret
            exact ⟨rfl, HB0.out⟩
        · have hv : V = false := by
            rw [HVV.out]; exact valid_lens (fun h => hE (by rw [HM.out]; exact h.2.2.1))
          subst hv
          go_enter Tryd.func17, Tryd.ntmps17
          go_wp2_with (first | (go_at_call 48; first | (refine (rin_t _ _ _ _ (by omega)).mono ?_; rintro e w3 ⟨rfl, rfl⟩) | (refine (rin_f _ _ _ _ (by omega)).mono ?_; rintro e w3 ⟨rfl, rfl⟩)) | fail)
          go_ret
          exact ⟨rfl, HB0.out⟩
      · have hv : V = false := by rw [HVV.out]; exact valid_C (by rw [← HC.out]; exact hD)
        subst hv
        go_enter Tryd.func17, Tryd.ntmps17
        go_wp2_with (first | (go_at_call 48; first | (refine (rin_t _ _ _ _ (by omega)).mono ?_; rintro e w3 ⟨rfl, rfl⟩) | (refine (rin_f _ _ _ _ (by omega)).mono ?_; rintro e w3 ⟨rfl, rfl⟩)) | fail)
        go_ret
        exact ⟨rfl, HB0.out⟩
    · have hv : V = false := by rw [HVV.out]; exact valid_R (by rw [← HR.out]; exact hB)
      subst hv
      go_enter Tryd.func17, Tryd.ntmps17
      go_wp2_with (first | (go_at_call 48; first | (refine (rin_t _ _ _ _ (by omega)).mono ?_; rintro e w3 ⟨rfl, rfl⟩) | (refine (rin_f _ _ _ _ (by omega)).mono ?_; rintro e w3 ⟨rfl, rfl⟩)) | fail)
      go_ret
      exact ⟨rfl, HB0.out⟩
  · have hv : V = false := by rw [HVV.out]; exact valid_lens (fun h => hA (by rw [HP.out]; exact ⟨h.1, h.2.1⟩))
    subst hv
    go_enter Tryd.func17, Tryd.ntmps17
    go_wp2_with (first | (go_at_call 48; first | (refine (rin_t _ _ _ _ (by omega)).mono ?_; rintro e w3 ⟨rfl, rfl⟩) | (refine (rin_f _ _ _ _ (by omega)).mono ?_; rintro e w3 ⟨rfl, rfl⟩)) | fail)
    go_ret
    exact ⟨rfl, HB0.out⟩
end Go.Proofs.YtjonbhimbhidpaaDoor
