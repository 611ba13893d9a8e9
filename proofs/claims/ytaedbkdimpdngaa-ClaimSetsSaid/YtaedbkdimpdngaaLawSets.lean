/-
  The law ClaimSets of chapter 12: its contract.
-/
import Derived.Test.YtaedbkdimpdngaaLawIdeals
namespace Go.Proofs.Ytaedbkdimpdngaa
open Go.RowKit
theorem stabs_eqd (d : Dsp) : d.alls d.stab = d.stabs := rfl
set_option maxRecDepth 100000 in
set_option maxHeartbeats 4000000 in
theorem ClaimSets_ok (n : Int) (vx : Value) (xs : List Pr) (w : World) (hx : ArgPr w vx xs) :
    Calls Try.prog 8 #[.int .i64 n, vx] w fun e w' => e = .returned (.bool true) ∧ Below w.heap.size w w' := by
  have HF := hid (few_any vx xs w hx)
  have hl41 : (xs.take 41).length ≤ 41 := by rw [List.length_take]; omega
  generalize xs.take 41 = l at *
  clear hx
  go_enter Try.func8, Try.ntmps8
  go_upto_region 2 with (first | (go_at_call 16; refine HF.out.mono ?_; rintro e w2 ⟨v2, rfl, hp2, hb2⟩; obtain ⟨na, nn, nc, rfl⟩ := ownP_sh hp2; have HB2 := hid hb2; have HP2 : Hid (∀ w', Below w2.heap.size w2 w' → IsPr w' (.slice na nn nc) l) := (fun w' hb => isPr_below (ownP_isPr hp2 (by omega)) hb); clear hp2 hb2) | fail)
  clear HF hl41
  have VA : Hid (∀ w', Below w2.heap.size w2 w' → Calls Try.prog 19 #[.int .i64 n, .slice na nn nc] w' fun e w'' => e = .returned (.bool (validP n l)) ∧ w'' = w') := fun w' hb => valid_any n _ l w' (HP2.out w' hb)
  cases hva : validP n l with
  | false =>
    have C0 : Hid (∀ w', Below w2.heap.size w2 w' → Calls Try.prog 28 #[.int .i64 n, .slice na nn nc] w' fun e w'' => e = .returned (.tuple #[.slice none 0 0, .int .i64 1]) ∧ Below w'.heap.size w' w'') := fun w' hb => ret_bad (pPreferred_any n _ l w' (HP2.out w' hb)) hva
    have C1 : Hid (∀ w', Below w2.heap.size w2 w' → Calls Try.prog 32 #[.int .i64 n, .slice na nn nc] w' fun e w'' => e = .returned (.tuple #[.slice none 0 0, .int .i64 1]) ∧ Below w'.heap.size w' w'') := fun w' hb => ret_bad (pStable_any n _ l w' (HP2.out w' hb)) hva
    have C2 : Hid (∀ w', Below w2.heap.size w2 w' → Calls Try.prog 29 #[.int .i64 n, .slice na nn nc] w' fun e w'' => e = .returned (.tuple #[.slice none 0 0, .int .i64 1]) ∧ Below w'.heap.size w' w'') := fun w' hb => ret_bad (pComplete_any n _ l w' (HP2.out w' hb)) hva
    have C3 : Hid (∀ w', Below w2.heap.size w2 w' → Calls Try.prog 35 #[.int .i64 n, .slice na nn nc] w' fun e w'' => e = .returned (.tuple #[.slice none 0 0, .int .i64 1]) ∧ Below w'.heap.size w' w'') := fun w' hb => ret_bad (pSemi_any n _ l w' (HP2.out w' hb)) hva
    rw [hva] at VA
    clear hva HP2
    have HB30 := hid (Below.refl w2.heap.size w2)
    go_wp2_with (first
      | (go_at_call 28; refine (C0.out _ HB30.out).mono ?_; rintro e w31 ⟨rfl, hb3⟩; have HB31 := hid (below_step HB30.out hb3); clear hb3)
      | (go_at_call 32; refine (C1.out _ HB31.out).mono ?_; rintro e w32 ⟨rfl, hb3⟩; have HB32 := hid (below_step HB31.out hb3); clear hb3)
      | (go_at_call 29; refine (C2.out _ HB32.out).mono ?_; rintro e w33 ⟨rfl, hb3⟩; have HB33 := hid (below_step HB32.out hb3); clear hb3)
      | (go_at_call 35; refine (C3.out _ HB33.out).mono ?_; rintro e w34 ⟨rfl, hb3⟩; have HB34 := hid (below_step HB33.out hb3); clear hb3)
      | (go_at_call 19; refine (VA.out _ HB34.out).mono ?_; rintro e w4 ⟨rfl, rfl⟩)
      | (go_at_call 20; refine (lives_any _).mono ?_; rintro e w5 ⟨rfl, hb5⟩; have HB5 := hid (below_step HB34.out hb5); clear hb5)
      | fail)
    go_ret
    exact ⟨rfl, below_step HB2.out HB5.out⟩
  | true =>
    obtain ⟨hn1, hn12⟩ := valid_n hva
    obtain ⟨m, rfl⟩ : ∃ m : Nat, n = (m : Int) := ⟨n.toNat, by omega⟩
    have C0 : Hid (∀ w', Below w2.heap.size w2 w' → Calls Try.prog 28 #[.int .i64 (m : Int), .slice na nn nc] w' fun e w'' => ∃ a k c, e = .returned (.tuple #[.slice a k c, .int .i64 0]) ∧ IsLL w'' (.slice a k c) (lists (dsp m l).pref) ∧ k = (dsp m l).pref.length ∧ Below w'.heap.size w' w'') := fun w' hb => retLL_ok (w0 := w') (pPreferred_any _ _ _ w' (HP2.out w' hb)) hva
    have C1 : Hid (∀ w', Below w2.heap.size w2 w' → Calls Try.prog 32 #[.int .i64 (m : Int), .slice na nn nc] w' fun e w'' => ∃ a k c, e = .returned (.tuple #[.slice a k c, .int .i64 0]) ∧ IsLL w'' (.slice a k c) (lists (dsp m l).stabs) ∧ k = (dsp m l).stabs.length ∧ Below w'.heap.size w' w'') := fun w' hb => retLL_ok (w0 := w') (pStable_any _ _ _ w' (HP2.out w' hb)) hva
    have C2 : Hid (∀ w', Below w2.heap.size w2 w' → Calls Try.prog 29 #[.int .i64 (m : Int), .slice na nn nc] w' fun e w'' => ∃ a k c, e = .returned (.tuple #[.slice a k c, .int .i64 0]) ∧ IsLL w'' (.slice a k c) (lists (dsp m l).comps) ∧ k = (dsp m l).comps.length ∧ Below w'.heap.size w' w'') := fun w' hb => retLL_ok (w0 := w') (pComplete_any _ _ _ w' (HP2.out w' hb)) hva
    have C3 : Hid (∀ w', Below w2.heap.size w2 w' → Calls Try.prog 35 #[.int .i64 (m : Int), .slice na nn nc] w' fun e w'' => ∃ a k c, e = .returned (.tuple #[.slice a k c, .int .i64 0]) ∧ IsLL w'' (.slice a k c) (lists (dsp m l).semis) ∧ k = (dsp m l).semis.length ∧ Below w'.heap.size w' w'') := fun w' hb => retLL_ok (w0 := w') (pSemi_any _ _ _ w' (HP2.out w' hb)) hva
    have CO : Hid (∀ w', Below w2.heap.size w2 w' → Calls Try.prog 21 #[.int .i64 (m : Int), .slice na nn nc] w' fun e w'' => ∃ b1 b2, e = .returned (Dv b1 b2 (dsp m l)) ∧ RDd w'' b1 b2 (dsp m l) ∧ Below w'.heap.size w' w'') := fun w' hb => rOf_any m _ l w' (HP2.out w' hb) hva
    have hd12 : (dsp m l).n ≤ 12 := by show m ≤ 12; omega
    rw [hva] at VA
    clear hva HP2 hn1 hn12
    generalize dsp m l = d at *
    have SM : Hid (∀ spec : Dsp → List Nat, Small spec → (∀ s, s ∈ spec d → s < 2 ^ 16) ∧ (spec d).length ≤ 5000) := fun spec hs => ⟨fun s h => Nat.lt_trans ((hs d hd12).1 s h) (by decide), (hs d hd12).2⟩
    have HB30 := hid (Below.refl w2.heap.size w2)
    go_upto_region 8 with (first
      | (go_at_call 28; refine (C0.out _ HB30.out).mono ?_; rintro e w31 ⟨a0, k0, c0, rfl, hi, -, hb3⟩; have HI0 := hid hi; have HQ0 := hid hb3; have HB31 := hid (below_step HB30.out hb3); clear hi hb3)
      | (go_at_call 32; refine (C1.out _ HB31.out).mono ?_; rintro e w32 ⟨a1, k1, c1, rfl, hi, -, hb3⟩; have HI1 := hid hi; have HQ1 := hid hb3; have HB32 := hid (below_step HB31.out hb3); clear hi hb3)
      | (go_at_call 29; refine (C2.out _ HB32.out).mono ?_; rintro e w33 ⟨a2, k2, c2, rfl, hi, -, hb3⟩; have HI2 := hid hi; have HQ2 := hid hb3; have HB33 := hid (below_step HB32.out hb3); clear hi hb3)
      | (go_at_call 35; refine (C3.out _ HB33.out).mono ?_; rintro e w34 ⟨a3, k3, c3, rfl, hi, -, hb3⟩; have HI3 := hid hi; have HQ3 := hid hb3; have HB34 := hid (below_step HB33.out hb3); clear hi hb3)
      | (go_at_call 19; refine (VA.out _ HB34.out).mono ?_; rintro e w4 ⟨rfl, rfl⟩)
      | fail)
    have HQ43 := hid HQ3.out
    have HQ42 := hid (below_step HQ2.out HQ43.out)
    have HQ41 := hid (below_step HQ1.out HQ42.out)
    have HJ0 : Hid (∀ w', Below w4.heap.size w4 w' → IsLL w' (.slice a0 k0 c0) (lists d.pref)) := fun w' hb => isLL_below HI0.out (below_step HQ41.out hb)
    have HJ1 : Hid (∀ w', Below w4.heap.size w4 w' → IsLL w' (.slice a1 k1 c1) (lists d.stabs)) := fun w' hb => isLL_below HI1.out (below_step HQ42.out hb)
    have HJ2 : Hid (∀ w', Below w4.heap.size w4 w' → IsLL w' (.slice a2 k2 c2) (lists d.comps)) := fun w' hb => isLL_below HI2.out (below_step HQ43.out hb)
    have HJ3 : Hid (∀ w', Below w4.heap.size w4 w' → IsLL w' (.slice a3 k3 c3) (lists d.semis)) := fun w' hb => isLL_below HI3.out hb
    clear C0 C1 C2 C3 HI0 HI1 HI2 HI3 HQ0 HQ1 HQ2 HQ3 HQ41 HQ42 HQ43 VA
    go_upto_region 9 with (first | (go_at_call 21; refine (CO.out _ HB34.out).mono ?_; rintro e w5 ⟨b1, b2, rfl, hr5, hb5⟩; unfold Dv; have HR5 := hid hr5; have HB5 := hid hb5; clear hr5 hb5) | fail)
    have HD := hid (heap_alloc_new w5 (.cells #[.int .i64 (d.n : Int), .slice (some ⟨b1, 0, none⟩) d.n d.n, .slice (some ⟨b2, 0, none⟩) d.n d.n] 34))
    have HB6 := hid (ba w5 (.cells #[.int .i64 (d.n : Int), .slice (some ⟨b1, 0, none⟩) d.n d.n, .slice (some ⟨b2, 0, none⟩) d.n d.n] 34))
    obtain ⟨D, hD⟩ : ∃ D, D = w5.heap.size := ⟨_, rfl⟩
    obtain ⟨wd, hwd⟩ : ∃ v, v = w5.alloc (.cells #[.int .i64 (d.n : Int), .slice (some ⟨b1, 0, none⟩) d.n d.n, .slice (some ⟨b2, 0, none⟩) d.n d.n] 34) := ⟨_, rfl⟩
    rw [← hwd] at HD HB6 ⊢
    rw [← hD] at HD ⊢
    have HB6' := HB6
    have KD : Hid (∀ w', Below wd.heap.size wd w' → w'.cell? ⟨D, 0, none⟩ = some (.int .i64 (d.n : Int)) ∧ w'.cell? ⟨D, 1, none⟩ = some (.slice (some ⟨b1, 0, none⟩) d.n d.n) ∧ w'.cell? ⟨D, 2, none⟩ = some (.slice (some ⟨b2, 0, none⟩) d.n d.n)) := fun w' hb => cells3_of ((hb.block _ (heap_lt HD.out)).trans HD.out)
    have HRd : Hid (∀ w', Below wd.heap.size wd w' → RDd w' b1 b2 d) := fun w' hb => rdd_below HR5.out (below_step HB6'.out hb)
    have HBd := hid (below_step HB5.out HB6'.out)
    clear hD hwd HB6 HB6' HB5 HR5 HD
    have S0 : Hid (∀ w', Below wd.heap.size wd w' → Calls Try.prog 37 #[.agg #[.int .i64 (d.n : Int), .slice (some ⟨b1, 0, none⟩) d.n d.n, .slice (some ⟨b2, 0, none⟩) d.n d.n], .int .i64 2] w' fun e w'' => ∃ v, e = .returned v ∧ OwnV w'' w'.heap.size 3 v (d.pref.map iv) ∧ Below w'.heap.size w' w'') := fun w' hb => rSets2_any b1 b2 d w' (HRd.out w' hb)
    have L0 : Hid (∀ w' v, OwnV w' 0 3 v (d.pref.map iv) → Calls Try.prog 36 #[v] w' fun e w'' => ∃ u, e = .returned u ∧ IsLL w'' u (lists d.pref) ∧ Below w'.heap.size w' w'') := fun w' v hv => rLists_any v d.pref w' (ownV_isV hv (by rw [List.length_map]; have := (SM.out Dsp.pref small_pref).2; omega)) (SM.out Dsp.pref small_pref).1 (SM.out Dsp.pref small_pref).2
    have T0 : Hid (∀ w' u, Below wd.heap.size wd w' → IsLL w' u (lists d.pref) → Calls Try.prog 30 #[.slice a0 k0 c0, u] w' fun e w'' => e = .returned (.bool true) ∧ Below w'.heap.size w' w'') := fun w' u hb hu => by
      have h := same_any _ _ _ _ w' (HJ0.out w' (below_step HBd.out hb)) hu
      rw [beq_self_eq_true] at h
      exact h
    have S1 : Hid (∀ w', Below wd.heap.size wd w' → Calls Try.prog 37 #[.agg #[.int .i64 (d.n : Int), .slice (some ⟨b1, 0, none⟩) d.n d.n, .slice (some ⟨b2, 0, none⟩) d.n d.n], .int .i64 3] w' fun e w'' => ∃ v, e = .returned v ∧ OwnV w'' w'.heap.size 3 v (d.stabs.map iv) ∧ Below w'.heap.size w' w'') := fun w' hb => rSets3_any b1 b2 d w' (HRd.out w' hb)
    have L1 : Hid (∀ w' v, OwnV w' 0 3 v (d.stabs.map iv) → Calls Try.prog 36 #[v] w' fun e w'' => ∃ u, e = .returned u ∧ IsLL w'' u (lists d.stabs) ∧ Below w'.heap.size w' w'') := fun w' v hv => rLists_any v d.stabs w' (ownV_isV hv (by rw [List.length_map]; have := (SM.out Dsp.stabs small_stabs).2; omega)) (SM.out Dsp.stabs small_stabs).1 (SM.out Dsp.stabs small_stabs).2
    have T1 : Hid (∀ w' u, Below wd.heap.size wd w' → IsLL w' u (lists d.stabs) → Calls Try.prog 30 #[.slice a1 k1 c1, u] w' fun e w'' => e = .returned (.bool true) ∧ Below w'.heap.size w' w'') := fun w' u hb hu => by
      have h := same_any _ _ _ _ w' (HJ1.out w' (below_step HBd.out hb)) hu
      rw [beq_self_eq_true] at h
      exact h
    have S2 : Hid (∀ w', Below wd.heap.size wd w' → Calls Try.prog 37 #[.agg #[.int .i64 (d.n : Int), .slice (some ⟨b1, 0, none⟩) d.n d.n, .slice (some ⟨b2, 0, none⟩) d.n d.n], .int .i64 1] w' fun e w'' => ∃ v, e = .returned v ∧ OwnV w'' w'.heap.size 3 v (d.comps.map iv) ∧ Below w'.heap.size w' w'') := fun w' hb => rSets1_any b1 b2 d w' (HRd.out w' hb)
    have L2 : Hid (∀ w' v, OwnV w' 0 3 v (d.comps.map iv) → Calls Try.prog 36 #[v] w' fun e w'' => ∃ u, e = .returned u ∧ IsLL w'' u (lists d.comps) ∧ Below w'.heap.size w' w'') := fun w' v hv => rLists_any v d.comps w' (ownV_isV hv (by rw [List.length_map]; have := (SM.out Dsp.comps small_comps).2; omega)) (SM.out Dsp.comps small_comps).1 (SM.out Dsp.comps small_comps).2
    have T2 : Hid (∀ w' u, Below wd.heap.size wd w' → IsLL w' u (lists d.comps) → Calls Try.prog 30 #[.slice a2 k2 c2, u] w' fun e w'' => e = .returned (.bool true) ∧ Below w'.heap.size w' w'') := fun w' u hb hu => by
      have h := same_any _ _ _ _ w' (HJ2.out w' (below_step HBd.out hb)) hu
      rw [beq_self_eq_true] at h
      exact h
    have S3 : Hid (∀ w', Below wd.heap.size wd w' → Calls Try.prog 37 #[.agg #[.int .i64 (d.n : Int), .slice (some ⟨b1, 0, none⟩) d.n d.n, .slice (some ⟨b2, 0, none⟩) d.n d.n], .int .i64 4] w' fun e w'' => ∃ v, e = .returned v ∧ OwnV w'' w'.heap.size 3 v (d.semis.map iv) ∧ Below w'.heap.size w' w'') := fun w' hb => rSets4_any b1 b2 d w' (HRd.out w' hb)
    have L3 : Hid (∀ w' v, OwnV w' 0 3 v (d.semis.map iv) → Calls Try.prog 36 #[v] w' fun e w'' => ∃ u, e = .returned u ∧ IsLL w'' u (lists d.semis) ∧ Below w'.heap.size w' w'') := fun w' v hv => rLists_any v d.semis w' (ownV_isV hv (by rw [List.length_map]; have := (SM.out Dsp.semis small_semis).2; omega)) (SM.out Dsp.semis small_semis).1 (SM.out Dsp.semis small_semis).2
    have T3 : Hid (∀ w' u, Below wd.heap.size wd w' → IsLL w' u (lists d.semis) → Calls Try.prog 30 #[.slice a3 k3 c3, u] w' fun e w'' => e = .returned (.bool true) ∧ Below w'.heap.size w' w'') := fun w' u hb hu => by
      have h := same_any _ _ _ _ w' (HJ3.out w' (below_step HBd.out hb)) hu
      rw [beq_self_eq_true] at h
      exact h
    clear HJ0 HJ1 HJ2 HJ3 SM CO HRd
    have HE0 := hid (Below.refl wd.heap.size wd)
    obtain ⟨x00, x01, x02⟩ := KD.out wd HE0.out
    go_wp2_with (first
      | (go_at_call 37; with_reducible refine (S0.out _ HE0.out).mono ?_; rintro e wa0 ⟨v0, rfl, ho, hb⟩; have HV0 := hid (ownV_mono ho (Nat.zero_le _)); have HEa0 := hid (below_step HE0.out hb); clear ho hb)
      | (go_at_call 36; with_reducible refine (L0.out _ _ HV0.out).mono ?_; rintro e wb0 ⟨u0, rfl, hu, hb⟩; have HU0 := hid hu; have HEb0 := hid (below_step HEa0.out hb); clear hu hb)
      | (go_at_call 30; with_reducible refine (T0.out _ _ HEb0.out HU0.out).mono ?_; rintro e wc0 ⟨rfl, hb⟩; have HE1 := hid (below_step HEb0.out hb); obtain ⟨x10, x11, x12⟩ := KD.out _ HE1.out; clear hb)
      | (go_at_call 37; with_reducible refine (S1.out _ HE1.out).mono ?_; rintro e wa1 ⟨v1, rfl, ho, hb⟩; have HV1 := hid (ownV_mono ho (Nat.zero_le _)); have HEa1 := hid (below_step HE1.out hb); clear ho hb)
      | (go_at_call 36; with_reducible refine (L1.out _ _ HV1.out).mono ?_; rintro e wb1 ⟨u1, rfl, hu, hb⟩; have HU1 := hid hu; have HEb1 := hid (below_step HEa1.out hb); clear hu hb)
      | (go_at_call 30; with_reducible refine (T1.out _ _ HEb1.out HU1.out).mono ?_; rintro e wc1 ⟨rfl, hb⟩; have HE2 := hid (below_step HEb1.out hb); obtain ⟨x20, x21, x22⟩ := KD.out _ HE2.out; clear hb)
      | (go_at_call 37; with_reducible refine (S2.out _ HE2.out).mono ?_; rintro e wa2 ⟨v2, rfl, ho, hb⟩; have HV2 := hid (ownV_mono ho (Nat.zero_le _)); have HEa2 := hid (below_step HE2.out hb); clear ho hb)
      | (go_at_call 36; with_reducible refine (L2.out _ _ HV2.out).mono ?_; rintro e wb2 ⟨u2, rfl, hu, hb⟩; have HU2 := hid hu; have HEb2 := hid (below_step HEa2.out hb); clear hu hb)
      | (go_at_call 30; with_reducible refine (T2.out _ _ HEb2.out HU2.out).mono ?_; rintro e wc2 ⟨rfl, hb⟩; have HE3 := hid (below_step HEb2.out hb); obtain ⟨x30, x31, x32⟩ := KD.out _ HE3.out; clear hb)
      | (go_at_call 37; with_reducible refine (S3.out _ HE3.out).mono ?_; rintro e wa3 ⟨v3, rfl, ho, hb⟩; have HV3 := hid (ownV_mono ho (Nat.zero_le _)); have HEa3 := hid (below_step HE3.out hb); clear ho hb)
      | (go_at_call 36; with_reducible refine (L3.out _ _ HV3.out).mono ?_; rintro e wb3 ⟨u3, rfl, hu, hb⟩; have HU3 := hid hu; have HEb3 := hid (below_step HEa3.out hb); clear hu hb)
      | (go_at_call 30; with_reducible refine (T3.out _ _ HEb3.out HU3.out).mono ?_; rintro e wc3 ⟨rfl, hb⟩; have HE4 := hid (below_step HEb3.out hb); obtain ⟨x40, x41, x42⟩ := KD.out _ HE4.out; clear hb)
      | (go_at_call 20; refine (lives_any _).mono ?_; rintro e w9 ⟨rfl, hb9⟩; have HE9 := hid (below_step HE4.out hb9); clear hb9)
      | fail)
    go_ret
    exact ⟨rfl, below_step HB2.out (below_step HB34.out (below_step HBd.out HE9.out))⟩
end Go.Proofs.Ytaedbkdimpdngaa
