/-
  The reference of chapter 12: all rings, the first of the shortest odd ones (56, 26).
-/
import Derived.Test.YtaedbkdimpdngaaWalkAI
namespace Go.Proofs.Ytaedbkdimpdngaa
open Go.RowKit
theorem ownV_oneI {u : World} {g : Nat} {x : Int} (h : u.heap[g]? = some (.cells #[.int .i64 x] 3)) : OwnV u 0 3 (.slice (some ⟨g, 0, none⟩) 1 1) [.int .i64 x] :=
  ⟨by simp, .inr ⟨g, 1, #[.int .i64 x], by simp, Nat.zero_le _, h, by simp, by unfold maxLen; omega, by simp, by simp⟩⟩
set_option maxRecDepth 100000 in
set_option maxHeartbeats 4000000 in
theorem rRings_any (b1 b2 : Nat) (d : Dsp) (w : World) (h : RDd w b1 b2 d) (hn8 : d.n ≤ 8) :
    Calls Try.prog 56 #[Dv b1 b2 d] w fun e w' => ∃ v us, e = .returned v ∧ OwnLL w' w.heap.size v us d.rings ∧ Below w.heap.size w w' := by
  have RR : Hid (∀ (hh : Nat) (v way : Value) (us : List Value) (Ls : List (List Nat)) (w' : World), hh < d.n → Below w.heap.size w w' → OwnLL w' w.heap.size v us Ls → OwnV w' 0 3 way ([hh].map iv) → Ls.length + (d.rgs hh d.n []).length ≤ 200000 → Calls Try.prog 76 #[.agg #[.int .i64 (d.n : Int), .slice (some ⟨b1, 0, none⟩) d.n d.n, .slice (some ⟨b2, 0, none⟩) d.n d.n], way, .int .i64 ((usd [hh] : Nat) : Int), v] w' fun e w'' => ∃ v' us', e = .returned v' ∧ OwnLL w'' w.heap.size v' us' (Ls ++ d.rgs hh d.n []) ∧ Out w' v w'' v') := fun hh v way us Ls w' h1 h2 h3 h4 h5 => rrings_any w b1 b2 d h hh d.n [] v way us Ls w' (part_nil d h1) (by simp) h2 h3 h4 h5
  have HTOT : Hid (((List.range d.n).flatMap (fun a => d.rgs a d.n [])).length ≤ 200000) := rings_len d hn8
  have HZ0 := hid (heap_alloc_new w (.cells #[.int .i64 (d.n : Int), .slice (some ⟨b1, 0, none⟩) d.n d.n, .slice (some ⟨b2, 0, none⟩) d.n d.n] 34))
  have HB0 := hid (ba w (.cells #[.int .i64 (d.n : Int), .slice (some ⟨b1, 0, none⟩) d.n d.n, .slice (some ⟨b2, 0, none⟩) d.n d.n] 34))
  clear h
  unfold Dv
  go_enter Try.func56, Try.ntmps56
  go_upto_region 1 with fail
  obtain ⟨w1, hw1⟩ : ∃ v, v = w.alloc (.cells #[.int .i64 (d.n : Int), .slice (some ⟨b1, 0, none⟩) d.n d.n, .slice (some ⟨b2, 0, none⟩) d.n d.n] 34) := ⟨_, rfl⟩
  rw [← hw1] at HZ0 HB0 ⊢
  clear hw1
  go_upto_region 3 with fail
  have HL0 : Hid (OwnLL (w1.alloc (.cells #[] 24)) w.heap.size (.slice (some ⟨w1.heap.size, 0, none⟩) 0 0) [] ((List.range 0).flatMap (fun a => d.rgs a d.n []))) := ⟨rfl, ownV_made w1 w.heap.size 24 HB0.out.size, fun j hj => absurd hj (Nat.not_lt_zero _)⟩
  have HZ1 := hid (((ba w1 (.cells #[] 24)).block _ (heap_lt HZ0.out)).trans HZ0.out)
  have HB1 := hid (HB0.out.trans ((ba w1 (.cells #[] 24)).mono HB0.out.size))
  clear HZ0 HB0
  go_loopw [4, 3] (fun av ov wr => ∃ (a : Nat) (usr : List Value), av = .int .i64 (a : Int) ∧ a ≤ d.n ∧ Hid (OwnLL wr w.heap.size ov usr ((List.range a).flatMap (fun a => d.rgs a d.n []))) ∧ Hid (wr.heap[w.heap.size]? = some (.cells #[.int .i64 (d.n : Int), .slice (some ⟨b1, 0, none⟩) d.n d.n, .slice (some ⟨b2, 0, none⟩) d.n d.n] 34)) ∧ Hid (Below w.heap.size w wr)) (fun av _ _ => d.n - (intOf av).toNat)
  case atStart => exact ⟨0, [], rfl, Nat.zero_le _, HL0, HZ1, HB1⟩
  case round =>
    obtain ⟨a, usr, rfl, ha, HLr, HZr, HBr⟩ := hrel
    rename World => wr
    obtain ⟨ov, hov⟩ : ∃ ov, ov = u3 := ⟨_, rfl⟩
    rw [← hov] at HLr ⊢
    clear hov HL0 HZ1 HB1
    obtain ⟨x0, x1, x2⟩ := cells3_of HZr.out
    by_cases hlt : a < d.n
    · have HFS : Hid ((List.range (a + 1)).flatMap (fun a => d.rgs a d.n []) = (List.range a).flatMap (fun a => d.rgs a d.n []) ++ d.rgs a d.n []) := flat_succ _ a
      have HTA : Hid (((List.range a).flatMap (fun a => d.rgs a d.n [])).length + (d.rgs a d.n []).length ≤ 200000) := by
        have h2 := flat_prefix (fun a => d.rgs a d.n []) (b := a + 1) (n := d.n) hlt
        have h3 := congrArg List.length HFS.out
        have h4 := HTOT.out
        rw [List.length_append] at h3
        show _ ≤ _
        omega
      obtain ⟨pw, hpw⟩ : ∃ p, p = 2 ^ a := ⟨_, rfl⟩
      have HSH : Hid (IntKind.i64.wrap (2 ^ a) = (pw : Int)) := by rw [hpw]; exact wrap64 (show a < 62 by omega)
      have HUA : usd [a] = pw := by rw [hpw]; show 0 ||| 2 ^ a = 2 ^ a; exact Nat.zero_or _
      have RC : Hid (∀ (v way : Value) (us : List Value) (Ls : List (List Nat)) (w' : World), Below w.heap.size w w' → OwnLL w' w.heap.size v us Ls → OwnV w' 0 3 way [.int .i64 (a : Int)] → Ls.length + (d.rgs a d.n []).length ≤ 200000 → Calls Try.prog 76 #[.agg #[.int .i64 (d.n : Int), .slice (some ⟨b1, 0, none⟩) d.n d.n, .slice (some ⟨b2, 0, none⟩) d.n d.n], way, .int .i64 (pw : Int), v] w' fun e w'' => ∃ v' us', e = .returned v' ∧ OwnLL w'' w.heap.size v' us' (Ls ++ d.rgs a d.n []) ∧ Out w' v w'' v') := fun v way us Ls w' h1 h2 h3 h4 => by
        rw [← HUA]
        exact RR.out a v way us Ls w' hlt h1 h2 h3 h4
      have KW : Hid (∀ w', Below wr.heap.size wr w' → w'.cell? ⟨w.heap.size, 0, none⟩ = some (.int .i64 (d.n : Int)) ∧ w'.cell? ⟨w.heap.size, 1, none⟩ = some (.slice (some ⟨b1, 0, none⟩) d.n d.n) ∧ w'.cell? ⟨w.heap.size, 2, none⟩ = some (.slice (some ⟨b2, 0, none⟩) d.n d.n)) := fun w' hb => cells3_of ((hb.block _ (heap_lt HZr.out)).trans HZr.out)
      have hb0 : (0 : Int) ≤ (a : Int) := by omega
      have hb64 : (a : Int) < 64 := by omega
      clear hpw HUA
      go_upto_region 5 with fail
      clear x0 x1 x2
      refine wp_region_held_drew (S := fun w' => w'.cell? ⟨w.heap.size, 0, none⟩ = some (.int .i64 (d.n : Int)) ∧ w'.cell? ⟨w.heap.size, 1, none⟩ = some (.slice (some ⟨b1, 0, none⟩) d.n d.n) ∧ w'.cell? ⟨w.heap.size, 2, none⟩ = some (.slice (some ⟨b2, 0, none⟩) d.n d.n)) (by kernel_rfl) (KW.out _ ((Below.refl _ _).drew)) (fun hHeld => ?_)
      have HU0 : Hid (Below wr.heap.size wr wr.drew) := (Below.refl _ _).drew
      generalize wr.drew = u0 at *
      refine take_at (i := 0) 12 (v := .agg #[.int .i64 (d.n : Int), .slice (some ⟨b1, 0, none⟩) d.n d.n, .slice (some ⟨b2, 0, none⟩) d.n d.n]) rfl (by kernel_rfl) (by kernel_rfl) (by kernel_rfl) rfl (fun _ _ _ h => h) (by rfl) (fun w hSw => ?_) hHeld ?_
      · (try dsimp only at hSw); go_simp
      simp only [Act.put, List.setIfInBounds_toArray, List.set_cons_zero, List.set_cons_succ]
      refine take_at (i := 1) 13 (v := .int .i64 (a : Int)) rfl (by kernel_rfl) (by kernel_rfl) (by kernel_rfl) rfl (fun _ _ _ h => h) (by rfl) (fun w hSw => ?_) hHeld ?_
      · (try dsimp only at hSw); go_simp
      simp only [Act.put, List.setIfInBounds_toArray, List.set_cons_zero, List.set_cons_succ]
      refine take_at (i := 3) 15 (v := .int .i64 (a : Int)) rfl (by kernel_rfl) (by kernel_rfl) (by kernel_rfl) rfl (fun _ _ _ h => h) (by rfl) (fun w hSw => ?_) hHeld ?_
      · (try dsimp only at hSw); go_simp
      simp only [Act.put, List.setIfInBounds_toArray, List.set_cons_zero, List.set_cons_succ]
      refine take_at (i := 4) 16 (v := .int .i64 (pw : Int)) rfl (by kernel_rfl) (by kernel_rfl) (by kernel_rfl) rfl (fun _ _ _ h => h) (by rfl) (fun w hSw => ?_) hHeld ?_
      · (try dsimp only at hSw); go_simp; first | done | exact HSH.out | (rw [HSH.out])
      simp only [Act.put, List.setIfInBounds_toArray, List.set_cons_zero, List.set_cons_succ]
      refine take_at (i := 5) 17 (v := ov) rfl (by kernel_rfl) (by kernel_rfl) (by kernel_rfl) rfl (fun _ _ _ h => h) (by rfl) (fun w hSw => ?_) hHeld ?_
      · (try dsimp only at hSw); go_simp
      simp only [Act.put, List.setIfInBounds_toArray, List.set_cons_zero, List.set_cons_succ]
      refine wpAnyH_ready (rs := [2]) (by kernel_rfl) (by simp) ?_
      refine node_build24 14 13 (a : Int) rfl (by rfl) rfl rfl rfl (KW.out _ (Below.alloc HU0.out (Below.size HU0.out) _)) (fun hHeld => ?_) AllReadyH.nil
      · have HU1 := hid (Below.alloc HU0.out (Below.size HU0.out) (.cells #[.int .i64 (a : Int)] 3))
        have GB := hid (heap_alloc_new u0 (.cells #[.int .i64 (a : Int)] 3))
        obtain ⟨u1, hu⟩ : ∃ v, v = u0.alloc (.cells #[.int .i64 (a : Int)] 3) := ⟨_, rfl⟩
        obtain ⟨b9, hb9⟩ : ∃ b, b = u0.heap.size := ⟨_, rfl⟩
        rw [← hu] at HU1 GB ⊢
        rw [← hb9] at GB ⊢
        replace hHeld := KW.out _ HU1.out
        clear hu hb9
        simp only [Act.put, List.setIfInBounds_toArray, List.set_cons_zero, List.set_cons_succ]
        refine wpAnyH_ready (rs := [6]) (by kernel_rfl) (by simp) ?_
        refine node_f76 18 12 14 16 17 _ _ _ _ rfl (by rfl) rfl rfl rfl rfl rfl rfl ((RC.out ov (.slice (some ⟨b9, 0, none⟩) 1 1) usr _ u1 (HBr.out.trans (HU1.out.mono HBr.out.size)) (ownLL_below HLr.out HU1.out) (ownV_oneI GB.out) HTA.out).mono ?_) AllReadyH.nil
        · rintro e u2 ⟨v7, us7, rfl, hl7, ho7⟩
          have HL7 := hid hl7
          have HO7 := hid (Out.trans (Out.below ov HU1.out) ho7)
          have hHeld := cells3_of (Out.box HO7.out HLr.out.2.1 HZr.out)
          refine ⟨_, rfl, hHeld, ?_⟩
          clear hl7 ho7
          simp only [Act.put, List.setIfInBounds_toArray, List.set_cons_zero, List.set_cons_succ]
          refine take_at (i := 7) 3 (v := v7) rfl (by kernel_rfl) (by kernel_rfl) (by kernel_rfl) rfl (fun _ _ _ h => h) (by rfl) (fun w hSw => ?_) hHeld ?_
          · (try dsimp only at hSw); go_simp
          simp only [Act.put, List.setIfInBounds_toArray, List.set_cons_zero, List.set_cons_succ]
          refine wpAnyH_done (by kernel_rfl) ?_ _
          clear hHeld
          generalize u2 = wn at *
          go_wp2_with fail
          go_roundw
          case rel => exact ⟨a + 1, us7, by go_num, by omega, by rw [HFS.out]; exact HL7.out, Out.box HO7.out HLr.out.2.1 HZr.out, Out.to_below HO7.out HBr.out HLr.out.2.1 HBr.out.size⟩
          case measure => simp [intOf]; omega
    · have hae : a = d.n := by omega
      have HF : Hid (OwnLL wr w.heap.size ov usr d.rings) := by
        have h := HLr.out
        rw [hae] at h
        exact h
      clear HLr
      go_wp2_with fail
      go_ret
      exact ⟨_, _, rfl, HF.out, HBr.out⟩
theorem best_snoc (l : List (List Nat)) (i : Nat) (h : i < l.length) : bestOf (l.take (i + 1)) = if (l.getD i []).length % 2 == 1 && better (l.getD i []) (bestOf (l.take i)) then some (l.getD i []) else bestOf (l.take i) := by
  rw [List.take_succ_eq_append_getElem h, List.getD_eq_getElem?_getD, List.getElem?_eq_getElem h]
  unfold bestOf
  rw [List.foldl_append]
  rfl
/-- the best so far: its value -/
def BV (w : World) (v : Value) : Option (List Nat) → Prop
  | none => v = .slice none 0 0
  | some x => 0 < x.length ∧ x.length ≤ 8 ∧ ∃ g c, v = .slice (some ⟨g, 0, none⟩) x.length c ∧ IsV w v (x.map iv)
theorem bv_below {w w' : World} {v : Value} {o : Option (List Nat)} (h : BV w v o) (hb : Below w.heap.size w w') : BV w' v o := by
  cases o with
  | none => exact h
  | some x =>
    obtain ⟨h0, h8, g, c, e, hv⟩ := h
    exact ⟨h0, h8, g, c, e, isV_below hv hb⟩
set_option maxRecDepth 100000 in
set_option maxHeartbeats 4000000 in
theorem rOdd_any (b1 b2 : Nat) (d : Dsp) (w : World) (h : RDd w b1 b2 d) (hn8 : d.n ≤ 8) :
    Calls Try.prog 26 #[Dv b1 b2 d] w fun e w' => ∃ v, e = .returned v ∧ BV w' v d.odd ∧ Below w.heap.size w w' := by
  have HC : Hid (∀ w', Below w.heap.size w w' → Calls Try.prog 56 #[.agg #[.int .i64 (d.n : Int), .slice (some ⟨b1, 0, none⟩) d.n d.n, .slice (some ⟨b2, 0, none⟩) d.n d.n]] w' fun e w'' => ∃ v us, e = .returned v ∧ OwnLL w'' w'.heap.size v us d.rings ∧ Below w'.heap.size w' w'') := fun w' hb => rRings_any b1 b2 d w' (rdd_below h hb) hn8
  have LE : Hid (∀ u v x y w', IsV w' u (x.map iv) → IsV w' v (y.map iv) → Calls Try.prog 57 #[u, v] w' fun e w'' => e = .returned (.bool (ltL x y)) ∧ Below w'.heap.size w' w'') := fun u v x y w' h1 h2 => less_any u v x y w' h1 h2
  have HB0 : Hid (Below w.heap.size w (w.alloc (.cells #[.int .i64 (d.n : Int), .slice (some ⟨b1, 0, none⟩) d.n d.n, .slice (some ⟨b2, 0, none⟩) d.n d.n] 34))) := ba w _
  have hz := heap_alloc_new w (.cells #[.int .i64 (d.n : Int), .slice (some ⟨b1, 0, none⟩) d.n d.n, .slice (some ⟨b2, 0, none⟩) d.n d.n] 34)
  have HR := hid (rdd_below h HB0.out)
  obtain ⟨hn1, hn12, -⟩ := id h
  clear h
  obtain ⟨w0, hw0⟩ : ∃ w0, w0 = w.alloc (.cells #[.int .i64 (d.n : Int), .slice (some ⟨b1, 0, none⟩) d.n d.n, .slice (some ⟨b2, 0, none⟩) d.n d.n] 34) := ⟨_, rfl⟩
  rw [← hw0] at HB0 HR hz
  have HW0 := hid hw0
  clear hw0
  have hgl := heap_lt hz
  have KB : Hid (∀ w', Below w0.heap.size w0 w' → w'.cell? ⟨w.heap.size, 0, none⟩ = some (.int .i64 (d.n : Int)) ∧ w'.cell? ⟨w.heap.size, 1, none⟩ = some (.slice (some ⟨b1, 0, none⟩) d.n d.n) ∧ w'.cell? ⟨w.heap.size, 2, none⟩ = some (.slice (some ⟨b2, 0, none⟩) d.n d.n)) := fun w' hb => cells3_of ((hb.block _ hgl).trans hz)
  clear hz hgl
  unfold Dv
  go_enter Try.func26, Try.ntmps26
  go_upto_region 2 with fail
  rw [← HW0.out]
  obtain ⟨x0, x1, x2⟩ := KB.out w0 (Below.refl _ _)
  have HRL : Hid (∀ x, x ∈ d.rings → 0 < x.length ∧ x.length ≤ 8) := fun x hx => by
    have := ring_len d ((mem_rings d x).1 hx)
    omega
  have HLN : Hid (d.rings.length ≤ 200000) := rings_len d hn8
  have HEND : Hid (bestOf (d.rings.take d.rings.length) = d.odd) := by
    show _ = _
    rw [List.take_length]
    exact bestOf_rings d
  go_upto_region 4 with (first | (go_at_call 56; refine (HC.out _ HB0.out).mono ?_; rintro e w4 ⟨v4, us4, rfl, hl4, hb4⟩; have HI4 := hid (ownLL_isLL hl4 (by have := HLN.out; omega) (fun l hl => by have := HRL.out l hl; omega)); have HB4 := hid hb4; clear hl4 hb4) | fail)
  clear x0 x1 x2 HC HW0
  obtain ⟨Ls, hLs⟩ : ∃ L, L = d.rings := ⟨_, rfl⟩
  rw [← hLs] at HI4 HRL HLN HEND
  clear hLs
  obtain ⟨la, lc, rfl, -⟩ := isLL_slice HI4.out
  have hl2 : Ls.length ≤ 200000 := HLN.out
  go_loopw [5, 3] (fun cv bv wr => ∃ i : Nat, cv = .int .i64 i ∧ i ≤ Ls.length ∧ Hid (BV wr bv (bestOf (Ls.take i))) ∧ Hid (Below w4.heap.size w4 wr)) (fun cv _ _ => Ls.length - (intOf cv).toNat)
  case atStart => exact ⟨0, rfl, Nat.zero_le _, rfl, Below.refl _ _⟩
  case round =>
    obtain ⟨i, rfl, hi, HV, HBr⟩ := hrel
    rename World => wr
    obtain ⟨bv, hbv⟩ : ∃ bv, bv = u3 := ⟨_, rfl⟩
    rw [← hbv] at HV ⊢
    clear hbv
    by_cases hlt : i < Ls.length
    · have hmem : Ls.getD i [] ∈ Ls := by rw [List.getD_eq_getElem?_getD, List.getElem?_eq_getElem hlt]; exact List.getElem_mem hlt
      obtain ⟨hx1, hx8⟩ := HRL.out _ hmem
      obtain ⟨lg, pa, pn, pc, rfl, -, c0, hxv⟩ := isLL_at (isLL_below HI4.out HBr.out) i hlt
      have hpn : pn = (Ls.getD i []).length := by
        obtain ⟨_, _, e⟩ := isV_slice hxv
        rw [List.length_map] at e
        cases e; rfl
      obtain ⟨xg, rfl, -, -⟩ := isV_at hxv 0 (by rw [List.length_map]; exact hx1)
      have HXV := hid hxv
      have HBS := hid (best_snoc Ls i hlt)
      have HNX : Hid (BV wr (.slice (some ⟨xg, 0, none⟩) pn pc) (some (Ls.getD i []))) := ⟨hx1, hx8, xg, pc, by rw [hpn], hxv⟩
      clear hmem hxv
      generalize Ls.getD i [] = x at *
      have HPN := hid hpn
      subst hpn
      have hrm : ((x.length : Nat) : Int).tmod 2 = ((x.length % 2 : Nat) : Int) := by
        rw [Int.tmod_eq_emod_of_nonneg (by omega)]
        exact (Int.natCast_emod _ 2).symm
      by_cases hodd : x.length % 2 = 1
      · have ho1 : ((x.length : Nat) : Int).tmod 2 = 1 := by rw [hrm, hodd]; rfl
        have hob : (x.length % 2 == 1) = true := by rw [hodd]; rfl
        rw [hob, Bool.true_and] at HBS
        clear hrm hodd hob
        cases hbo : bestOf (Ls.take i) with
        | none =>
          rw [hbo] at HBS HV
          have HE : Hid (bestOf (Ls.take (i + 1)) = some x) := HBS.out
          obtain rfl : bv = .slice none 0 0 := HV.out
          clear HBS hbo
          generalize x.length = xl at *
          go_wp2_with fail
          rename_i hK
          refine hK _ _ ?_
          dsimp only [Option.isNone_none, Option.isNone_some]
          go_wp2_with fail
          go_roundw
          case rel => exact ⟨i + 1, by go_num, by omega, by rw [HE.out]; exact HNX, HBr⟩
          case measure => simp [intOf]; omega
        | some y =>
          rw [hbo] at HBS HV
          have HVV := HV.out
          obtain ⟨hy1, hy8, yg, yc, rfl, hyv⟩ := HVV
          have HYV := hid hyv
          clear hyv
          have HBS2 : bestOf (Ls.take (i + 1)) = if (decide (x.length < y.length) || (x.length == y.length && ltL x y)) = true then some x else some y := HBS.out
          clear HBS hbo
          by_cases h1 : x.length < y.length
          · have HE : Hid (bestOf (Ls.take (i + 1)) = some x) := by show _ = _; rw [HBS2, decide_eq_true h1]; rfl
            clear HBS2 HPN HXV HYV
            generalize x.length = xl at *
            generalize y.length = yl at *
            go_wp2_with fail
            rename_i hK
            refine hK _ _ ?_
            dsimp only [Option.isNone_none, Option.isNone_some]
            go_wp2_with fail
            go_roundw
            case rel => exact ⟨i + 1, by go_num, by omega, by rw [HE.out]; exact HNX, HBr⟩
            case measure => simp [intOf]; omega
          · rw [decide_eq_false h1, Bool.false_or] at HBS2
            by_cases h2 : x.length = y.length
            · have hb2 : (x.length == y.length) = true := beq_iff_eq.2 h2
              rw [hb2, Bool.true_and] at HBS2
              have L1 := hid (LE.out _ _ _ _ wr HXV.out HYV.out)
              rw [h2] at L1 c0 HNX ho1 hx1 hx8
              clear h1 h2 HXV HYV HPN
              cases hbb : ltL x y with
              | true =>
                rw [hbb, if_pos rfl] at HBS2
                have HE := hid HBS2
                rw [hbb] at L1
                clear HBS2 hbb hb2
                generalize y.length = yl at *
                go_wp2_with fail
                rename_i hK
                refine hK _ _ ?_
                dsimp only [Option.isNone_none, Option.isNone_some]
                go_wp2_with (first | (go_at_call 57; refine L1.out.mono ?_; rintro e w6 ⟨rfl, hb6⟩; have HB6 := hid (below_step HBr.out hb6); have HN6 := hid (bv_below HNX.out hb6); have c6 := (hb6.cell (World.block_lt_of_cell? wr _ c0)).trans c0; clear hb6) | fail)
                go_roundw
                case rel => exact ⟨i + 1, by go_num, by omega, by rw [HE.out]; exact HN6, HB6⟩
                case measure => simp [intOf]; omega
              | false =>
                rw [hbb, if_neg (by decide)] at HBS2
                have HE := hid HBS2
                rw [hbb] at L1
                clear HBS2 hbb hb2
                generalize y.length = yl at *
                go_wp2_with fail
                rename_i hK
                refine hK _ _ ?_
                dsimp only [Option.isNone_none, Option.isNone_some]
                go_wp2_with (first | (go_at_call 57; refine L1.out.mono ?_; rintro e w6 ⟨rfl, hb6⟩; have HB6 := hid (below_step HBr.out hb6); have HN6 := hid (bv_below HV.out hb6); clear hb6) | fail)
                go_roundw
                case rel => exact ⟨i + 1, by go_num, by omega, by rw [HE.out]; exact HN6, HB6⟩
                case measure => simp [intOf]; omega
            · have hb2 : (x.length == y.length) = false := beq_eq_false_iff_ne.2 h2
              rw [hb2, Bool.false_and, if_neg (by decide)] at HBS2
              have HE := hid HBS2
              have hbi : ((x.length : Int) == (y.length : Int)) = false := beq_eq_false_iff_ne.2 (by omega)
              clear HBS2 hb2 HPN HXV HYV
              generalize x.length = xl at *
              generalize y.length = yl at *
              go_wp2_with fail
              rename_i hK
              refine hK _ _ ?_
              dsimp only [Option.isNone_none, Option.isNone_some]
              go_wp2_with fail
              go_roundw
              case rel => exact ⟨i + 1, by go_num, by omega, by rw [HE.out]; exact HV, HBr⟩
              case measure => simp [intOf]; omega
      · have ho0 : x.length % 2 = 0 := by omega
        have ho1 : ((x.length : Nat) : Int).tmod 2 = 0 := by rw [hrm, ho0]; rfl
        have hob : (x.length % 2 == 1) = false := by rw [ho0]; rfl
        rw [hob, Bool.false_and] at HBS
        have HE : Hid (bestOf (Ls.take (i + 1)) = bestOf (Ls.take i)) := HBS.out
        clear hrm hodd hob HBS ho0
        go_wp2_with fail
        go_roundw
        case rel => exact ⟨i + 1, by go_num, by omega, by rw [HE.out]; exact HV, HBr⟩
        case measure => simp [intOf]; omega
    · have hie : i = Ls.length := by omega
      have HF : Hid (BV wr bv d.odd) := by
        have h := HV.out
        rw [hie, HEND.out] at h
        exact h
      clear HV
      go_wp2_with fail
      go_ret
      exact ⟨_, rfl, HF.out, HB0.out.trans ((below_step HB4.out HBr.out).mono HB0.out.size)⟩
end Go.Proofs.Ytaedbkdimpdngaa
