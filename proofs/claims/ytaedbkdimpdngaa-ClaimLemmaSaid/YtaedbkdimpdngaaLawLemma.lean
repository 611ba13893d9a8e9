/-
  The law ClaimLemma of chapter 12: its contract.
-/
import Derived.Test.YtaedbkdimpdngaaPlainJ
import Derived.Test.YtaedbkdimpdngaaLawIdeal
namespace Go.Proofs.Ytaedbkdimpdngaa
open Go.RowKit
theorem wf_u16 {z : Int} (h : (Lit.int .u16 z).wf = true) : 0 ≤ z ∧ z < 65536 := by
  unfold Lit.wf at h
  rw [Bool.and_eq_true, decide_eq_true_eq, decide_eq_true_eq] at h
  have h1 : IntKind.u16.min = 0 := by decide
  have h2 : IntKind.u16.max = 65535 := by decide
  omega
theorem defends_cap {n : Int} {v u : Value} {l : List Pr} {w : World} (s : Nat) (hv : IsPr w v l) (hu : IsV w u ((elems s).map iv)) (hva : validP n l = true) (hs : s < 2 ^ n.toNat) :
    Calls Try.prog 42 #[.int .i64 n, v, u] w fun e w' => ∃ a m c, e = .returned (.tuple #[.slice a m c, .int .i64 0]) ∧ IsV w' (.slice a m c) ((elems ((dsp n.toNat l).dfd s)).map iv) ∧ (m = (elems ((dsp n.toNat l).dfd s)).length ∧ m ≤ c) ∧ Below w.heap.size w w' :=
  (pDefends_any n v u l (zl (elems s)) w hv (by rw [zl_zv]; exact hu)).mono fun e w' h => by
    have hn := valid_n hva
    have hn2 : n = (n.toNat : Int) := by omega
    have hok : okS n (zl (elems s)) = true := by rw [hn2]; exact okS_elems hs
    obtain ⟨hb, ⟨h2, _⟩ | ⟨_, h2, _⟩ | ⟨_, _, x, rfl, ho⟩⟩ := h
    · rw [hva] at h2; cases h2
    · rw [hok] at h2; cases h2
    · rw [setS_elems hs (by omega)] at ho
      obtain ⟨a, c, rfl⟩ := ownV_slice ho
      have hc := ownV_cap ho
      exact ⟨a, _, c, rfl, ownV_isV ho (by rw [List.length_map]; exact elems_le _), ⟨by rw [List.length_map], hc⟩, hb⟩
theorem rd_one {u : World} {b : Nat} {x : Int} (h : u.heap[b]? = some (.cells #[.int .i64 x] 3)) : Rd u (.slice (some ⟨b, 0, none⟩) 1 1) 1 1 [.int .i64 x] := by
  refine ⟨rfl, fun v hv => ?_, .inr ⟨⟨b, 0, none⟩, 1, rfl, fun _ => heap_lt h, fun j v hj => ?_⟩⟩
  · simp at hv; subst hv; rfl
  · have hadd : (⟨b, 0, none⟩ : Addr).add j = ⟨b, j, none⟩ := by unfold Addr.add; split <;> simp_all
    rw [hadd, World.cell?, h]
    simpa using hj
set_option maxRecDepth 100000 in
set_option maxHeartbeats 4000000 in
theorem ClaimLemma_ok (nb : Int) (ja : Option Addr) (jn jc : Nat) (wz : Int) (w : World) (hnb : 0 ≤ nb ∧ nb < 256) (hx : ArgAr w ja jn) (hwz : 0 ≤ wz ∧ wz < 65536) :
    Calls Try.prog 12 #[.int .u8 nb, .slice ja jn jc, .int .u16 wz] w fun e w' => e = .returned (.bool true) ∧ Below w.heap.size w w' := by
  have HM := hid (made_any nb ja jn jc 12 w hnb (by decide) hx)
  obtain ⟨wh, rfl⟩ : ∃ wh : Nat, wz = (wh : Int) := ⟨wz.toNat, by omega⟩
  have hwh : wh < 65536 := by omega
  clear hnb hx hwz
  go_enter Try.func12, Try.ntmps12
  go_upto_region 2 with (first | (go_at_call 27; refine (HM.out).mono ?_; rintro e w2 ⟨size, v2, l, rfl, hp2, hva, h1, h12, -, -, hb2⟩; obtain ⟨na, nc, rfl⟩ := row_slice hp2; have HB2 := hid hb2; have HVA := hid hva; have HP2 := hid (ownP_all hp2 hva); clear hp2 hva hb2) | fail)
  clear HM
  have C1 : Hid (∀ w', Below w2.heap.size w2 w' → Calls Try.prog 28 #[.int .i64 (size : Int), .slice na l.length nc] w' fun e w'' => ∃ a m c, e = .returned (.tuple #[.slice a m c, .int .i64 0]) ∧ IsLL w'' (.slice a m c) (lists (dsp (Int.toNat (size : Int)) l).pref) ∧ m = (dsp (Int.toNat (size : Int)) l).pref.length ∧ Below w'.heap.size w' w'') := fun w' hb => retLL_ok (w0 := w') (pPreferred_any _ _ _ w' (HP2.out w' hb)) HVA.out
  have C4 : Hid (∀ s u w', s < 2 ^ (dsp (Int.toNat (size : Int)) l).n → Below w2.heap.size w2 w' → IsV w' u ((elems s).map iv) → Calls Try.prog 42 #[.int .i64 (size : Int), .slice na l.length nc, u] w' fun e w'' => ∃ a m c, e = .returned (.tuple #[.slice a m c, .int .i64 0]) ∧ IsV w'' (.slice a m c) ((elems ((dsp (Int.toNat (size : Int)) l).dfd s)).map iv) ∧ (m = (elems ((dsp (Int.toNat (size : Int)) l).dfd s)).length ∧ m ≤ c) ∧ Below w'.heap.size w' w'') := fun s u w' hs hb hu => defends_cap s (HP2.out w' hb) hu HVA.out hs
  have C5 : Hid (∀ s u w', s < 2 ^ (dsp (Int.toNat (size : Int)) l).n → Below w2.heap.size w2 w' → IsV w' u ((elems s).map iv) → Calls Try.prog 41 #[.int .i64 (size : Int), .slice na l.length nc, u] w' fun e w'' => e = .returned (.tuple #[.bool ((dsp (Int.toNat (size : Int)) l).adm s), .int .i64 0]) ∧ Below w'.heap.size w' w'') := fun s u w' hs hb hu => admissible_ok s (HP2.out w' hb) hu HVA.out hs
  have hdn : (dsp (Int.toNat (size : Int)) l).n = size := rfl
  clear HVA HP2
  generalize (dsp (Int.toNat (size : Int)) l) = d at *
  go_upto_region 3 with (first | (go_at_call 28; refine (C1.out _ (Below.refl _ _)).mono ?_; rintro e w3 ⟨pa, pm, pc, rfl, hi3, hm3, hb3⟩; have HI3 := hid hi3; have HB3 := hid hb3; have HM3 := hid hm3; clear hi3 hb3 hm3) | fail)
  have hpm : 0 < pm := by rw [HM3.out]; exact len_pos d.pref_some
  have hbe : ((pm : Int) == 0) = false := beq_eq_false_iff_ne.2 (by omega)
  have hbn : pm ≠ 0 := by omega
  have hll0 : pm = (lists d.pref).length := by
    obtain ⟨a, c, e, _⟩ := isLL_slice HI3.out
    cases e; rfl
  have hml : pm ≤ 1000000 := by
    obtain ⟨a, c, e, h⟩ := isLL_slice HI3.out
    rw [hll0]; exact h
  have HLL := hid hll0
  obtain ⟨r, hr⟩ : ∃ r, r = wh % pm := ⟨_, rfl⟩
  have hrp : r < pm := by rw [hr]; exact Nat.mod_lt _ hpm
  have hmd : (wh : Int).tmod (pm : Int) = (r : Int) := by
    rw [Int.tmod_eq_emod_of_nonneg (by omega), hr]
    exact (Int.natCast_emod wh pm).symm
  have HMD := hid hmd
  clear hr C1 hmd hll0
  go_upto_region 5 with (first | (go_at_call 20; refine (lives_any _).mono ?_; rintro e w4 ⟨rfl, hb4⟩; have HI4 := hid (isLL_below HI3.out hb4); have HB4 := hid (below_step HB3.out hb4); clear hb4) | fail)
  have hmd := HMD.out
  have hnz : ¬ (pm : Int) = 0 := by omega
  have hll := HLL.out
  obtain ⟨g, qa, qn, qc, rfl, -, x0, x1⟩ := isLL_at HI4.out r (by omega)
  have hT : ∃ T, T < 2 ^ d.n ∧ (lists d.pref).getD r [] = elems T := by
    have hm : (lists d.pref).getD r [] ∈ lists d.pref := by
      have : r < (lists d.pref).length := by omega
      rw [List.getD_eq_getElem?_getD, List.getElem?_eq_getElem this]; exact List.getElem_mem this
    obtain ⟨s, hs, he⟩ := (mem_lists _ _).1 hm
    exact ⟨s, ((d.mem_pref s).1 hs).1 |> fun h => d.adm_lt h, he.symm⟩
  obtain ⟨T, hT1, hT2⟩ := hT
  rw [hT2] at x1
  have HTV := hid x1
  have hq : qn = (elems T).length := by
    obtain ⟨a, c, e⟩ := isV_slice x1
    cases e
    rw [List.length_map]
  have hq16 := elems_len T
  rw [← hq] at hq16
  have HQ := hid hq
  clear hll HLL HMD HM3 HI3 HI4 hT2 x1 hq
  go_upto_region 6 with fail
  clear x0 hmd hrp hbe hnz hml hbn hpm
  have HT0 : Hid (OwnV (w4.alloc (.cells #[] 3)) w4.heap.size 3 (.slice (some ⟨w4.heap.size, 0, none⟩) 0 0) ((elems 0).map iv)) := by
    rw [elems_zero]
    exact ownV_made w4 w4.heap.size 3 (Nat.le_refl _)
  have HBA : Hid (Below w4.heap.size w4 (w4.alloc (.cells #[] 3))) := ba w4 _
  go_upto_region 8 with fail
  go_loopw [13, 12] (fun zv ov wr => ∃ (i P gp on oc : Nat), zv = .int .i64 i ∧ i ≤ qn ∧ ov = .slice (some ⟨gp, 0, none⟩) on oc ∧ Hid (OwnV wr w4.heap.size 3 (.slice (some ⟨gp, 0, none⟩) on oc) ((elems P).map iv)) ∧ Hid (∀ k, i ≤ k → k < qn → P < 2 ^ ((elems T).getD k 0)) ∧ Hid (P < 2 ^ d.n) ∧ Hid (Below w4.heap.size w4 wr)) (fun zv _ _ => 17 - (intOf zv).toNat)
  case atStart => exact ⟨0, 0, _, _, _, rfl, Nat.zero_le _, rfl, HT0, fun k _ _ => Nat.two_pow_pos _, Nat.two_pow_pos _, HBA⟩
  case round =>
    obtain ⟨i, P, gp, on, oc, rfl, hi, rfl, HT, HPk, HPn, HBr⟩ := hrel
    clear HT0 HBA
    by_cases hiq : i < qn
    · have hie : i < (elems T).length := by rw [← HQ.out]; exact hiq
      obtain ⟨g2, rfl, -, c0⟩ := isV_at (isV_below HTV.out HBr.out) i (by rw [List.length_map]; exact hie)
      rw [getD_map iv _ 0 i hie] at c0
      change wr.cell? _ = some (.int .i64 (((elems T).getD i 0 : Nat) : Int)) at c0
      have hmem : (elems T).getD i 0 ∈ elems T := by rw [List.getD_eq_getElem?_getD, List.getElem?_eq_getElem hie]; exact List.getElem_mem hie
      have hcn := elems_lt hT1 _ hmem
      have hc16 := ((mem_elems T _).1 hmem).1
      have HPc := hid (HPk.out i (Nat.le_refl _) hiq)
      have HUP : Hid (∀ k, i + 1 ≤ k → k < qn → (elems T).getD i 0 < (elems T).getD k 0) := fun k hk hkq => by
        have hke : k < (elems T).length := by rw [← HQ.out]; exact hkq
        rw [List.getD_eq_getElem?_getD, List.getElem?_eq_getElem hie, List.getD_eq_getElem?_getD, List.getElem?_eq_getElem hke]
        exact List.pairwise_iff_getElem.1 (elems_up T) i k hie hke (by omega)
      have HP2 : Hid (∀ k, i + 1 ≤ k → k < qn → P < 2 ^ ((elems T).getD k 0)) := fun k hk hkq => HPk.out k (by omega) hkq
      obtain ⟨c, hc⟩ : ∃ c, c = (elems T).getD i 0 := ⟨_, rfl⟩
      rw [← hc] at c0 hcn hc16 HPc HUP
      clear hc hmem
      have HSN : Hid ((elems P).map iv ++ [.int .i64 (c : Int)] = (elems (P ||| 2 ^ c)).map iv) := by
        show _ = _
        rw [elems_snoc hc16 HPc.out, List.map_append]; rfl
      have HL2 : Hid (∀ k, i + 1 ≤ k → k < qn → P ||| 2 ^ c < 2 ^ ((elems T).getD k 0)) := fun k hk hkq => Nat.or_lt_two_pow (HP2.out k hk hkq) (Nat.pow_lt_pow_right (by decide) (HUP.out k hk hkq))
      have HN2 : Hid (P ||| 2 ^ c < 2 ^ d.n) := Nat.or_lt_two_pow HPn.out (Nat.pow_lt_pow_right (by decide) hcn)
      have HLN : Hid (((elems P).map iv).length < 1000000) := by have := elems_len P; show _ < _; rw [List.length_map]; omega
      obtain ⟨q, hand⟩ : ∃ q, bits BinOp.and IntKind.u16 ((wh : Int) / 2 ^ i) 1 = q := ⟨_, rfl⟩
      generalize P ||| 2 ^ c = P2 at *
      generalize hxs : (elems P).map iv = xs at *
      by_cases hq1 : q = 1
      · subst hq1
        go_wp2_with (first | (at_builtin; refine wpl_app_int (c : Int) _ _ (.slice (some ⟨gp, 0, none⟩) on oc) w4.heap.size xs (by rfl) (by rfl) (by rfl) (by rfl) HT.out HLN.out HBr.out.size ?_; intro v' w7 ho7 hb7 hg7; rw [HSN.out] at ho7; obtain ⟨g8, n8, c8, rfl⟩ : ∃ g n c, v' = .slice (some ⟨g, 0, none⟩) n c := (by obtain ⟨g8, c8, h, _⟩ := ownV_some ho7 (by rw [← HSN.out, List.length_append]; exact Nat.succ_pos _); exact ⟨g8, _, c8, h⟩); have HO7 := hid ho7; have HB7 := hid (HBr.out.trans hb7); clear ho7 hb7 hg7) | fail)
        go_roundw
        case rel => exact ⟨i + 1, P2, _, _, _, by go_num, by omega, rfl, HO7, HL2, HN2, HB7⟩
        case measure => simp [intOf]; omega
      · subst hxs
        go_wp2_with fail
        go_roundw
        case rel => exact ⟨i + 1, P, _, _, _, by go_num, by omega, rfl, HT, HP2, HPn, HBr⟩
        case measure => simp [intOf]; omega
    · clear HPk HTV HQ
      have HV : Hid (IsV wr (.slice (some ⟨gp, 0, none⟩) on oc) ((elems P).map iv)) := ownV_isV HT.out (by rw [List.length_map]; exact elems_le _)
      have HBW : Hid (Below w2.heap.size w2 wr) := below_step HB4.out HBr.out
      have A1 := hid (C5.out P _ wr HPn.out HBW.out HV.out)
      cases had : d.adm P with
      | true =>
        rw [had] at A1
        have HAD := hid had
        clear had
        go_upto_region 17 with (first | (go_at_call 41; refine A1.out.mono ?_; rintro e w8 ⟨rfl, hb8⟩; have HT8 := hid (ownV_below HT.out hb8); have HB8 := hid (below_step HBW.out hb8); clear hb8) | fail)
        have HQn := HPn
        have HON : Hid (on = (elems P).length) := by
          obtain ⟨a, c, e⟩ := isV_slice HV.out
          cases e
          show _ = _
          rw [List.length_map]
        clear A1 HV HBW HT HBr HPn
        have hpl : on ≤ 16 := by have := elems_len P; have := HON.out; omega
        have A2 := hid (C4.out P _ w8 HQn.out HB8.out (ownV_isV HT8.out (by rw [List.length_map]; exact elems_le _)))
        have A3 : Hid (∀ w' u, Below w8.heap.size w8 w' → IsV w' u ((elems (d.dfd P)).map iv) → Calls Try.prog 46 #[.slice (some ⟨gp, 0, none⟩) on oc, u] w' fun e w'' => e = .returned (.bool true) ∧ Below w'.heap.size w' w'') := fun w' u hb hu => by
          have h := within_any _ _ _ _ w' (isV_isW (isV_below (ownV_isV HT8.out (by rw [List.length_map]; exact elems_le _)) hb)) hu
          rw [inL_elems (d.adm_sub HAD.out)] at h
          exact h
        go_upto_region 18 with (first | (go_at_call 42; refine A2.out.mono ?_; rintro e w9 ⟨xa, xm, xc, rfl, hi9, ⟨hm9, hcap⟩, hb9⟩; have HX9 := hid hi9; have HM9 := hid hm9; have hx16 : xm ≤ 16 := (by have := elems_len (d.dfd P); omega); have HB9 := hid hb9; clear hi9 hm9 hb9) | fail)
        clear A2
        go_upto_region 21 with (first | (go_at_call 46; refine (A3.out _ _ HB9.out HX9.out).mono ?_; rintro e w10 ⟨rfl, hb10⟩; have HX10 := hid (isV_below HX9.out hb10); have HT10 := hid (ownV_below HT8.out (below_step HB9.out hb10)); have HB10 := hid (below_step HB8.out (below_step HB9.out hb10)); clear hb10) | fail)
        clear A3 HX9 HB9 HT8 HB8
        go_loopw [18] (fun zv wr => ∃ (i : Nat), zv = .int .i64 i ∧ i ≤ xm ∧ Hid (Below w10.heap.size w10 wr)) (fun zv _ => 17 - (intOf zv).toNat)
        case atStart => exact ⟨0, rfl, Nat.zero_le _, Below.refl _ _⟩
        case round =>
          obtain ⟨i, rfl, hi, HBi⟩ := hrel
          rename World => wi
          by_cases him : i < xm
          · have hie : i < (elems (d.dfd P)).length := by rw [← HM9.out]; exact him
            obtain ⟨g, rfl, -, c0⟩ := isV_at (isV_below HX10.out HBi.out) i (by rw [List.length_map]; exact hie)
            rw [getD_map iv _ 0 i hie] at c0
            have hmem : (elems (d.dfd P)).getD i 0 ∈ elems (d.dfd P) := by rw [List.getD_eq_getElem?_getD, List.getElem?_eq_getElem hie]; exact List.getElem_mem hie
            change wi.cell? _ = some (.int .i64 (((elems (d.dfd P)).getD i 0 : Nat) : Int)) at c0
            generalize (elems (d.dfd P)).getD i 0 = c at *
            obtain ⟨hc16, hcb⟩ := (mem_elems _ c).1 hmem
            have hcn : c < d.n := bit_lt (d.dfd_lt _) hcb
            have HCB := hid hcb
            have W2 : Hid (∀ y, Calls Try.prog 46 #[.slice (some ⟨g, i, none⟩) 1 y, .slice (some ⟨gp, 0, none⟩) on oc] wi fun e w'' => e = .returned (.bool (Nat.testBit P c)) ∧ Below wi.heap.size wi w'') := fun y => by
              have h := within_any (.slice (some ⟨g, i, none⟩) 1 y) _ [c] _ wi ⟨some ⟨g, i, none⟩, y, i, rfl, by rw [List.length_map]; show 1 ≤ 1000000; omega, fun j hj => ⟨g, rfl, by
                have hj0 : j = 0 := by simpa using hj
                subst hj0
                exact c0⟩⟩ (ownV_isV (ownV_below HT10.out HBi.out) (by rw [List.length_map]; exact elems_le _))
              rw [inL_one c _ hc16] at h
              exact h
            have hci : ¬ xc = i := by omega
            have HCI := hid hci
            clear hmem hcb
            cases hbit : Nat.testBit P c with
            | true =>
              rw [hbit] at W2
              clear hbit
              go_upto_region 29 with (first | (go_at_call 46; (try rw [if_neg HCI.out]); with_reducible refine (W2.out _).mono ?_; rintro e w11 ⟨rfl, hb11⟩; have HB11 := hid (below_step HBi.out hb11); clear hb11) | fail)
              have HIQ := hid (ownV_isV (ownV_below HT10.out HB11.out) (by rw [List.length_map]; exact elems_le _))
              have B1 := hid (C5.out P _ w11 HQn.out (below_step HB10.out HB11.out) HIQ.out)
              rw [HAD.out] at B1
              go_upto_region 30 with (first | (go_at_call 41; refine B1.out.mono ?_; rintro e w12 ⟨rfl, hb12⟩; have HB12 := hid (below_step HB11.out hb12); have HIQ2 := hid (isV_below HIQ.out hb12); clear hb12) | fail)
              have B2 := hid (C4.out P _ w12 HQn.out (below_step HB10.out HB12.out) HIQ2.out)
              go_upto_region 31 with (first | (go_at_call 42; refine B2.out.mono ?_; rintro e w13 ⟨ya, ym, yc, rfl, hi13, -, hb13⟩; have HI13 := hid hi13; have HB13 := hid (below_step HB12.out hb13); clear hb13 hi13) | fail)
              have B3 : Hid (Calls Try.prog 46 #[.slice (some ⟨g, 0, none⟩) xm xc, .slice ya ym yc] w13 fun e w'' => e = .returned (.bool true) ∧ Below w13.heap.size w13 w'') := by
                have h := within_any _ _ _ _ w13 (isV_isW (isV_below HX10.out HB13.out)) HI13.out
                rw [inL_elems (sub_refl _)] at h
                exact h
              go_wp2_with (first | (go_at_call 46; refine B3.out.mono ?_; rintro e w14 ⟨rfl, hb14⟩; have HB14 := hid (below_step HB13.out hb14); clear hb14) | fail)
              go_roundw
              case rel => exact ⟨i + 1, by go_num, by omega, HB14⟩
              case measure => simp [intOf]; omega
            | false =>
              rw [hbit] at W2
              have HBIT := hid hbit
              clear hbit
              go_upto_region 26 with (first | (go_at_call 46; (try rw [if_neg HCI.out]); with_reducible refine (W2.out _).mono ?_; rintro e w11 ⟨rfl, hb11⟩; have HB11 := hid (below_step HBi.out hb11); clear hb11) | fail)
              have KEEP : Hid (∀ w', Below w10.heap.size w10 w' → w'.cell? ⟨g, i, none⟩ = some (.int .i64 (c : Int))) := fun w' hb => by
                obtain ⟨g', e, -, d0⟩ := isV_at (isV_below HX10.out hb) i (by rw [List.length_map]; exact hie)
                obtain ⟨g2, e2, -, d2⟩ := isV_at (isV_below HX10.out HBi.out) i (by rw [List.length_map]; exact hie)
                cases e
                cases e2
                obtain ⟨g3, e3, -, d3⟩ := isV_at HX10.out i (by rw [List.length_map]; exact hie)
                cases e3
                have q1 := (hb.cell (World.block_lt_of_cell? w10 _ d3)).trans d3
                have q2 := (HBi.out.cell (World.block_lt_of_cell? w10 _ d3)).trans d3
                rw [c0] at q2
                rw [q1]; exact q2.symm
              clear c0 W2
              go_loopw [20] (fun zv wr => ∃ (k : Nat), zv = .int .i64 k ∧ k ≤ on ∧ Hid (∀ j, j < k → (elems P).getD j 0 < c) ∧ Hid (Below w10.heap.size w10 wr)) (fun zv _ => 17 - (intOf zv).toNat)
              case atStart => exact ⟨0, rfl, Nat.zero_le _, fun j hj => absurd hj (Nat.not_lt_zero _), HB11⟩
              case round =>
                obtain ⟨k, rfl, hk, HLS, HBk⟩ := hrel
                rename World => wk
                have c0 := KEEP.out wk HBk.out
                by_cases hko : k < on
                · have hkq0 : k < (elems P).length := by rw [← HON.out]; exact hko
                  have c1 := ownV_cell (ownV_below HT10.out HBk.out) k (by rw [List.length_map]; exact hkq0)
                  rw [getD_map iv _ 0 k hkq0] at c1
                  have hoc := ownV_cap HT10.out
                  change wk.cell? _ = some (.int .i64 (((elems P).getD k 0 : Nat) : Int)) at c1
                  have HGE0 : Hid (¬ (elems P).getD k 0 < c → (k < (elems P).length → c ≤ (elems P).getD k 0)) := fun h _ => Nat.le_of_not_lt h
                  have HLS0 : Hid ((elems P).getD k 0 < c → ∀ j, j < k + 1 → (elems P).getD j 0 < c) := fun h j hj => by
                    by_cases e : j = k
                    · rw [e]; exact h
                    · exact HLS.out j (by omega)
                  generalize hy : (elems P).getD k 0 = y at *
                  by_cases hyc : y < c
                  · have HLS2 := hid (HLS0.out hyc)
                    have hyz : (y : Int) < (c : Int) := by omega
                    clear HLS0 HGE0
                    go_upto_region 26 with fail
                    go_quiet (fail)
                    go_wp2_with fail
                    go_roundw
                    case rel => exact ⟨k + 1, by go_num, by omega, HLS2, below_drewN_r HBk.out _⟩
                    case measure => simp [intOf]; omega
                  · have HGE1 := hid (HGE0.out hyc)
                    have HGE : Hid (k < (elems P).length → c ≤ (elems P).getD k 0) := by rw [hy]; exact HGE1
                    have hyz : ¬ (y : Int) < (c : Int) := by omega
                    clear HLS0 HGE0 HGE1 hy
                    go_upto_region 26 with fail
                    go_quiet (fail)
                    go_upto_region 28 with fail
                    have HBk := hid (below_drewN_r HBk.out nq)
                    clear c0 c1 hyz
                    generalize wk.drewN nq = wz at *
                    have HBz : Hid (Below w10.heap.size w10 wz) := HBk
                    have HOQ := hid (ownV_below HT10.out HBz.out)
                    have hkq : k ≤ (elems P).length := by rw [← HON.out]; exact hk
                    have HINS := hid (elems_ins (Q := P) (x := c) (k := k) hc16 HBIT.out hkq HLS.out HGE.out)
                    have HQA : Hid (d.adm (P ||| 2 ^ c) = true) := by
                      refine d.adm_up HAD.out ((sub_iff _ _).2 fun j hj => by rw [Nat.testBit_or, hj]; rfl) ((sub_iff _ _).2 fun j hj => ?_)
                      rw [Nat.testBit_or, Bool.or_eq_true, Nat.testBit_two_pow, decide_eq_true_iff] at hj
                      rcases hj with hj | rfl
                      · exact (sub_iff _ _).1 (d.adm_sub HAD.out) j hj
                      · exact HCB.out
                    have HQ2 : Hid (P ||| 2 ^ c < 2 ^ d.n) := Nat.or_lt_two_pow HQn.out (Nat.pow_lt_pow_right (by decide) hcn)
                    have HQD : Hid (sub (d.dfd P) (d.dfd (P ||| 2 ^ c)) = true) := d.dfd_mono ((sub_iff _ _).2 fun j hj => by rw [Nat.testBit_or, hj]; rfl)
                    obtain ⟨Q2, hQ2⟩ : ∃ Q2, Q2 = P ||| 2 ^ c := ⟨_, rfl⟩
                    rw [← hQ2] at HINS HQA HQ2 HQD
                    clear hQ2
                    obtain ⟨US1, hU1⟩ : ∃ U, U = (((elems P).map iv).drop 0).take (k - 0) := ⟨_, rfl⟩
                    obtain ⟨US2, hU2⟩ : ∃ U, U = (((elems P).map iv).drop k).take (on - k) := ⟨_, rfl⟩
                    have hl1 : US1.length ≤ 16 := by rw [hU1, List.length_take]; omega
                    have LEN1 : Hid (([] ++ US1).length ≤ 1000000) := by show _ ≤ _; rw [List.nil_append]; omega
                    have LEN2 : Hid (([] ++ US1 ++ [Value.int .i64 (c : Int)]).length ≤ 1000000) := by show _ ≤ _; rw [List.nil_append, List.length_append]; simp only [List.length_singleton]; omega
                    have HK6 : Hid (k ≤ 1000000) := by show _ ≤ _; omega
                    have HK7 : Hid (on - k ≤ 1000000) := by show _ ≤ _; omega
                    have HSN : Hid ([] ++ US1 ++ [Value.int .i64 (c : Int)] ++ US2 = (elems Q2).map iv) := by
                      show _ = _
                      have hon := HON.out
                      rw [HINS.out, hU1, hU2, List.map_append, List.map_append, List.drop_zero, Nat.sub_zero, List.nil_append, List.map_take, List.map_drop, List.take_of_length_le (l := ((elems P).map iv).drop k) (by rw [List.length_drop, List.length_map]; omega)]
                      rfl
                    have H1C : ∀ u ∈ (elems P).map iv, u.oneCell' = true := fun u hu => by
                      obtain ⟨x, _, rfl⟩ := List.mem_map.1 hu
                      rfl
                    have hon2 : on = ((elems P).map iv).length := by rw [List.length_map]; exact HON.out
                    have hoc : on ≤ oc := ownV_cap HOQ.out
                    have RD1 : Hid (∀ w', Below wz.heap.size wz w' → Rd w' (.slice (some ⟨gp, 0, none⟩) k oc) k 1 US1) := fun w' hb => by
                      rw [hU1]
                      exact ownV_rd (ownV_below HOQ.out hb) H1C 0 k (Nat.zero_le _) (by omega) oc
                    have RD2 : Hid (∀ w', Below wz.heap.size wz w' → Rd w' (.slice (if oc = k then some ⟨gp, 0, none⟩ else some ⟨gp, k, none⟩) (on - k) (oc - k)) (on - k) 1 US2) := fun w' hb => by
                      by_cases hok : oc = k
                      · rw [if_pos hok]
                        have h0 : on - k = 0 := by omega
                        rw [hU2, h0]
                        exact ⟨rfl, fun u hu => (by simp at hu), .inr ⟨_, _, rfl, fun h => (by simp at h), fun j u hj => (by simp at hj)⟩⟩
                      · rw [if_neg hok, hU2]
                        exact ownV_rd (ownV_below HOQ.out hb) H1C k on (by omega) (by omega) (oc - k)
                    clear hon2
                    have hkoc : ¬ oc < k := by omega
                    have KEEPZ : Hid (∀ w', Below wz.heap.size wz w' → w'.cell? ⟨g, i, none⟩ = some (.int .i64 (c : Int))) := fun w' hb => KEEP.out w' (below_step HBz.out hb)
                    clear hU1 hU2 hl1 HLS HGE HINS hkq HBIT HOQ
                    refine wp_region_held_drew (S := fun w' => w'.cell? ⟨g, i, none⟩ = some (.int .i64 (c : Int))) (by kernel_rfl) (KEEPZ.out _ ((Below.refl _ _).drew)) (fun hHeld => ?_)
                    have HU0 : Hid (Below wz.heap.size wz wz.drew) := (Below.refl _ _).drew
                    generalize wz.drew = u0 at *
                    refine take_at (i := 1) 134 (v := .slice (some ⟨gp, 0, none⟩) on oc) rfl (by kernel_rfl) (by kernel_rfl) (by kernel_rfl) rfl (fun _ _ _ h => h) (by rfl) (fun w hSw => ?_) hHeld ?_
                    · (try dsimp only at hSw); go_simp
                    simp only [Act.put, List.setIfInBounds_toArray, List.set_cons_zero, List.set_cons_succ]
                    refine take_at (i := 2) 135 (v := .int .i64 k) rfl (by kernel_rfl) (by kernel_rfl) (by kernel_rfl) rfl (fun _ _ _ h => h) (by rfl) (fun w hSw => ?_) hHeld ?_
                    · (try dsimp only at hSw); go_simp
                    simp only [Act.put, List.setIfInBounds_toArray, List.set_cons_zero, List.set_cons_succ]
                    refine take_at (i := 3) 136 (v := .slice (some ⟨gp, 0, none⟩) k oc) rfl (by kernel_rfl) (by kernel_rfl) (by kernel_rfl) rfl (fun _ _ _ h => h) (by rfl) (fun w hSw => ?_) hHeld ?_
                    · (try dsimp only at hSw); go_simp
                    simp only [Act.put, List.setIfInBounds_toArray, List.set_cons_zero, List.set_cons_succ]
                    refine take_at (i := 5) 138 (v := .slice (some ⟨g, 0, none⟩) xm xc) rfl (by kernel_rfl) (by kernel_rfl) (by kernel_rfl) rfl (fun _ _ _ h => h) (by rfl) (fun w hSw => ?_) hHeld ?_
                    · (try dsimp only at hSw); go_simp
                    simp only [Act.put, List.setIfInBounds_toArray, List.set_cons_zero, List.set_cons_succ]
                    refine take_at (i := 6) 139 (v := .int .i64 i) rfl (by kernel_rfl) (by kernel_rfl) (by kernel_rfl) rfl (fun _ _ _ h => h) (by rfl) (fun w hSw => ?_) hHeld ?_
                    · (try dsimp only at hSw); go_simp
                    simp only [Act.put, List.setIfInBounds_toArray, List.set_cons_zero, List.set_cons_succ]
                    refine take_at (i := 7) 140 (v := .pointer (some ⟨g, i, none⟩)) rfl (by kernel_rfl) (by kernel_rfl) (by kernel_rfl) rfl (fun _ _ _ h => h) (by rfl) (fun w hSw => ?_) hHeld ?_
                    · (try dsimp only at hSw); go_simp
                    simp only [Act.put, List.setIfInBounds_toArray, List.set_cons_zero, List.set_cons_succ]
                    refine take_at (i := 8) 141 (v := .int .i64 (c : Int)) rfl (by kernel_rfl) (by kernel_rfl) (by kernel_rfl) rfl (fun _ _ _ h => h) (by rfl) (fun w hSw => ?_) hHeld ?_
                    · (try dsimp only at hSw); go_simp
                    simp only [Act.put, List.setIfInBounds_toArray, List.set_cons_zero, List.set_cons_succ]
                    refine take_at (i := 11) 144 (v := .slice (some ⟨gp, 0, none⟩) on oc) rfl (by kernel_rfl) (by kernel_rfl) (by kernel_rfl) rfl (fun _ _ _ h => h) (by rfl) (fun w hSw => ?_) hHeld ?_
                    · (try dsimp only at hSw); go_simp
                    simp only [Act.put, List.setIfInBounds_toArray, List.set_cons_zero, List.set_cons_succ]
                    refine take_at (i := 12) 145 (v := .int .i64 k) rfl (by kernel_rfl) (by kernel_rfl) (by kernel_rfl) rfl (fun _ _ _ h => h) (by rfl) (fun w hSw => ?_) hHeld ?_
                    · (try dsimp only at hSw); go_simp
                    simp only [Act.put, List.setIfInBounds_toArray, List.set_cons_zero, List.set_cons_succ]
                    refine take_at (i := 13) 146 (v := .slice (if oc = k then some ⟨gp, 0, none⟩ else some ⟨gp, k, none⟩) (on - k) (oc - k)) rfl (by kernel_rfl) (by kernel_rfl) (by kernel_rfl) rfl (fun _ _ _ h => h) (by rfl) (fun w hSw => ?_) hHeld ?_
                    · (try dsimp only at hSw); go_simp
                    simp only [Act.put, List.setIfInBounds_toArray, List.set_cons_zero, List.set_cons_succ]
                    refine wpAnyH_ready (rs := [0, 9]) (by kernel_rfl) (by simp) ?_
                    refine node_none24 133 rfl rfl rfl rfl (KEEPZ.out _ (Below.alloc HU0.out (Below.size HU0.out) _)) (fun hHeld => ?_) ?_
                    · have HU1 := hid (Below.alloc HU0.out (Below.size HU0.out) (.cells #[] 3))
                      have GA1 := hid (heap_alloc_new u0 (.cells #[] 3))
                      obtain ⟨u1, hu⟩ : ∃ v, v = u0.alloc (.cells #[] 3) := ⟨_, rfl⟩
                      obtain ⟨b0, hb0⟩ : ∃ b, b = u0.heap.size := ⟨_, rfl⟩
                      have HB0 : Hid (wz.heap.size ≤ b0) := by rw [hb0]; exact HU0.out.size
                      rw [← hu] at HU1 GA1 ⊢
                      rw [← hb0] at GA1 ⊢
                      replace hHeld := KEEPZ.out _ HU1.out
                      clear hu hb0
                      simp only [Act.put, List.setIfInBounds_toArray, List.set_cons_zero, List.set_cons_succ]
                      refine wpAnyH_ready (rs := [4, 9]) (by kernel_rfl) (by simp) ?_
                      refine node_app24n 137 wz.heap.size 133 136 (.slice (some ⟨b0, 0, none⟩) 0 0) [] (.slice (some ⟨gp, 0, none⟩) k oc) k US1 rfl rfl rfl rfl rfl rfl (RD1.out _ HU1.out) (row_of_block (size := 1) GA1.out HB0.out) HU1.out.size ⟨Nat.zero_le _, HK6.out⟩ ?_ ?_
                      · intro v4 u2 ho4 hg4
                        have O2 := hid ho4
                        have HU2 : Hid (Below wz.heap.size wz u2) := HU1.out.grown hg4 HU1.out.size (fun q hq => (World.ownsRow.lt (row_of_block (size := 1) GA1.out HB0.out) q hq).1)
                        refine ⟨KEEPZ.out _ HU2.out, ?_⟩
                        have hHeld := KEEPZ.out _ HU2.out
                        clear ho4 hg4
                        simp only [Act.put, List.setIfInBounds_toArray, List.set_cons_zero, List.set_cons_succ]
                        refine wpAnyH_ready (rs := [9]) (by kernel_rfl) (by simp) ?_
                        refine node_build24 142 141 (c : Int) rfl (by rfl) rfl rfl rfl (KEEPZ.out _ (Below.alloc HU2.out (Below.size HU2.out) _)) (fun hHeld => ?_) AllReadyH.nil
                        · have HU3 := hid (Below.alloc HU2.out (Below.size HU2.out) (.cells #[.int .i64 (c : Int)] 3))
                          have GB3 := hid (heap_alloc_new u2 (.cells #[.int .i64 (c : Int)] 3))
                          have O3 := hid (ownV_below O2.out (ba u2 (.cells #[.int .i64 (c : Int)] 3)))
                          obtain ⟨u3, hu⟩ : ∃ v, v = u2.alloc (.cells #[.int .i64 (c : Int)] 3) := ⟨_, rfl⟩
                          obtain ⟨b9, hb9⟩ : ∃ b, b = u2.heap.size := ⟨_, rfl⟩
                          rw [← hu] at HU3 GB3 O3 ⊢
                          rw [← hb9] at GB3 ⊢
                          replace hHeld := KEEPZ.out _ HU3.out
                          clear hu hb9
                          simp only [Act.put, List.setIfInBounds_toArray, List.set_cons_zero, List.set_cons_succ]
                          refine wpAnyH_ready (rs := [10]) (by kernel_rfl) (by simp) ?_
                          refine node_app24n 143 wz.heap.size 137 142 v4 ([] ++ US1) (.slice (some ⟨b9, 0, none⟩) 1 1) 1 [.int .i64 (c : Int)] rfl rfl rfl rfl rfl rfl (rd_one GB3.out) O3.out HU3.out.size ⟨LEN1.out, by decide⟩ ?_ AllReadyH.nil
                          · intro v10 u4 ho4 hg4
                            have O4 := hid ho4
                            have HU4 : Hid (Below wz.heap.size wz u4) := HU3.out.grown hg4 HU3.out.size (fun q hq => (World.ownsRow.lt O3.out q hq).1)
                            refine ⟨KEEPZ.out _ HU4.out, ?_⟩
                            have hHeld := KEEPZ.out _ HU4.out
                            clear ho4 hg4
                            simp only [Act.put, List.setIfInBounds_toArray, List.set_cons_zero, List.set_cons_succ]
                            refine wpAnyH_ready (rs := [14]) (by kernel_rfl) (by simp) ?_
                            refine node_app24n 147 wz.heap.size 143 146 v10 ([] ++ US1 ++ [.int .i64 (c : Int)]) (.slice (if oc = k then some ⟨gp, 0, none⟩ else some ⟨gp, k, none⟩) (on - k) (oc - k)) (on - k) US2 rfl rfl rfl rfl rfl rfl (RD2.out _ HU4.out) O4.out HU4.out.size ⟨LEN2.out, HK7.out⟩ ?_ AllReadyH.nil
                            · intro v14 u5 ho4 hg4
                              rw [HSN.out] at ho4
                              obtain ⟨ma, mn, mc, rfl⟩ := ownV_sh ho4
                              have HO14 := hid ho4
                              have HU5 : Hid (Below wz.heap.size wz u5) := HU4.out.grown hg4 HU4.out.size (fun q hq => (World.ownsRow.lt O4.out q hq).1)
                              refine ⟨KEEPZ.out _ HU5.out, ?_⟩
                              have hHeld := KEEPZ.out _ HU5.out
                              clear ho4 hg4
                              simp only [Act.put, List.setIfInBounds_toArray, List.set_cons_zero, List.set_cons_succ]
                              refine take_at (i := 15) 19 (v := .slice ma mn mc) rfl (by kernel_rfl) (by kernel_rfl) (by kernel_rfl) rfl (fun _ _ _ h => h) (by rfl) (fun w hSw => ?_) hHeld ?_
                              · (try dsimp only at hSw); go_simp
                              simp only [Act.put, List.setIfInBounds_toArray, List.set_cons_zero, List.set_cons_succ]
                              refine wpAnyH_done (by kernel_rfl) ?_ _
                              clear hHeld
                              have HZ := hid (below_step HBz.out HU5.out)
                              generalize u5 = w11 at *
                              have HIM := hid (ownV_isV HO14.out (by rw [List.length_map]; exact elems_le _))
                              have B1 := hid (C5.out Q2 _ w11 HQ2.out (below_step HB10.out HZ.out) HIM.out)
                              rw [HQA.out] at B1
                              go_upto_region 30 with (first | (go_at_call 41; refine B1.out.mono ?_; rintro e w12 ⟨rfl, hb12⟩; have HB12 := hid (below_step HZ.out hb12); have HIM2 := hid (isV_below HIM.out hb12); clear hb12) | fail)
                              have B2 := hid (C4.out Q2 _ w12 HQ2.out (below_step HB10.out HB12.out) HIM2.out)
                              go_upto_region 31 with (first | (go_at_call 42; refine B2.out.mono ?_; rintro e w13 ⟨ya, ym, yc, rfl, hi13, -, hb13⟩; have HI13 := hid hi13; have HB13 := hid (below_step HB12.out hb13); clear hb13 hi13) | fail)
                              have B3 : Hid (Calls Try.prog 46 #[.slice (some ⟨g, 0, none⟩) xm xc, .slice ya ym yc] w13 fun e w'' => e = .returned (.bool true) ∧ Below w13.heap.size w13 w'') := by
                                have h := within_any _ _ _ _ w13 (isV_isW (isV_below HX10.out HB13.out)) HI13.out
                                rw [inL_elems HQD.out] at h
                                exact h
                              go_wp2_with (first | (go_at_call 46; refine B3.out.mono ?_; rintro e w14 ⟨rfl, hb14⟩; have HB14 := hid (below_step HB13.out hb14); clear hb14) | fail)
                              go_roundw
                              case rel => exact ⟨i + 1, by go_num, by omega, HB14⟩
                              case measure => simp [intOf]; omega
                      refine node_build24 142 141 (c : Int) rfl (by rfl) rfl rfl rfl (KEEPZ.out _ (Below.alloc HU1.out (Below.size HU1.out) _)) (fun hHeld => ?_) AllReadyH.nil
                      · have HU2 := hid (Below.alloc HU1.out (Below.size HU1.out) (.cells #[.int .i64 (c : Int)] 3))
                        have GB2 := hid (heap_alloc_new u1 (.cells #[.int .i64 (c : Int)] 3))
                        have GA2 := hid ((Below.heap_alloc u1 (.cells #[.int .i64 (c : Int)] 3) b0 (heap_lt GA1.out)).trans GA1.out)
                        obtain ⟨u2, hu⟩ : ∃ v, v = u1.alloc (.cells #[.int .i64 (c : Int)] 3) := ⟨_, rfl⟩
                        obtain ⟨b9, hb9⟩ : ∃ b, b = u1.heap.size := ⟨_, rfl⟩
                        have NE : Hid (b9 ≠ b0) := by have := heap_lt GA1.out; show _ ≠ _; omega
                        rw [← hu] at HU2 GB2 GA2 ⊢
                        rw [← hb9] at GB2 ⊢
                        replace hHeld := KEEPZ.out _ HU2.out
                        clear hu hb9
                        simp only [Act.put, List.setIfInBounds_toArray, List.set_cons_zero, List.set_cons_succ]
                        refine wpAnyH_ready (rs := [4]) (by kernel_rfl) (by simp) ?_
                        refine node_app24n 137 wz.heap.size 133 136 (.slice (some ⟨b0, 0, none⟩) 0 0) [] (.slice (some ⟨gp, 0, none⟩) k oc) k US1 rfl rfl rfl rfl rfl rfl (RD1.out _ HU2.out) (row_of_block (size := 1) GA2.out HB0.out) HU2.out.size ⟨Nat.zero_le _, HK6.out⟩ ?_ AllReadyH.nil
                        · intro v4 u3 ho4 hg4
                          have O3 := hid ho4
                          have HU3 : Hid (Below wz.heap.size wz u3) := HU2.out.grown hg4 HU2.out.size (fun q hq => (World.ownsRow.lt (row_of_block (size := 1) GA2.out HB0.out) q hq).1)
                          have GB3 := hid ((hg4.block b9 (heap_lt GB2.out) (by intro e; simp [Value.ownBlock] at e; first | exact NE.out e | exact NE.out e.symm)).trans GB2.out)
                          refine ⟨KEEPZ.out _ HU3.out, ?_⟩
                          have hHeld := KEEPZ.out _ HU3.out
                          clear ho4 hg4
                          simp only [Act.put, List.setIfInBounds_toArray, List.set_cons_zero, List.set_cons_succ]
                          refine wpAnyH_ready (rs := [10]) (by kernel_rfl) (by simp) ?_
                          refine node_app24n 143 wz.heap.size 137 142 v4 ([] ++ US1) (.slice (some ⟨b9, 0, none⟩) 1 1) 1 [.int .i64 (c : Int)] rfl rfl rfl rfl rfl rfl (rd_one GB3.out) O3.out HU3.out.size ⟨LEN1.out, by decide⟩ ?_ AllReadyH.nil
                          · intro v10 u4 ho4 hg4
                            have O4 := hid ho4
                            have HU4 : Hid (Below wz.heap.size wz u4) := HU3.out.grown hg4 HU3.out.size (fun q hq => (World.ownsRow.lt O3.out q hq).1)
                            refine ⟨KEEPZ.out _ HU4.out, ?_⟩
                            have hHeld := KEEPZ.out _ HU4.out
                            clear ho4 hg4
                            simp only [Act.put, List.setIfInBounds_toArray, List.set_cons_zero, List.set_cons_succ]
                            refine wpAnyH_ready (rs := [14]) (by kernel_rfl) (by simp) ?_
                            refine node_app24n 147 wz.heap.size 143 146 v10 ([] ++ US1 ++ [.int .i64 (c : Int)]) (.slice (if oc = k then some ⟨gp, 0, none⟩ else some ⟨gp, k, none⟩) (on - k) (oc - k)) (on - k) US2 rfl rfl rfl rfl rfl rfl (RD2.out _ HU4.out) O4.out HU4.out.size ⟨LEN2.out, HK7.out⟩ ?_ AllReadyH.nil
                            · intro v14 u5 ho4 hg4
                              rw [HSN.out] at ho4
                              obtain ⟨ma, mn, mc, rfl⟩ := ownV_sh ho4
                              have HO14 := hid ho4
                              have HU5 : Hid (Below wz.heap.size wz u5) := HU4.out.grown hg4 HU4.out.size (fun q hq => (World.ownsRow.lt O4.out q hq).1)
                              refine ⟨KEEPZ.out _ HU5.out, ?_⟩
                              have hHeld := KEEPZ.out _ HU5.out
                              clear ho4 hg4
                              simp only [Act.put, List.setIfInBounds_toArray, List.set_cons_zero, List.set_cons_succ]
                              refine take_at (i := 15) 19 (v := .slice ma mn mc) rfl (by kernel_rfl) (by kernel_rfl) (by kernel_rfl) rfl (fun _ _ _ h => h) (by rfl) (fun w hSw => ?_) hHeld ?_
                              · (try dsimp only at hSw); go_simp
                              simp only [Act.put, List.setIfInBounds_toArray, List.set_cons_zero, List.set_cons_succ]
                              refine wpAnyH_done (by kernel_rfl) ?_ _
                              clear hHeld
                              have HZ := hid (below_step HBz.out HU5.out)
                              generalize u5 = w11 at *
                              have HIM := hid (ownV_isV HO14.out (by rw [List.length_map]; exact elems_le _))
                              have B1 := hid (C5.out Q2 _ w11 HQ2.out (below_step HB10.out HZ.out) HIM.out)
                              rw [HQA.out] at B1
                              go_upto_region 30 with (first | (go_at_call 41; refine B1.out.mono ?_; rintro e w12 ⟨rfl, hb12⟩; have HB12 := hid (below_step HZ.out hb12); have HIM2 := hid (isV_below HIM.out hb12); clear hb12) | fail)
                              have B2 := hid (C4.out Q2 _ w12 HQ2.out (below_step HB10.out HB12.out) HIM2.out)
                              go_upto_region 31 with (first | (go_at_call 42; refine B2.out.mono ?_; rintro e w13 ⟨ya, ym, yc, rfl, hi13, -, hb13⟩; have HI13 := hid hi13; have HB13 := hid (below_step HB12.out hb13); clear hb13 hi13) | fail)
                              have B3 : Hid (Calls Try.prog 46 #[.slice (some ⟨g, 0, none⟩) xm xc, .slice ya ym yc] w13 fun e w'' => e = .returned (.bool true) ∧ Below w13.heap.size w13 w'') := by
                                have h := within_any _ _ _ _ w13 (isV_isW (isV_below HX10.out HB13.out)) HI13.out
                                rw [inL_elems HQD.out] at h
                                exact h
                              go_wp2_with (first | (go_at_call 46; refine B3.out.mono ?_; rintro e w14 ⟨rfl, hb14⟩; have HB14 := hid (below_step HB13.out hb14); clear hb14) | fail)
                              go_roundw
                              case rel => exact ⟨i + 1, by go_num, by omega, HB14⟩
                              case measure => simp [intOf]; omega
                    refine node_build24 142 141 (c : Int) rfl (by rfl) rfl rfl rfl (KEEPZ.out _ (Below.alloc HU0.out (Below.size HU0.out) _)) (fun hHeld => ?_) AllReadyH.nil
                    · have HU1 := hid (Below.alloc HU0.out (Below.size HU0.out) (.cells #[.int .i64 (c : Int)] 3))
                      have GB1 := hid (heap_alloc_new u0 (.cells #[.int .i64 (c : Int)] 3))
                      obtain ⟨u1, hu⟩ : ∃ v, v = u0.alloc (.cells #[.int .i64 (c : Int)] 3) := ⟨_, rfl⟩
                      obtain ⟨b9, hb9⟩ : ∃ b, b = u0.heap.size := ⟨_, rfl⟩
                      rw [← hu] at HU1 GB1 ⊢
                      rw [← hb9] at GB1 ⊢
                      replace hHeld := KEEPZ.out _ HU1.out
                      clear hu hb9
                      simp only [Act.put, List.setIfInBounds_toArray, List.set_cons_zero, List.set_cons_succ]
                      refine wpAnyH_ready (rs := [0]) (by kernel_rfl) (by simp) ?_
                      refine node_none24 133 rfl rfl rfl rfl (KEEPZ.out _ (Below.alloc HU1.out (Below.size HU1.out) _)) (fun hHeld => ?_) AllReadyH.nil
                      · have HU2 := hid (Below.alloc HU1.out (Below.size HU1.out) (.cells #[] 3))
                        have GA2 := hid (heap_alloc_new u1 (.cells #[] 3))
                        have GB2 := hid ((Below.heap_alloc u1 (.cells #[] 3) b9 (heap_lt GB1.out)).trans GB1.out)
                        obtain ⟨u2, hu⟩ : ∃ v, v = u1.alloc (.cells #[] 3) := ⟨_, rfl⟩
                        obtain ⟨b0, hb0⟩ : ∃ b, b = u1.heap.size := ⟨_, rfl⟩
                        have NE : Hid (b9 ≠ b0) := by have := heap_lt GB1.out; show _ ≠ _; omega
                        have HB0 : Hid (wz.heap.size ≤ b0) := by rw [hb0]; exact HU1.out.size
                        rw [← hu] at HU2 GA2 GB2 ⊢
                        rw [← hb0] at GA2 ⊢
                        replace hHeld := KEEPZ.out _ HU2.out
                        clear hu hb0
                        simp only [Act.put, List.setIfInBounds_toArray, List.set_cons_zero, List.set_cons_succ]
                        refine wpAnyH_ready (rs := [4]) (by kernel_rfl) (by simp) ?_
                        refine node_app24n 137 wz.heap.size 133 136 (.slice (some ⟨b0, 0, none⟩) 0 0) [] (.slice (some ⟨gp, 0, none⟩) k oc) k US1 rfl rfl rfl rfl rfl rfl (RD1.out _ HU2.out) (row_of_block (size := 1) GA2.out HB0.out) HU2.out.size ⟨Nat.zero_le _, HK6.out⟩ ?_ AllReadyH.nil
                        · intro v4 u3 ho4 hg4
                          have O3 := hid ho4
                          have HU3 : Hid (Below wz.heap.size wz u3) := HU2.out.grown hg4 HU2.out.size (fun q hq => (World.ownsRow.lt (row_of_block (size := 1) GA2.out HB0.out) q hq).1)
                          have GB3 := hid ((hg4.block b9 (heap_lt GB2.out) (by intro e; simp [Value.ownBlock] at e; first | exact NE.out e | exact NE.out e.symm)).trans GB2.out)
                          refine ⟨KEEPZ.out _ HU3.out, ?_⟩
                          have hHeld := KEEPZ.out _ HU3.out
                          clear ho4 hg4
                          simp only [Act.put, List.setIfInBounds_toArray, List.set_cons_zero, List.set_cons_succ]
                          refine wpAnyH_ready (rs := [10]) (by kernel_rfl) (by simp) ?_
                          refine node_app24n 143 wz.heap.size 137 142 v4 ([] ++ US1) (.slice (some ⟨b9, 0, none⟩) 1 1) 1 [.int .i64 (c : Int)] rfl rfl rfl rfl rfl rfl (rd_one GB3.out) O3.out HU3.out.size ⟨LEN1.out, by decide⟩ ?_ AllReadyH.nil
                          · intro v10 u4 ho4 hg4
                            have O4 := hid ho4
                            have HU4 : Hid (Below wz.heap.size wz u4) := HU3.out.grown hg4 HU3.out.size (fun q hq => (World.ownsRow.lt O3.out q hq).1)
                            refine ⟨KEEPZ.out _ HU4.out, ?_⟩
                            have hHeld := KEEPZ.out _ HU4.out
                            clear ho4 hg4
                            simp only [Act.put, List.setIfInBounds_toArray, List.set_cons_zero, List.set_cons_succ]
                            refine wpAnyH_ready (rs := [14]) (by kernel_rfl) (by simp) ?_
                            refine node_app24n 147 wz.heap.size 143 146 v10 ([] ++ US1 ++ [.int .i64 (c : Int)]) (.slice (if oc = k then some ⟨gp, 0, none⟩ else some ⟨gp, k, none⟩) (on - k) (oc - k)) (on - k) US2 rfl rfl rfl rfl rfl rfl (RD2.out _ HU4.out) O4.out HU4.out.size ⟨LEN2.out, HK7.out⟩ ?_ AllReadyH.nil
                            · intro v14 u5 ho4 hg4
                              rw [HSN.out] at ho4
                              obtain ⟨ma, mn, mc, rfl⟩ := ownV_sh ho4
                              have HO14 := hid ho4
                              have HU5 : Hid (Below wz.heap.size wz u5) := HU4.out.grown hg4 HU4.out.size (fun q hq => (World.ownsRow.lt O4.out q hq).1)
                              refine ⟨KEEPZ.out _ HU5.out, ?_⟩
                              have hHeld := KEEPZ.out _ HU5.out
                              clear ho4 hg4
                              simp only [Act.put, List.setIfInBounds_toArray, List.set_cons_zero, List.set_cons_succ]
                              refine take_at (i := 15) 19 (v := .slice ma mn mc) rfl (by kernel_rfl) (by kernel_rfl) (by kernel_rfl) rfl (fun _ _ _ h => h) (by rfl) (fun w hSw => ?_) hHeld ?_
                              · (try dsimp only at hSw); go_simp
                              simp only [Act.put, List.setIfInBounds_toArray, List.set_cons_zero, List.set_cons_succ]
                              refine wpAnyH_done (by kernel_rfl) ?_ _
                              clear hHeld
                              have HZ := hid (below_step HBz.out HU5.out)
                              generalize u5 = w11 at *
                              have HIM := hid (ownV_isV HO14.out (by rw [List.length_map]; exact elems_le _))
                              have B1 := hid (C5.out Q2 _ w11 HQ2.out (below_step HB10.out HZ.out) HIM.out)
                              rw [HQA.out] at B1
                              go_upto_region 30 with (first | (go_at_call 41; refine B1.out.mono ?_; rintro e w12 ⟨rfl, hb12⟩; have HB12 := hid (below_step HZ.out hb12); have HIM2 := hid (isV_below HIM.out hb12); clear hb12) | fail)
                              have B2 := hid (C4.out Q2 _ w12 HQ2.out (below_step HB10.out HB12.out) HIM2.out)
                              go_upto_region 31 with (first | (go_at_call 42; refine B2.out.mono ?_; rintro e w13 ⟨ya, ym, yc, rfl, hi13, -, hb13⟩; have HI13 := hid hi13; have HB13 := hid (below_step HB12.out hb13); clear hb13 hi13) | fail)
                              have B3 : Hid (Calls Try.prog 46 #[.slice (some ⟨g, 0, none⟩) xm xc, .slice ya ym yc] w13 fun e w'' => e = .returned (.bool true) ∧ Below w13.heap.size w13 w'') := by
                                have h := within_any _ _ _ _ w13 (isV_isW (isV_below HX10.out HB13.out)) HI13.out
                                rw [inL_elems HQD.out] at h
                                exact h
                              go_wp2_with (first | (go_at_call 46; refine B3.out.mono ?_; rintro e w14 ⟨rfl, hb14⟩; have HB14 := hid (below_step HB13.out hb14); clear hb14) | fail)
                              go_roundw
                              case rel => exact ⟨i + 1, by go_num, by omega, HB14⟩
                              case measure => simp [intOf]; omega
                · have hke : k = on := by omega
                  have HGE : Hid (k < (elems P).length → c ≤ (elems P).getD k 0) := fun h => by have := HON.out; omega
                  go_upto_region 26 with fail
                  go_quiet (fail)
                  go_upto_region 28 with fail
                  have HBk := hid (below_drewN_r HBk.out nq)
                  clear c0
                  generalize wk.drewN nq = wz at *
                  have HBz : Hid (Below w10.heap.size w10 wz) := HBk
                  have HOQ := hid (ownV_below HT10.out HBz.out)
                  have hkq : k ≤ (elems P).length := by rw [← HON.out]; exact hk
                  have HINS := hid (elems_ins (Q := P) (x := c) (k := k) hc16 HBIT.out hkq HLS.out HGE.out)
                  have HQA : Hid (d.adm (P ||| 2 ^ c) = true) := by
                    refine d.adm_up HAD.out ((sub_iff _ _).2 fun j hj => by rw [Nat.testBit_or, hj]; rfl) ((sub_iff _ _).2 fun j hj => ?_)
                    rw [Nat.testBit_or, Bool.or_eq_true, Nat.testBit_two_pow, decide_eq_true_iff] at hj
                    rcases hj with hj | rfl
                    · exact (sub_iff _ _).1 (d.adm_sub HAD.out) j hj
                    · exact HCB.out
                  have HQ2 : Hid (P ||| 2 ^ c < 2 ^ d.n) := Nat.or_lt_two_pow HQn.out (Nat.pow_lt_pow_right (by decide) hcn)
                  have HQD : Hid (sub (d.dfd P) (d.dfd (P ||| 2 ^ c)) = true) := d.dfd_mono ((sub_iff _ _).2 fun j hj => by rw [Nat.testBit_or, hj]; rfl)
                  obtain ⟨Q2, hQ2⟩ : ∃ Q2, Q2 = P ||| 2 ^ c := ⟨_, rfl⟩
                  rw [← hQ2] at HINS HQA HQ2 HQD
                  clear hQ2
                  obtain ⟨US1, hU1⟩ : ∃ U, U = (((elems P).map iv).drop 0).take (k - 0) := ⟨_, rfl⟩
                  obtain ⟨US2, hU2⟩ : ∃ U, U = (((elems P).map iv).drop k).take (on - k) := ⟨_, rfl⟩
                  have hl1 : US1.length ≤ 16 := by rw [hU1, List.length_take]; omega
                  have LEN1 : Hid (([] ++ US1).length ≤ 1000000) := by show _ ≤ _; rw [List.nil_append]; omega
                  have LEN2 : Hid (([] ++ US1 ++ [Value.int .i64 (c : Int)]).length ≤ 1000000) := by show _ ≤ _; rw [List.nil_append, List.length_append]; simp only [List.length_singleton]; omega
                  have HK6 : Hid (k ≤ 1000000) := by show _ ≤ _; omega
                  have HK7 : Hid (on - k ≤ 1000000) := by show _ ≤ _; omega
                  have HSN : Hid ([] ++ US1 ++ [Value.int .i64 (c : Int)] ++ US2 = (elems Q2).map iv) := by
                    show _ = _
                    have hon := HON.out
                    rw [HINS.out, hU1, hU2, List.map_append, List.map_append, List.drop_zero, Nat.sub_zero, List.nil_append, List.map_take, List.map_drop, List.take_of_length_le (l := ((elems P).map iv).drop k) (by rw [List.length_drop, List.length_map]; omega)]
                    rfl
                  have H1C : ∀ u ∈ (elems P).map iv, u.oneCell' = true := fun u hu => by
                    obtain ⟨x, _, rfl⟩ := List.mem_map.1 hu
                    rfl
                  have hon2 : on = ((elems P).map iv).length := by rw [List.length_map]; exact HON.out
                  have hoc : on ≤ oc := ownV_cap HOQ.out
                  have RD1 : Hid (∀ w', Below wz.heap.size wz w' → Rd w' (.slice (some ⟨gp, 0, none⟩) k oc) k 1 US1) := fun w' hb => by
                    rw [hU1]
                    exact ownV_rd (ownV_below HOQ.out hb) H1C 0 k (Nat.zero_le _) (by omega) oc
                  have RD2 : Hid (∀ w', Below wz.heap.size wz w' → Rd w' (.slice (if oc = k then some ⟨gp, 0, none⟩ else some ⟨gp, k, none⟩) (on - k) (oc - k)) (on - k) 1 US2) := fun w' hb => by
                    by_cases hok : oc = k
                    · rw [if_pos hok]
                      have h0 : on - k = 0 := by omega
                      rw [hU2, h0]
                      exact ⟨rfl, fun u hu => (by simp at hu), .inr ⟨_, _, rfl, fun h => (by simp at h), fun j u hj => (by simp at hj)⟩⟩
                    · rw [if_neg hok, hU2]
                      exact ownV_rd (ownV_below HOQ.out hb) H1C k on (by omega) (by omega) (oc - k)
                  clear hon2
                  have hkoc : ¬ oc < k := by omega
                  have KEEPZ : Hid (∀ w', Below wz.heap.size wz w' → w'.cell? ⟨g, i, none⟩ = some (.int .i64 (c : Int))) := fun w' hb => KEEP.out w' (below_step HBz.out hb)
                  clear hU1 hU2 hl1 HLS HGE HINS hkq HBIT HOQ
                  refine wp_region_held_drew (S := fun w' => w'.cell? ⟨g, i, none⟩ = some (.int .i64 (c : Int))) (by kernel_rfl) (KEEPZ.out _ ((Below.refl _ _).drew)) (fun hHeld => ?_)
                  have HU0 : Hid (Below wz.heap.size wz wz.drew) := (Below.refl _ _).drew
                  generalize wz.drew = u0 at *
                  refine take_at (i := 1) 134 (v := .slice (some ⟨gp, 0, none⟩) on oc) rfl (by kernel_rfl) (by kernel_rfl) (by kernel_rfl) rfl (fun _ _ _ h => h) (by rfl) (fun w hSw => ?_) hHeld ?_
                  · (try dsimp only at hSw); go_simp
                  simp only [Act.put, List.setIfInBounds_toArray, List.set_cons_zero, List.set_cons_succ]
                  refine take_at (i := 2) 135 (v := .int .i64 k) rfl (by kernel_rfl) (by kernel_rfl) (by kernel_rfl) rfl (fun _ _ _ h => h) (by rfl) (fun w hSw => ?_) hHeld ?_
                  · (try dsimp only at hSw); go_simp
                  simp only [Act.put, List.setIfInBounds_toArray, List.set_cons_zero, List.set_cons_succ]
                  refine take_at (i := 3) 136 (v := .slice (some ⟨gp, 0, none⟩) k oc) rfl (by kernel_rfl) (by kernel_rfl) (by kernel_rfl) rfl (fun _ _ _ h => h) (by rfl) (fun w hSw => ?_) hHeld ?_
                  · (try dsimp only at hSw); go_simp
                  simp only [Act.put, List.setIfInBounds_toArray, List.set_cons_zero, List.set_cons_succ]
                  refine take_at (i := 5) 138 (v := .slice (some ⟨g, 0, none⟩) xm xc) rfl (by kernel_rfl) (by kernel_rfl) (by kernel_rfl) rfl (fun _ _ _ h => h) (by rfl) (fun w hSw => ?_) hHeld ?_
                  · (try dsimp only at hSw); go_simp
                  simp only [Act.put, List.setIfInBounds_toArray, List.set_cons_zero, List.set_cons_succ]
                  refine take_at (i := 6) 139 (v := .int .i64 i) rfl (by kernel_rfl) (by kernel_rfl) (by kernel_rfl) rfl (fun _ _ _ h => h) (by rfl) (fun w hSw => ?_) hHeld ?_
                  · (try dsimp only at hSw); go_simp
                  simp only [Act.put, List.setIfInBounds_toArray, List.set_cons_zero, List.set_cons_succ]
                  refine take_at (i := 7) 140 (v := .pointer (some ⟨g, i, none⟩)) rfl (by kernel_rfl) (by kernel_rfl) (by kernel_rfl) rfl (fun _ _ _ h => h) (by rfl) (fun w hSw => ?_) hHeld ?_
                  · (try dsimp only at hSw); go_simp
                  simp only [Act.put, List.setIfInBounds_toArray, List.set_cons_zero, List.set_cons_succ]
                  refine take_at (i := 8) 141 (v := .int .i64 (c : Int)) rfl (by kernel_rfl) (by kernel_rfl) (by kernel_rfl) rfl (fun _ _ _ h => h) (by rfl) (fun w hSw => ?_) hHeld ?_
                  · (try dsimp only at hSw); go_simp
                  simp only [Act.put, List.setIfInBounds_toArray, List.set_cons_zero, List.set_cons_succ]
                  refine take_at (i := 11) 144 (v := .slice (some ⟨gp, 0, none⟩) on oc) rfl (by kernel_rfl) (by kernel_rfl) (by kernel_rfl) rfl (fun _ _ _ h => h) (by rfl) (fun w hSw => ?_) hHeld ?_
                  · (try dsimp only at hSw); go_simp
                  simp only [Act.put, List.setIfInBounds_toArray, List.set_cons_zero, List.set_cons_succ]
                  refine take_at (i := 12) 145 (v := .int .i64 k) rfl (by kernel_rfl) (by kernel_rfl) (by kernel_rfl) rfl (fun _ _ _ h => h) (by rfl) (fun w hSw => ?_) hHeld ?_
                  · (try dsimp only at hSw); go_simp
                  simp only [Act.put, List.setIfInBounds_toArray, List.set_cons_zero, List.set_cons_succ]
                  refine take_at (i := 13) 146 (v := .slice (if oc = k then some ⟨gp, 0, none⟩ else some ⟨gp, k, none⟩) (on - k) (oc - k)) rfl (by kernel_rfl) (by kernel_rfl) (by kernel_rfl) rfl (fun _ _ _ h => h) (by rfl) (fun w hSw => ?_) hHeld ?_
                  · (try dsimp only at hSw); go_simp
                  simp only [Act.put, List.setIfInBounds_toArray, List.set_cons_zero, List.set_cons_succ]
                  refine wpAnyH_ready (rs := [0, 9]) (by kernel_rfl) (by simp) ?_
                  refine node_none24 133 rfl rfl rfl rfl (KEEPZ.out _ (Below.alloc HU0.out (Below.size HU0.out) _)) (fun hHeld => ?_) ?_
                  · have HU1 := hid (Below.alloc HU0.out (Below.size HU0.out) (.cells #[] 3))
                    have GA1 := hid (heap_alloc_new u0 (.cells #[] 3))
                    obtain ⟨u1, hu⟩ : ∃ v, v = u0.alloc (.cells #[] 3) := ⟨_, rfl⟩
                    obtain ⟨b0, hb0⟩ : ∃ b, b = u0.heap.size := ⟨_, rfl⟩
                    have HB0 : Hid (wz.heap.size ≤ b0) := by rw [hb0]; exact HU0.out.size
                    rw [← hu] at HU1 GA1 ⊢
                    rw [← hb0] at GA1 ⊢
                    replace hHeld := KEEPZ.out _ HU1.out
                    clear hu hb0
                    simp only [Act.put, List.setIfInBounds_toArray, List.set_cons_zero, List.set_cons_succ]
                    refine wpAnyH_ready (rs := [4, 9]) (by kernel_rfl) (by simp) ?_
                    refine node_app24n 137 wz.heap.size 133 136 (.slice (some ⟨b0, 0, none⟩) 0 0) [] (.slice (some ⟨gp, 0, none⟩) k oc) k US1 rfl rfl rfl rfl rfl rfl (RD1.out _ HU1.out) (row_of_block (size := 1) GA1.out HB0.out) HU1.out.size ⟨Nat.zero_le _, HK6.out⟩ ?_ ?_
                    · intro v4 u2 ho4 hg4
                      have O2 := hid ho4
                      have HU2 : Hid (Below wz.heap.size wz u2) := HU1.out.grown hg4 HU1.out.size (fun q hq => (World.ownsRow.lt (row_of_block (size := 1) GA1.out HB0.out) q hq).1)
                      refine ⟨KEEPZ.out _ HU2.out, ?_⟩
                      have hHeld := KEEPZ.out _ HU2.out
                      clear ho4 hg4
                      simp only [Act.put, List.setIfInBounds_toArray, List.set_cons_zero, List.set_cons_succ]
                      refine wpAnyH_ready (rs := [9]) (by kernel_rfl) (by simp) ?_
                      refine node_build24 142 141 (c : Int) rfl (by rfl) rfl rfl rfl (KEEPZ.out _ (Below.alloc HU2.out (Below.size HU2.out) _)) (fun hHeld => ?_) AllReadyH.nil
                      · have HU3 := hid (Below.alloc HU2.out (Below.size HU2.out) (.cells #[.int .i64 (c : Int)] 3))
                        have GB3 := hid (heap_alloc_new u2 (.cells #[.int .i64 (c : Int)] 3))
                        have O3 := hid (ownV_below O2.out (ba u2 (.cells #[.int .i64 (c : Int)] 3)))
                        obtain ⟨u3, hu⟩ : ∃ v, v = u2.alloc (.cells #[.int .i64 (c : Int)] 3) := ⟨_, rfl⟩
                        obtain ⟨b9, hb9⟩ : ∃ b, b = u2.heap.size := ⟨_, rfl⟩
                        rw [← hu] at HU3 GB3 O3 ⊢
                        rw [← hb9] at GB3 ⊢
                        replace hHeld := KEEPZ.out _ HU3.out
                        clear hu hb9
                        simp only [Act.put, List.setIfInBounds_toArray, List.set_cons_zero, List.set_cons_succ]
                        refine wpAnyH_ready (rs := [10]) (by kernel_rfl) (by simp) ?_
                        refine node_app24n 143 wz.heap.size 137 142 v4 ([] ++ US1) (.slice (some ⟨b9, 0, none⟩) 1 1) 1 [.int .i64 (c : Int)] rfl rfl rfl rfl rfl rfl (rd_one GB3.out) O3.out HU3.out.size ⟨LEN1.out, by decide⟩ ?_ AllReadyH.nil
                        · intro v10 u4 ho4 hg4
                          have O4 := hid ho4
                          have HU4 : Hid (Below wz.heap.size wz u4) := HU3.out.grown hg4 HU3.out.size (fun q hq => (World.ownsRow.lt O3.out q hq).1)
                          refine ⟨KEEPZ.out _ HU4.out, ?_⟩
                          have hHeld := KEEPZ.out _ HU4.out
                          clear ho4 hg4
                          simp only [Act.put, List.setIfInBounds_toArray, List.set_cons_zero, List.set_cons_succ]
                          refine wpAnyH_ready (rs := [14]) (by kernel_rfl) (by simp) ?_
                          refine node_app24n 147 wz.heap.size 143 146 v10 ([] ++ US1 ++ [.int .i64 (c : Int)]) (.slice (if oc = k then some ⟨gp, 0, none⟩ else some ⟨gp, k, none⟩) (on - k) (oc - k)) (on - k) US2 rfl rfl rfl rfl rfl rfl (RD2.out _ HU4.out) O4.out HU4.out.size ⟨LEN2.out, HK7.out⟩ ?_ AllReadyH.nil
                          · intro v14 u5 ho4 hg4
                            rw [HSN.out] at ho4
                            obtain ⟨ma, mn, mc, rfl⟩ := ownV_sh ho4
                            have HO14 := hid ho4
                            have HU5 : Hid (Below wz.heap.size wz u5) := HU4.out.grown hg4 HU4.out.size (fun q hq => (World.ownsRow.lt O4.out q hq).1)
                            refine ⟨KEEPZ.out _ HU5.out, ?_⟩
                            have hHeld := KEEPZ.out _ HU5.out
                            clear ho4 hg4
                            simp only [Act.put, List.setIfInBounds_toArray, List.set_cons_zero, List.set_cons_succ]
                            refine take_at (i := 15) 19 (v := .slice ma mn mc) rfl (by kernel_rfl) (by kernel_rfl) (by kernel_rfl) rfl (fun _ _ _ h => h) (by rfl) (fun w hSw => ?_) hHeld ?_
                            · (try dsimp only at hSw); go_simp
                            simp only [Act.put, List.setIfInBounds_toArray, List.set_cons_zero, List.set_cons_succ]
                            refine wpAnyH_done (by kernel_rfl) ?_ _
                            clear hHeld
                            have HZ := hid (below_step HBz.out HU5.out)
                            generalize u5 = w11 at *
                            have HIM := hid (ownV_isV HO14.out (by rw [List.length_map]; exact elems_le _))
                            have B1 := hid (C5.out Q2 _ w11 HQ2.out (below_step HB10.out HZ.out) HIM.out)
                            rw [HQA.out] at B1
                            go_upto_region 30 with (first | (go_at_call 41; refine B1.out.mono ?_; rintro e w12 ⟨rfl, hb12⟩; have HB12 := hid (below_step HZ.out hb12); have HIM2 := hid (isV_below HIM.out hb12); clear hb12) | fail)
                            have B2 := hid (C4.out Q2 _ w12 HQ2.out (below_step HB10.out HB12.out) HIM2.out)
                            go_upto_region 31 with (first | (go_at_call 42; refine B2.out.mono ?_; rintro e w13 ⟨ya, ym, yc, rfl, hi13, -, hb13⟩; have HI13 := hid hi13; have HB13 := hid (below_step HB12.out hb13); clear hb13 hi13) | fail)
                            have B3 : Hid (Calls Try.prog 46 #[.slice (some ⟨g, 0, none⟩) xm xc, .slice ya ym yc] w13 fun e w'' => e = .returned (.bool true) ∧ Below w13.heap.size w13 w'') := by
                              have h := within_any _ _ _ _ w13 (isV_isW (isV_below HX10.out HB13.out)) HI13.out
                              rw [inL_elems HQD.out] at h
                              exact h
                            go_wp2_with (first | (go_at_call 46; refine B3.out.mono ?_; rintro e w14 ⟨rfl, hb14⟩; have HB14 := hid (below_step HB13.out hb14); clear hb14) | fail)
                            go_roundw
                            case rel => exact ⟨i + 1, by go_num, by omega, HB14⟩
                            case measure => simp [intOf]; omega
                    refine node_build24 142 141 (c : Int) rfl (by rfl) rfl rfl rfl (KEEPZ.out _ (Below.alloc HU1.out (Below.size HU1.out) _)) (fun hHeld => ?_) AllReadyH.nil
                    · have HU2 := hid (Below.alloc HU1.out (Below.size HU1.out) (.cells #[.int .i64 (c : Int)] 3))
                      have GB2 := hid (heap_alloc_new u1 (.cells #[.int .i64 (c : Int)] 3))
                      have GA2 := hid ((Below.heap_alloc u1 (.cells #[.int .i64 (c : Int)] 3) b0 (heap_lt GA1.out)).trans GA1.out)
                      obtain ⟨u2, hu⟩ : ∃ v, v = u1.alloc (.cells #[.int .i64 (c : Int)] 3) := ⟨_, rfl⟩
                      obtain ⟨b9, hb9⟩ : ∃ b, b = u1.heap.size := ⟨_, rfl⟩
                      have NE : Hid (b9 ≠ b0) := by have := heap_lt GA1.out; show _ ≠ _; omega
                      rw [← hu] at HU2 GB2 GA2 ⊢
                      rw [← hb9] at GB2 ⊢
                      replace hHeld := KEEPZ.out _ HU2.out
                      clear hu hb9
                      simp only [Act.put, List.setIfInBounds_toArray, List.set_cons_zero, List.set_cons_succ]
                      refine wpAnyH_ready (rs := [4]) (by kernel_rfl) (by simp) ?_
                      refine node_app24n 137 wz.heap.size 133 136 (.slice (some ⟨b0, 0, none⟩) 0 0) [] (.slice (some ⟨gp, 0, none⟩) k oc) k US1 rfl rfl rfl rfl rfl rfl (RD1.out _ HU2.out) (row_of_block (size := 1) GA2.out HB0.out) HU2.out.size ⟨Nat.zero_le _, HK6.out⟩ ?_ AllReadyH.nil
                      · intro v4 u3 ho4 hg4
                        have O3 := hid ho4
                        have HU3 : Hid (Below wz.heap.size wz u3) := HU2.out.grown hg4 HU2.out.size (fun q hq => (World.ownsRow.lt (row_of_block (size := 1) GA2.out HB0.out) q hq).1)
                        have GB3 := hid ((hg4.block b9 (heap_lt GB2.out) (by intro e; simp [Value.ownBlock] at e; first | exact NE.out e | exact NE.out e.symm)).trans GB2.out)
                        refine ⟨KEEPZ.out _ HU3.out, ?_⟩
                        have hHeld := KEEPZ.out _ HU3.out
                        clear ho4 hg4
                        simp only [Act.put, List.setIfInBounds_toArray, List.set_cons_zero, List.set_cons_succ]
                        refine wpAnyH_ready (rs := [10]) (by kernel_rfl) (by simp) ?_
                        refine node_app24n 143 wz.heap.size 137 142 v4 ([] ++ US1) (.slice (some ⟨b9, 0, none⟩) 1 1) 1 [.int .i64 (c : Int)] rfl rfl rfl rfl rfl rfl (rd_one GB3.out) O3.out HU3.out.size ⟨LEN1.out, by decide⟩ ?_ AllReadyH.nil
                        · intro v10 u4 ho4 hg4
                          have O4 := hid ho4
                          have HU4 : Hid (Below wz.heap.size wz u4) := HU3.out.grown hg4 HU3.out.size (fun q hq => (World.ownsRow.lt O3.out q hq).1)
                          refine ⟨KEEPZ.out _ HU4.out, ?_⟩
                          have hHeld := KEEPZ.out _ HU4.out
                          clear ho4 hg4
                          simp only [Act.put, List.setIfInBounds_toArray, List.set_cons_zero, List.set_cons_succ]
                          refine wpAnyH_ready (rs := [14]) (by kernel_rfl) (by simp) ?_
                          refine node_app24n 147 wz.heap.size 143 146 v10 ([] ++ US1 ++ [.int .i64 (c : Int)]) (.slice (if oc = k then some ⟨gp, 0, none⟩ else some ⟨gp, k, none⟩) (on - k) (oc - k)) (on - k) US2 rfl rfl rfl rfl rfl rfl (RD2.out _ HU4.out) O4.out HU4.out.size ⟨LEN2.out, HK7.out⟩ ?_ AllReadyH.nil
                          · intro v14 u5 ho4 hg4
                            rw [HSN.out] at ho4
                            obtain ⟨ma, mn, mc, rfl⟩ := ownV_sh ho4
                            have HO14 := hid ho4
                            have HU5 : Hid (Below wz.heap.size wz u5) := HU4.out.grown hg4 HU4.out.size (fun q hq => (World.ownsRow.lt O4.out q hq).1)
                            refine ⟨KEEPZ.out _ HU5.out, ?_⟩
                            have hHeld := KEEPZ.out _ HU5.out
                            clear ho4 hg4
                            simp only [Act.put, List.setIfInBounds_toArray, List.set_cons_zero, List.set_cons_succ]
                            refine take_at (i := 15) 19 (v := .slice ma mn mc) rfl (by kernel_rfl) (by kernel_rfl) (by kernel_rfl) rfl (fun _ _ _ h => h) (by rfl) (fun w hSw => ?_) hHeld ?_
                            · (try dsimp only at hSw); go_simp
                            simp only [Act.put, List.setIfInBounds_toArray, List.set_cons_zero, List.set_cons_succ]
                            refine wpAnyH_done (by kernel_rfl) ?_ _
                            clear hHeld
                            have HZ := hid (below_step HBz.out HU5.out)
                            generalize u5 = w11 at *
                            have HIM := hid (ownV_isV HO14.out (by rw [List.length_map]; exact elems_le _))
                            have B1 := hid (C5.out Q2 _ w11 HQ2.out (below_step HB10.out HZ.out) HIM.out)
                            rw [HQA.out] at B1
                            go_upto_region 30 with (first | (go_at_call 41; refine B1.out.mono ?_; rintro e w12 ⟨rfl, hb12⟩; have HB12 := hid (below_step HZ.out hb12); have HIM2 := hid (isV_below HIM.out hb12); clear hb12) | fail)
                            have B2 := hid (C4.out Q2 _ w12 HQ2.out (below_step HB10.out HB12.out) HIM2.out)
                            go_upto_region 31 with (first | (go_at_call 42; refine B2.out.mono ?_; rintro e w13 ⟨ya, ym, yc, rfl, hi13, -, hb13⟩; have HI13 := hid hi13; have HB13 := hid (below_step HB12.out hb13); clear hb13 hi13) | fail)
                            have B3 : Hid (Calls Try.prog 46 #[.slice (some ⟨g, 0, none⟩) xm xc, .slice ya ym yc] w13 fun e w'' => e = .returned (.bool true) ∧ Below w13.heap.size w13 w'') := by
                              have h := within_any _ _ _ _ w13 (isV_isW (isV_below HX10.out HB13.out)) HI13.out
                              rw [inL_elems HQD.out] at h
                              exact h
                            go_wp2_with (first | (go_at_call 46; refine B3.out.mono ?_; rintro e w14 ⟨rfl, hb14⟩; have HB14 := hid (below_step HB13.out hb14); clear hb14) | fail)
                            go_roundw
                            case rel => exact ⟨i + 1, by go_num, by omega, HB14⟩
                            case measure => simp [intOf]; omega
                  refine node_build24 142 141 (c : Int) rfl (by rfl) rfl rfl rfl (KEEPZ.out _ (Below.alloc HU0.out (Below.size HU0.out) _)) (fun hHeld => ?_) AllReadyH.nil
                  · have HU1 := hid (Below.alloc HU0.out (Below.size HU0.out) (.cells #[.int .i64 (c : Int)] 3))
                    have GB1 := hid (heap_alloc_new u0 (.cells #[.int .i64 (c : Int)] 3))
                    obtain ⟨u1, hu⟩ : ∃ v, v = u0.alloc (.cells #[.int .i64 (c : Int)] 3) := ⟨_, rfl⟩
                    obtain ⟨b9, hb9⟩ : ∃ b, b = u0.heap.size := ⟨_, rfl⟩
                    rw [← hu] at HU1 GB1 ⊢
                    rw [← hb9] at GB1 ⊢
                    replace hHeld := KEEPZ.out _ HU1.out
                    clear hu hb9
                    simp only [Act.put, List.setIfInBounds_toArray, List.set_cons_zero, List.set_cons_succ]
                    refine wpAnyH_ready (rs := [0]) (by kernel_rfl) (by simp) ?_
                    refine node_none24 133 rfl rfl rfl rfl (KEEPZ.out _ (Below.alloc HU1.out (Below.size HU1.out) _)) (fun hHeld => ?_) AllReadyH.nil
                    · have HU2 := hid (Below.alloc HU1.out (Below.size HU1.out) (.cells #[] 3))
                      have GA2 := hid (heap_alloc_new u1 (.cells #[] 3))
                      have GB2 := hid ((Below.heap_alloc u1 (.cells #[] 3) b9 (heap_lt GB1.out)).trans GB1.out)
                      obtain ⟨u2, hu⟩ : ∃ v, v = u1.alloc (.cells #[] 3) := ⟨_, rfl⟩
                      obtain ⟨b0, hb0⟩ : ∃ b, b = u1.heap.size := ⟨_, rfl⟩
                      have NE : Hid (b9 ≠ b0) := by have := heap_lt GB1.out; show _ ≠ _; omega
                      have HB0 : Hid (wz.heap.size ≤ b0) := by rw [hb0]; exact HU1.out.size
                      rw [← hu] at HU2 GA2 GB2 ⊢
                      rw [← hb0] at GA2 ⊢
                      replace hHeld := KEEPZ.out _ HU2.out
                      clear hu hb0
                      simp only [Act.put, List.setIfInBounds_toArray, List.set_cons_zero, List.set_cons_succ]
                      refine wpAnyH_ready (rs := [4]) (by kernel_rfl) (by simp) ?_
                      refine node_app24n 137 wz.heap.size 133 136 (.slice (some ⟨b0, 0, none⟩) 0 0) [] (.slice (some ⟨gp, 0, none⟩) k oc) k US1 rfl rfl rfl rfl rfl rfl (RD1.out _ HU2.out) (row_of_block (size := 1) GA2.out HB0.out) HU2.out.size ⟨Nat.zero_le _, HK6.out⟩ ?_ AllReadyH.nil
                      · intro v4 u3 ho4 hg4
                        have O3 := hid ho4
                        have HU3 : Hid (Below wz.heap.size wz u3) := HU2.out.grown hg4 HU2.out.size (fun q hq => (World.ownsRow.lt (row_of_block (size := 1) GA2.out HB0.out) q hq).1)
                        have GB3 := hid ((hg4.block b9 (heap_lt GB2.out) (by intro e; simp [Value.ownBlock] at e; first | exact NE.out e | exact NE.out e.symm)).trans GB2.out)
                        refine ⟨KEEPZ.out _ HU3.out, ?_⟩
                        have hHeld := KEEPZ.out _ HU3.out
                        clear ho4 hg4
                        simp only [Act.put, List.setIfInBounds_toArray, List.set_cons_zero, List.set_cons_succ]
                        refine wpAnyH_ready (rs := [10]) (by kernel_rfl) (by simp) ?_
                        refine node_app24n 143 wz.heap.size 137 142 v4 ([] ++ US1) (.slice (some ⟨b9, 0, none⟩) 1 1) 1 [.int .i64 (c : Int)] rfl rfl rfl rfl rfl rfl (rd_one GB3.out) O3.out HU3.out.size ⟨LEN1.out, by decide⟩ ?_ AllReadyH.nil
                        · intro v10 u4 ho4 hg4
                          have O4 := hid ho4
                          have HU4 : Hid (Below wz.heap.size wz u4) := HU3.out.grown hg4 HU3.out.size (fun q hq => (World.ownsRow.lt O3.out q hq).1)
                          refine ⟨KEEPZ.out _ HU4.out, ?_⟩
                          have hHeld := KEEPZ.out _ HU4.out
                          clear ho4 hg4
                          simp only [Act.put, List.setIfInBounds_toArray, List.set_cons_zero, List.set_cons_succ]
                          refine wpAnyH_ready (rs := [14]) (by kernel_rfl) (by simp) ?_
                          refine node_app24n 147 wz.heap.size 143 146 v10 ([] ++ US1 ++ [.int .i64 (c : Int)]) (.slice (if oc = k then some ⟨gp, 0, none⟩ else some ⟨gp, k, none⟩) (on - k) (oc - k)) (on - k) US2 rfl rfl rfl rfl rfl rfl (RD2.out _ HU4.out) O4.out HU4.out.size ⟨LEN2.out, HK7.out⟩ ?_ AllReadyH.nil
                          · intro v14 u5 ho4 hg4
                            rw [HSN.out] at ho4
                            obtain ⟨ma, mn, mc, rfl⟩ := ownV_sh ho4
                            have HO14 := hid ho4
                            have HU5 : Hid (Below wz.heap.size wz u5) := HU4.out.grown hg4 HU4.out.size (fun q hq => (World.ownsRow.lt O4.out q hq).1)
                            refine ⟨KEEPZ.out _ HU5.out, ?_⟩
                            have hHeld := KEEPZ.out _ HU5.out
                            clear ho4 hg4
                            simp only [Act.put, List.setIfInBounds_toArray, List.set_cons_zero, List.set_cons_succ]
                            refine take_at (i := 15) 19 (v := .slice ma mn mc) rfl (by kernel_rfl) (by kernel_rfl) (by kernel_rfl) rfl (fun _ _ _ h => h) (by rfl) (fun w hSw => ?_) hHeld ?_
                            · (try dsimp only at hSw); go_simp
                            simp only [Act.put, List.setIfInBounds_toArray, List.set_cons_zero, List.set_cons_succ]
                            refine wpAnyH_done (by kernel_rfl) ?_ _
                            clear hHeld
                            have HZ := hid (below_step HBz.out HU5.out)
                            generalize u5 = w11 at *
                            have HIM := hid (ownV_isV HO14.out (by rw [List.length_map]; exact elems_le _))
                            have B1 := hid (C5.out Q2 _ w11 HQ2.out (below_step HB10.out HZ.out) HIM.out)
                            rw [HQA.out] at B1
                            go_upto_region 30 with (first | (go_at_call 41; refine B1.out.mono ?_; rintro e w12 ⟨rfl, hb12⟩; have HB12 := hid (below_step HZ.out hb12); have HIM2 := hid (isV_below HIM.out hb12); clear hb12) | fail)
                            have B2 := hid (C4.out Q2 _ w12 HQ2.out (below_step HB10.out HB12.out) HIM2.out)
                            go_upto_region 31 with (first | (go_at_call 42; refine B2.out.mono ?_; rintro e w13 ⟨ya, ym, yc, rfl, hi13, -, hb13⟩; have HI13 := hid hi13; have HB13 := hid (below_step HB12.out hb13); clear hb13 hi13) | fail)
                            have B3 : Hid (Calls Try.prog 46 #[.slice (some ⟨g, 0, none⟩) xm xc, .slice ya ym yc] w13 fun e w'' => e = .returned (.bool true) ∧ Below w13.heap.size w13 w'') := by
                              have h := within_any _ _ _ _ w13 (isV_isW (isV_below HX10.out HB13.out)) HI13.out
                              rw [inL_elems HQD.out] at h
                              exact h
                            go_wp2_with (first | (go_at_call 46; refine B3.out.mono ?_; rintro e w14 ⟨rfl, hb14⟩; have HB14 := hid (below_step HB13.out hb14); clear hb14) | fail)
                            go_roundw
                            case rel => exact ⟨i + 1, by go_num, by omega, HB14⟩
                            case measure => simp [intOf]; omega
          · have FIN := hid (below_step (below_step HB2.out HB10.out) HBi.out)
            go_wp2_with fail
            go_ret
            exact ⟨rfl, FIN.out⟩
      | false =>
        rw [had] at A1
        clear had
        go_upto_region 17 with (first | (go_at_call 41; refine A1.out.mono ?_; rintro e w8 ⟨rfl, hb8⟩; have HB8 := hid (below_step HBW.out hb8); clear hb8) | fail)
        have HQn : Hid (0 < 2 ^ d.n) := Nat.two_pow_pos _
        have HAD : Hid (d.adm 0 = true) := d.adm_zero
        have HON : Hid (0 = (elems 0).length) := by show _ = _; rw [elems_zero]; rfl
        have HT8 : Hid (OwnV w8 w4.heap.size 3 (.slice none 0 0) ((elems 0).map iv)) := by rw [elems_zero]; exact ownV_nil _ _ _
        clear A1 HV HBW HT HBr HPn
        have hpl : 0 ≤ 16 := by have := elems_len 0; have := HON.out; omega
        have A2 := hid (C4.out 0 _ w8 HQn.out HB8.out (ownV_isV HT8.out (by rw [List.length_map]; exact elems_le _)))
        have A3 : Hid (∀ w' u, Below w8.heap.size w8 w' → IsV w' u ((elems (d.dfd 0)).map iv) → Calls Try.prog 46 #[.slice none 0 0, u] w' fun e w'' => e = .returned (.bool true) ∧ Below w'.heap.size w' w'') := fun w' u hb hu => by
          have h := within_any _ _ _ _ w' (isV_isW (isV_below (ownV_isV HT8.out (by rw [List.length_map]; exact elems_le _)) hb)) hu
          rw [inL_elems (d.adm_sub HAD.out)] at h
          exact h
        go_upto_region 18 with (first | (go_at_call 42; refine A2.out.mono ?_; rintro e w9 ⟨xa, xm, xc, rfl, hi9, ⟨hm9, hcap⟩, hb9⟩; have HX9 := hid hi9; have HM9 := hid hm9; have hx16 : xm ≤ 16 := (by have := elems_len (d.dfd 0); omega); have HB9 := hid hb9; clear hi9 hm9 hb9) | fail)
        clear A2
        go_upto_region 21 with (first | (go_at_call 46; refine (A3.out _ _ HB9.out HX9.out).mono ?_; rintro e w10 ⟨rfl, hb10⟩; have HX10 := hid (isV_below HX9.out hb10); have HT10 := hid (ownV_below HT8.out (below_step HB9.out hb10)); have HB10 := hid (below_step HB8.out (below_step HB9.out hb10)); clear hb10) | fail)
        clear A3 HX9 HB9 HT8 HB8
        go_loopw [18] (fun zv wr => ∃ (i : Nat), zv = .int .i64 i ∧ i ≤ xm ∧ Hid (Below w10.heap.size w10 wr)) (fun zv _ => 17 - (intOf zv).toNat)
        case atStart => exact ⟨0, rfl, Nat.zero_le _, Below.refl _ _⟩
        case round =>
          obtain ⟨i, rfl, hi, HBi⟩ := hrel
          rename World => wi
          by_cases him : i < xm
          · have hie : i < (elems (d.dfd 0)).length := by rw [← HM9.out]; exact him
            obtain ⟨g, rfl, -, c0⟩ := isV_at (isV_below HX10.out HBi.out) i (by rw [List.length_map]; exact hie)
            rw [getD_map iv _ 0 i hie] at c0
            have hmem : (elems (d.dfd 0)).getD i 0 ∈ elems (d.dfd 0) := by rw [List.getD_eq_getElem?_getD, List.getElem?_eq_getElem hie]; exact List.getElem_mem hie
            change wi.cell? _ = some (.int .i64 (((elems (d.dfd 0)).getD i 0 : Nat) : Int)) at c0
            generalize (elems (d.dfd 0)).getD i 0 = c at *
            obtain ⟨hc16, hcb⟩ := (mem_elems _ c).1 hmem
            have hcn : c < d.n := bit_lt (d.dfd_lt _) hcb
            have HCB := hid hcb
            have W2 : Hid (∀ y, Calls Try.prog 46 #[.slice (some ⟨g, i, none⟩) 1 y, .slice none 0 0] wi fun e w'' => e = .returned (.bool (Nat.testBit 0 c)) ∧ Below wi.heap.size wi w'') := fun y => by
              have h := within_any (.slice (some ⟨g, i, none⟩) 1 y) _ [c] _ wi ⟨some ⟨g, i, none⟩, y, i, rfl, by rw [List.length_map]; show 1 ≤ 1000000; omega, fun j hj => ⟨g, rfl, by
                have hj0 : j = 0 := by simpa using hj
                subst hj0
                exact c0⟩⟩ (ownV_isV (ownV_below HT10.out HBi.out) (by rw [List.length_map]; exact elems_le _))
              rw [inL_one c _ hc16] at h
              exact h
            have hci : ¬ xc = i := by omega
            have HCI := hid hci
            clear hmem hcb
            cases hbit : Nat.testBit 0 c with
            | true =>
              rw [hbit] at W2
              clear hbit
              go_upto_region 29 with (first | (go_at_call 46; (try rw [if_neg HCI.out]); with_reducible refine (W2.out _).mono ?_; rintro e w11 ⟨rfl, hb11⟩; have HB11 := hid (below_step HBi.out hb11); clear hb11) | fail)
              have HIQ := hid (ownV_isV (ownV_below HT10.out HB11.out) (by rw [List.length_map]; exact elems_le _))
              have B1 := hid (C5.out 0 _ w11 HQn.out (below_step HB10.out HB11.out) HIQ.out)
              rw [HAD.out] at B1
              go_upto_region 30 with (first | (go_at_call 41; refine B1.out.mono ?_; rintro e w12 ⟨rfl, hb12⟩; have HB12 := hid (below_step HB11.out hb12); have HIQ2 := hid (isV_below HIQ.out hb12); clear hb12) | fail)
              have B2 := hid (C4.out 0 _ w12 HQn.out (below_step HB10.out HB12.out) HIQ2.out)
              go_upto_region 31 with (first | (go_at_call 42; refine B2.out.mono ?_; rintro e w13 ⟨ya, ym, yc, rfl, hi13, -, hb13⟩; have HI13 := hid hi13; have HB13 := hid (below_step HB12.out hb13); clear hb13 hi13) | fail)
              have B3 : Hid (Calls Try.prog 46 #[.slice (some ⟨g, 0, none⟩) xm xc, .slice ya ym yc] w13 fun e w'' => e = .returned (.bool true) ∧ Below w13.heap.size w13 w'') := by
                have h := within_any _ _ _ _ w13 (isV_isW (isV_below HX10.out HB13.out)) HI13.out
                rw [inL_elems (sub_refl _)] at h
                exact h
              go_wp2_with (first | (go_at_call 46; refine B3.out.mono ?_; rintro e w14 ⟨rfl, hb14⟩; have HB14 := hid (below_step HB13.out hb14); clear hb14) | fail)
              go_roundw
              case rel => exact ⟨i + 1, by go_num, by omega, HB14⟩
              case measure => simp [intOf]; omega
            | false =>
              rw [hbit] at W2
              have HBIT := hid hbit
              clear hbit
              go_upto_region 26 with (first | (go_at_call 46; (try rw [if_neg HCI.out]); with_reducible refine (W2.out _).mono ?_; rintro e w11 ⟨rfl, hb11⟩; have HB11 := hid (below_step HBi.out hb11); clear hb11) | fail)
              have KEEP : Hid (∀ w', Below w10.heap.size w10 w' → w'.cell? ⟨g, i, none⟩ = some (.int .i64 (c : Int))) := fun w' hb => by
                obtain ⟨g', e, -, d0⟩ := isV_at (isV_below HX10.out hb) i (by rw [List.length_map]; exact hie)
                obtain ⟨g2, e2, -, d2⟩ := isV_at (isV_below HX10.out HBi.out) i (by rw [List.length_map]; exact hie)
                cases e
                cases e2
                obtain ⟨g3, e3, -, d3⟩ := isV_at HX10.out i (by rw [List.length_map]; exact hie)
                cases e3
                have q1 := (hb.cell (World.block_lt_of_cell? w10 _ d3)).trans d3
                have q2 := (HBi.out.cell (World.block_lt_of_cell? w10 _ d3)).trans d3
                rw [c0] at q2
                rw [q1]; exact q2.symm
              clear c0 W2
              go_loopw [20] (fun zv wr => ∃ (k : Nat), zv = .int .i64 k ∧ k ≤ 0 ∧ Hid (∀ j, j < k → (elems 0).getD j 0 < c) ∧ Hid (Below w10.heap.size w10 wr)) (fun zv _ => 17 - (intOf zv).toNat)
              case atStart => exact ⟨0, rfl, Nat.zero_le _, fun j hj => absurd hj (Nat.not_lt_zero _), HB11⟩
              case round =>
                obtain ⟨k, rfl, hk, HLS, HBk⟩ := hrel
                rename World => wk
                have c0 := KEEP.out wk HBk.out
                have hke : k = 0 := by omega
                subst hke
                have HGE : Hid (0 < (elems 0).length → c ≤ (elems 0).getD 0 0) := fun h => by have := HON.out; omega
                go_upto_region 26 with fail
                go_quiet (fail)
                go_upto_region 28 with fail
                have HBk := hid (below_drewN_r HBk.out nq)
                clear c0
                generalize wk.drewN nq = wz at *
                have HBz : Hid (Below w10.heap.size w10 wz) := HBk
                have HOQ := hid (ownV_below HT10.out HBz.out)
                have hkq : 0 ≤ (elems 0).length := by rw [← HON.out]; exact hk
                have HINS := hid (elems_ins (Q := 0) (x := c) (k := 0) hc16 HBIT.out hkq HLS.out HGE.out)
                have HQA : Hid (d.adm (0 ||| 2 ^ c) = true) := by
                  refine d.adm_up HAD.out ((sub_iff _ _).2 fun j hj => by rw [Nat.testBit_or, hj]; rfl) ((sub_iff _ _).2 fun j hj => ?_)
                  rw [Nat.testBit_or, Bool.or_eq_true, Nat.testBit_two_pow, decide_eq_true_iff] at hj
                  rcases hj with hj | rfl
                  · exact (sub_iff _ _).1 (d.adm_sub HAD.out) j hj
                  · exact HCB.out
                have HQ2 : Hid (0 ||| 2 ^ c < 2 ^ d.n) := Nat.or_lt_two_pow HQn.out (Nat.pow_lt_pow_right (by decide) hcn)
                have HQD : Hid (sub (d.dfd 0) (d.dfd (0 ||| 2 ^ c)) = true) := d.dfd_mono ((sub_iff _ _).2 fun j hj => by rw [Nat.testBit_or, hj]; rfl)
                obtain ⟨Q2, hQ2⟩ : ∃ Q2, Q2 = 0 ||| 2 ^ c := ⟨_, rfl⟩
                rw [← hQ2] at HINS HQA HQ2 HQD
                clear hQ2
                obtain ⟨US1, hU1⟩ : ∃ U, U = (((elems 0).map iv).drop 0).take (0 - 0) := ⟨_, rfl⟩
                obtain ⟨US2, hU2⟩ : ∃ U, U = (((elems 0).map iv).drop 0).take (0 - 0) := ⟨_, rfl⟩
                have hl1 : US1.length ≤ 16 := by rw [hU1, List.length_take]; omega
                have LEN1 : Hid (([] ++ US1).length ≤ 1000000) := by show _ ≤ _; rw [List.nil_append]; omega
                have LEN2 : Hid (([] ++ US1 ++ [Value.int .i64 (c : Int)]).length ≤ 1000000) := by show _ ≤ _; rw [List.nil_append, List.length_append]; simp only [List.length_singleton]; omega
                have HK6 : Hid (0 ≤ 1000000) := by show _ ≤ _; omega
                have HK7 : Hid (0 - 0 ≤ 1000000) := by show _ ≤ _; omega
                have HSN : Hid ([] ++ US1 ++ [Value.int .i64 (c : Int)] ++ US2 = (elems Q2).map iv) := by
                  show _ = _
                  have hon := HON.out
                  have e0 : elems 0 = [] := List.eq_nil_of_length_eq_zero hon.symm
                  rw [HINS.out, hU1, hU2, e0]
                  rfl
                have RD1 : Hid (∀ w', Below wz.heap.size wz w' → Rd w' (.slice none 0 0) 0 1 US1) := fun w' hb => by
                  rw [hU1]
                  exact ⟨rfl, fun u hu => (by simp at hu), .inl ⟨rfl, rfl⟩⟩
                have RD2 : Hid (∀ w', Below wz.heap.size wz w' → Rd w' (.slice none 0 0) (0 - 0) 1 US2) := fun w' hb => by
                  rw [hU2]
                  exact ⟨rfl, fun u hu => (by simp at hu), .inl ⟨rfl, rfl⟩⟩
                have KEEPZ : Hid (∀ w', Below wz.heap.size wz w' → w'.cell? ⟨g, i, none⟩ = some (.int .i64 (c : Int))) := fun w' hb => KEEP.out w' (below_step HBz.out hb)
                clear hU1 hU2 hl1 HLS HGE HINS hkq HBIT HOQ
                refine wp_region_held_drew (S := fun w' => w'.cell? ⟨g, i, none⟩ = some (.int .i64 (c : Int))) (by kernel_rfl) (KEEPZ.out _ ((Below.refl _ _).drew)) (fun hHeld => ?_)
                have HU0 : Hid (Below wz.heap.size wz wz.drew) := (Below.refl _ _).drew
                generalize wz.drew = u0 at *
                refine take_at (i := 1) 134 (v := .slice none 0 0) rfl (by kernel_rfl) (by kernel_rfl) (by kernel_rfl) rfl (fun _ _ _ h => h) (by rfl) (fun w hSw => ?_) hHeld ?_
                · (try dsimp only at hSw); go_simp
                simp only [Act.put, List.setIfInBounds_toArray, List.set_cons_zero, List.set_cons_succ]
                refine take_at (i := 2) 135 (v := .int .i64 0) rfl (by kernel_rfl) (by kernel_rfl) (by kernel_rfl) rfl (fun _ _ _ h => h) (by rfl) (fun w hSw => ?_) hHeld ?_
                · (try dsimp only at hSw); go_simp
                simp only [Act.put, List.setIfInBounds_toArray, List.set_cons_zero, List.set_cons_succ]
                refine take_at (i := 3) 136 (v := .slice none 0 0) rfl (by kernel_rfl) (by kernel_rfl) (by kernel_rfl) rfl (fun _ _ _ h => h) (by rfl) (fun w hSw => ?_) hHeld ?_
                · (try dsimp only at hSw); go_simp
                simp only [Act.put, List.setIfInBounds_toArray, List.set_cons_zero, List.set_cons_succ]
                refine take_at (i := 5) 138 (v := .slice (some ⟨g, 0, none⟩) xm xc) rfl (by kernel_rfl) (by kernel_rfl) (by kernel_rfl) rfl (fun _ _ _ h => h) (by rfl) (fun w hSw => ?_) hHeld ?_
                · (try dsimp only at hSw); go_simp
                simp only [Act.put, List.setIfInBounds_toArray, List.set_cons_zero, List.set_cons_succ]
                refine take_at (i := 6) 139 (v := .int .i64 i) rfl (by kernel_rfl) (by kernel_rfl) (by kernel_rfl) rfl (fun _ _ _ h => h) (by rfl) (fun w hSw => ?_) hHeld ?_
                · (try dsimp only at hSw); go_simp
                simp only [Act.put, List.setIfInBounds_toArray, List.set_cons_zero, List.set_cons_succ]
                refine take_at (i := 7) 140 (v := .pointer (some ⟨g, i, none⟩)) rfl (by kernel_rfl) (by kernel_rfl) (by kernel_rfl) rfl (fun _ _ _ h => h) (by rfl) (fun w hSw => ?_) hHeld ?_
                · (try dsimp only at hSw); go_simp
                simp only [Act.put, List.setIfInBounds_toArray, List.set_cons_zero, List.set_cons_succ]
                refine take_at (i := 8) 141 (v := .int .i64 (c : Int)) rfl (by kernel_rfl) (by kernel_rfl) (by kernel_rfl) rfl (fun _ _ _ h => h) (by rfl) (fun w hSw => ?_) hHeld ?_
                · (try dsimp only at hSw); go_simp
                simp only [Act.put, List.setIfInBounds_toArray, List.set_cons_zero, List.set_cons_succ]
                refine take_at (i := 11) 144 (v := .slice none 0 0) rfl (by kernel_rfl) (by kernel_rfl) (by kernel_rfl) rfl (fun _ _ _ h => h) (by rfl) (fun w hSw => ?_) hHeld ?_
                · (try dsimp only at hSw); go_simp
                simp only [Act.put, List.setIfInBounds_toArray, List.set_cons_zero, List.set_cons_succ]
                refine take_at (i := 12) 145 (v := .int .i64 0) rfl (by kernel_rfl) (by kernel_rfl) (by kernel_rfl) rfl (fun _ _ _ h => h) (by rfl) (fun w hSw => ?_) hHeld ?_
                · (try dsimp only at hSw); go_simp
                simp only [Act.put, List.setIfInBounds_toArray, List.set_cons_zero, List.set_cons_succ]
                refine take_at (i := 13) 146 (v := .slice none 0 0) rfl (by kernel_rfl) (by kernel_rfl) (by kernel_rfl) rfl (fun _ _ _ h => h) (by rfl) (fun w hSw => ?_) hHeld ?_
                · (try dsimp only at hSw); go_simp
                simp only [Act.put, List.setIfInBounds_toArray, List.set_cons_zero, List.set_cons_succ]
                refine wpAnyH_ready (rs := [0, 9]) (by kernel_rfl) (by simp) ?_
                refine node_none24 133 rfl rfl rfl rfl (KEEPZ.out _ (Below.alloc HU0.out (Below.size HU0.out) _)) (fun hHeld => ?_) ?_
                · have HU1 := hid (Below.alloc HU0.out (Below.size HU0.out) (.cells #[] 3))
                  have GA1 := hid (heap_alloc_new u0 (.cells #[] 3))
                  obtain ⟨u1, hu⟩ : ∃ v, v = u0.alloc (.cells #[] 3) := ⟨_, rfl⟩
                  obtain ⟨b0, hb0⟩ : ∃ b, b = u0.heap.size := ⟨_, rfl⟩
                  have HB0 : Hid (wz.heap.size ≤ b0) := by rw [hb0]; exact HU0.out.size
                  rw [← hu] at HU1 GA1 ⊢
                  rw [← hb0] at GA1 ⊢
                  replace hHeld := KEEPZ.out _ HU1.out
                  clear hu hb0
                  simp only [Act.put, List.setIfInBounds_toArray, List.set_cons_zero, List.set_cons_succ]
                  refine wpAnyH_ready (rs := [4, 9]) (by kernel_rfl) (by simp) ?_
                  refine node_app24n 137 wz.heap.size 133 136 (.slice (some ⟨b0, 0, none⟩) 0 0) [] (.slice none 0 0) 0 US1 rfl rfl rfl rfl rfl rfl (RD1.out _ HU1.out) (row_of_block (size := 1) GA1.out HB0.out) HU1.out.size ⟨Nat.zero_le _, HK6.out⟩ ?_ ?_
                  · intro v4 u2 ho4 hg4
                    have O2 := hid ho4
                    have HU2 : Hid (Below wz.heap.size wz u2) := HU1.out.grown hg4 HU1.out.size (fun q hq => (World.ownsRow.lt (row_of_block (size := 1) GA1.out HB0.out) q hq).1)
                    refine ⟨KEEPZ.out _ HU2.out, ?_⟩
                    have hHeld := KEEPZ.out _ HU2.out
                    clear ho4 hg4
                    simp only [Act.put, List.setIfInBounds_toArray, List.set_cons_zero, List.set_cons_succ]
                    refine wpAnyH_ready (rs := [9]) (by kernel_rfl) (by simp) ?_
                    refine node_build24 142 141 (c : Int) rfl (by rfl) rfl rfl rfl (KEEPZ.out _ (Below.alloc HU2.out (Below.size HU2.out) _)) (fun hHeld => ?_) AllReadyH.nil
                    · have HU3 := hid (Below.alloc HU2.out (Below.size HU2.out) (.cells #[.int .i64 (c : Int)] 3))
                      have GB3 := hid (heap_alloc_new u2 (.cells #[.int .i64 (c : Int)] 3))
                      have O3 := hid (ownV_below O2.out (ba u2 (.cells #[.int .i64 (c : Int)] 3)))
                      obtain ⟨u3, hu⟩ : ∃ v, v = u2.alloc (.cells #[.int .i64 (c : Int)] 3) := ⟨_, rfl⟩
                      obtain ⟨b9, hb9⟩ : ∃ b, b = u2.heap.size := ⟨_, rfl⟩
                      rw [← hu] at HU3 GB3 O3 ⊢
                      rw [← hb9] at GB3 ⊢
                      replace hHeld := KEEPZ.out _ HU3.out
                      clear hu hb9
                      simp only [Act.put, List.setIfInBounds_toArray, List.set_cons_zero, List.set_cons_succ]
                      refine wpAnyH_ready (rs := [10]) (by kernel_rfl) (by simp) ?_
                      refine node_app24n 143 wz.heap.size 137 142 v4 ([] ++ US1) (.slice (some ⟨b9, 0, none⟩) 1 1) 1 [.int .i64 (c : Int)] rfl rfl rfl rfl rfl rfl (rd_one GB3.out) O3.out HU3.out.size ⟨LEN1.out, by decide⟩ ?_ AllReadyH.nil
                      · intro v10 u4 ho4 hg4
                        have O4 := hid ho4
                        have HU4 : Hid (Below wz.heap.size wz u4) := HU3.out.grown hg4 HU3.out.size (fun q hq => (World.ownsRow.lt O3.out q hq).1)
                        refine ⟨KEEPZ.out _ HU4.out, ?_⟩
                        have hHeld := KEEPZ.out _ HU4.out
                        clear ho4 hg4
                        simp only [Act.put, List.setIfInBounds_toArray, List.set_cons_zero, List.set_cons_succ]
                        refine wpAnyH_ready (rs := [14]) (by kernel_rfl) (by simp) ?_
                        refine node_app24n 147 wz.heap.size 143 146 v10 ([] ++ US1 ++ [.int .i64 (c : Int)]) (.slice none 0 0) (0 - 0) US2 rfl rfl rfl rfl rfl rfl (RD2.out _ HU4.out) O4.out HU4.out.size ⟨LEN2.out, HK7.out⟩ ?_ AllReadyH.nil
                        · intro v14 u5 ho4 hg4
                          rw [HSN.out] at ho4
                          obtain ⟨ma, mn, mc, rfl⟩ := ownV_sh ho4
                          have HO14 := hid ho4
                          have HU5 : Hid (Below wz.heap.size wz u5) := HU4.out.grown hg4 HU4.out.size (fun q hq => (World.ownsRow.lt O4.out q hq).1)
                          refine ⟨KEEPZ.out _ HU5.out, ?_⟩
                          have hHeld := KEEPZ.out _ HU5.out
                          clear ho4 hg4
                          simp only [Act.put, List.setIfInBounds_toArray, List.set_cons_zero, List.set_cons_succ]
                          refine take_at (i := 15) 19 (v := .slice ma mn mc) rfl (by kernel_rfl) (by kernel_rfl) (by kernel_rfl) rfl (fun _ _ _ h => h) (by rfl) (fun w hSw => ?_) hHeld ?_
                          · (try dsimp only at hSw); go_simp
                          simp only [Act.put, List.setIfInBounds_toArray, List.set_cons_zero, List.set_cons_succ]
                          refine wpAnyH_done (by kernel_rfl) ?_ _
                          clear hHeld
                          have HZ := hid (below_step HBz.out HU5.out)
                          generalize u5 = w11 at *
                          have HIM := hid (ownV_isV HO14.out (by rw [List.length_map]; exact elems_le _))
                          have B1 := hid (C5.out Q2 _ w11 HQ2.out (below_step HB10.out HZ.out) HIM.out)
                          rw [HQA.out] at B1
                          go_upto_region 30 with (first | (go_at_call 41; refine B1.out.mono ?_; rintro e w12 ⟨rfl, hb12⟩; have HB12 := hid (below_step HZ.out hb12); have HIM2 := hid (isV_below HIM.out hb12); clear hb12) | fail)
                          have B2 := hid (C4.out Q2 _ w12 HQ2.out (below_step HB10.out HB12.out) HIM2.out)
                          go_upto_region 31 with (first | (go_at_call 42; refine B2.out.mono ?_; rintro e w13 ⟨ya, ym, yc, rfl, hi13, -, hb13⟩; have HI13 := hid hi13; have HB13 := hid (below_step HB12.out hb13); clear hb13 hi13) | fail)
                          have B3 : Hid (Calls Try.prog 46 #[.slice (some ⟨g, 0, none⟩) xm xc, .slice ya ym yc] w13 fun e w'' => e = .returned (.bool true) ∧ Below w13.heap.size w13 w'') := by
                            have h := within_any _ _ _ _ w13 (isV_isW (isV_below HX10.out HB13.out)) HI13.out
                            rw [inL_elems HQD.out] at h
                            exact h
                          go_wp2_with (first | (go_at_call 46; refine B3.out.mono ?_; rintro e w14 ⟨rfl, hb14⟩; have HB14 := hid (below_step HB13.out hb14); clear hb14) | fail)
                          go_roundw
                          case rel => exact ⟨i + 1, by go_num, by omega, HB14⟩
                          case measure => simp [intOf]; omega
                  refine node_build24 142 141 (c : Int) rfl (by rfl) rfl rfl rfl (KEEPZ.out _ (Below.alloc HU1.out (Below.size HU1.out) _)) (fun hHeld => ?_) AllReadyH.nil
                  · have HU2 := hid (Below.alloc HU1.out (Below.size HU1.out) (.cells #[.int .i64 (c : Int)] 3))
                    have GB2 := hid (heap_alloc_new u1 (.cells #[.int .i64 (c : Int)] 3))
                    have GA2 := hid ((Below.heap_alloc u1 (.cells #[.int .i64 (c : Int)] 3) b0 (heap_lt GA1.out)).trans GA1.out)
                    obtain ⟨u2, hu⟩ : ∃ v, v = u1.alloc (.cells #[.int .i64 (c : Int)] 3) := ⟨_, rfl⟩
                    obtain ⟨b9, hb9⟩ : ∃ b, b = u1.heap.size := ⟨_, rfl⟩
                    have NE : Hid (b9 ≠ b0) := by have := heap_lt GA1.out; show _ ≠ _; omega
                    rw [← hu] at HU2 GB2 GA2 ⊢
                    rw [← hb9] at GB2 ⊢
                    replace hHeld := KEEPZ.out _ HU2.out
                    clear hu hb9
                    simp only [Act.put, List.setIfInBounds_toArray, List.set_cons_zero, List.set_cons_succ]
                    refine wpAnyH_ready (rs := [4]) (by kernel_rfl) (by simp) ?_
                    refine node_app24n 137 wz.heap.size 133 136 (.slice (some ⟨b0, 0, none⟩) 0 0) [] (.slice none 0 0) 0 US1 rfl rfl rfl rfl rfl rfl (RD1.out _ HU2.out) (row_of_block (size := 1) GA2.out HB0.out) HU2.out.size ⟨Nat.zero_le _, HK6.out⟩ ?_ AllReadyH.nil
                    · intro v4 u3 ho4 hg4
                      have O3 := hid ho4
                      have HU3 : Hid (Below wz.heap.size wz u3) := HU2.out.grown hg4 HU2.out.size (fun q hq => (World.ownsRow.lt (row_of_block (size := 1) GA2.out HB0.out) q hq).1)
                      have GB3 := hid ((hg4.block b9 (heap_lt GB2.out) (by intro e; simp [Value.ownBlock] at e; first | exact NE.out e | exact NE.out e.symm)).trans GB2.out)
                      refine ⟨KEEPZ.out _ HU3.out, ?_⟩
                      have hHeld := KEEPZ.out _ HU3.out
                      clear ho4 hg4
                      simp only [Act.put, List.setIfInBounds_toArray, List.set_cons_zero, List.set_cons_succ]
                      refine wpAnyH_ready (rs := [10]) (by kernel_rfl) (by simp) ?_
                      refine node_app24n 143 wz.heap.size 137 142 v4 ([] ++ US1) (.slice (some ⟨b9, 0, none⟩) 1 1) 1 [.int .i64 (c : Int)] rfl rfl rfl rfl rfl rfl (rd_one GB3.out) O3.out HU3.out.size ⟨LEN1.out, by decide⟩ ?_ AllReadyH.nil
                      · intro v10 u4 ho4 hg4
                        have O4 := hid ho4
                        have HU4 : Hid (Below wz.heap.size wz u4) := HU3.out.grown hg4 HU3.out.size (fun q hq => (World.ownsRow.lt O3.out q hq).1)
                        refine ⟨KEEPZ.out _ HU4.out, ?_⟩
                        have hHeld := KEEPZ.out _ HU4.out
                        clear ho4 hg4
                        simp only [Act.put, List.setIfInBounds_toArray, List.set_cons_zero, List.set_cons_succ]
                        refine wpAnyH_ready (rs := [14]) (by kernel_rfl) (by simp) ?_
                        refine node_app24n 147 wz.heap.size 143 146 v10 ([] ++ US1 ++ [.int .i64 (c : Int)]) (.slice none 0 0) (0 - 0) US2 rfl rfl rfl rfl rfl rfl (RD2.out _ HU4.out) O4.out HU4.out.size ⟨LEN2.out, HK7.out⟩ ?_ AllReadyH.nil
                        · intro v14 u5 ho4 hg4
                          rw [HSN.out] at ho4
                          obtain ⟨ma, mn, mc, rfl⟩ := ownV_sh ho4
                          have HO14 := hid ho4
                          have HU5 : Hid (Below wz.heap.size wz u5) := HU4.out.grown hg4 HU4.out.size (fun q hq => (World.ownsRow.lt O4.out q hq).1)
                          refine ⟨KEEPZ.out _ HU5.out, ?_⟩
                          have hHeld := KEEPZ.out _ HU5.out
                          clear ho4 hg4
                          simp only [Act.put, List.setIfInBounds_toArray, List.set_cons_zero, List.set_cons_succ]
                          refine take_at (i := 15) 19 (v := .slice ma mn mc) rfl (by kernel_rfl) (by kernel_rfl) (by kernel_rfl) rfl (fun _ _ _ h => h) (by rfl) (fun w hSw => ?_) hHeld ?_
                          · (try dsimp only at hSw); go_simp
                          simp only [Act.put, List.setIfInBounds_toArray, List.set_cons_zero, List.set_cons_succ]
                          refine wpAnyH_done (by kernel_rfl) ?_ _
                          clear hHeld
                          have HZ := hid (below_step HBz.out HU5.out)
                          generalize u5 = w11 at *
                          have HIM := hid (ownV_isV HO14.out (by rw [List.length_map]; exact elems_le _))
                          have B1 := hid (C5.out Q2 _ w11 HQ2.out (below_step HB10.out HZ.out) HIM.out)
                          rw [HQA.out] at B1
                          go_upto_region 30 with (first | (go_at_call 41; refine B1.out.mono ?_; rintro e w12 ⟨rfl, hb12⟩; have HB12 := hid (below_step HZ.out hb12); have HIM2 := hid (isV_below HIM.out hb12); clear hb12) | fail)
                          have B2 := hid (C4.out Q2 _ w12 HQ2.out (below_step HB10.out HB12.out) HIM2.out)
                          go_upto_region 31 with (first | (go_at_call 42; refine B2.out.mono ?_; rintro e w13 ⟨ya, ym, yc, rfl, hi13, -, hb13⟩; have HI13 := hid hi13; have HB13 := hid (below_step HB12.out hb13); clear hb13 hi13) | fail)
                          have B3 : Hid (Calls Try.prog 46 #[.slice (some ⟨g, 0, none⟩) xm xc, .slice ya ym yc] w13 fun e w'' => e = .returned (.bool true) ∧ Below w13.heap.size w13 w'') := by
                            have h := within_any _ _ _ _ w13 (isV_isW (isV_below HX10.out HB13.out)) HI13.out
                            rw [inL_elems HQD.out] at h
                            exact h
                          go_wp2_with (first | (go_at_call 46; refine B3.out.mono ?_; rintro e w14 ⟨rfl, hb14⟩; have HB14 := hid (below_step HB13.out hb14); clear hb14) | fail)
                          go_roundw
                          case rel => exact ⟨i + 1, by go_num, by omega, HB14⟩
                          case measure => simp [intOf]; omega
                refine node_build24 142 141 (c : Int) rfl (by rfl) rfl rfl rfl (KEEPZ.out _ (Below.alloc HU0.out (Below.size HU0.out) _)) (fun hHeld => ?_) AllReadyH.nil
                · have HU1 := hid (Below.alloc HU0.out (Below.size HU0.out) (.cells #[.int .i64 (c : Int)] 3))
                  have GB1 := hid (heap_alloc_new u0 (.cells #[.int .i64 (c : Int)] 3))
                  obtain ⟨u1, hu⟩ : ∃ v, v = u0.alloc (.cells #[.int .i64 (c : Int)] 3) := ⟨_, rfl⟩
                  obtain ⟨b9, hb9⟩ : ∃ b, b = u0.heap.size := ⟨_, rfl⟩
                  rw [← hu] at HU1 GB1 ⊢
                  rw [← hb9] at GB1 ⊢
                  replace hHeld := KEEPZ.out _ HU1.out
                  clear hu hb9
                  simp only [Act.put, List.setIfInBounds_toArray, List.set_cons_zero, List.set_cons_succ]
                  refine wpAnyH_ready (rs := [0]) (by kernel_rfl) (by simp) ?_
                  refine node_none24 133 rfl rfl rfl rfl (KEEPZ.out _ (Below.alloc HU1.out (Below.size HU1.out) _)) (fun hHeld => ?_) AllReadyH.nil
                  · have HU2 := hid (Below.alloc HU1.out (Below.size HU1.out) (.cells #[] 3))
                    have GA2 := hid (heap_alloc_new u1 (.cells #[] 3))
                    have GB2 := hid ((Below.heap_alloc u1 (.cells #[] 3) b9 (heap_lt GB1.out)).trans GB1.out)
                    obtain ⟨u2, hu⟩ : ∃ v, v = u1.alloc (.cells #[] 3) := ⟨_, rfl⟩
                    obtain ⟨b0, hb0⟩ : ∃ b, b = u1.heap.size := ⟨_, rfl⟩
                    have NE : Hid (b9 ≠ b0) := by have := heap_lt GB1.out; show _ ≠ _; omega
                    have HB0 : Hid (wz.heap.size ≤ b0) := by rw [hb0]; exact HU1.out.size
                    rw [← hu] at HU2 GA2 GB2 ⊢
                    rw [← hb0] at GA2 ⊢
                    replace hHeld := KEEPZ.out _ HU2.out
                    clear hu hb0
                    simp only [Act.put, List.setIfInBounds_toArray, List.set_cons_zero, List.set_cons_succ]
                    refine wpAnyH_ready (rs := [4]) (by kernel_rfl) (by simp) ?_
                    refine node_app24n 137 wz.heap.size 133 136 (.slice (some ⟨b0, 0, none⟩) 0 0) [] (.slice none 0 0) 0 US1 rfl rfl rfl rfl rfl rfl (RD1.out _ HU2.out) (row_of_block (size := 1) GA2.out HB0.out) HU2.out.size ⟨Nat.zero_le _, HK6.out⟩ ?_ AllReadyH.nil
                    · intro v4 u3 ho4 hg4
                      have O3 := hid ho4
                      have HU3 : Hid (Below wz.heap.size wz u3) := HU2.out.grown hg4 HU2.out.size (fun q hq => (World.ownsRow.lt (row_of_block (size := 1) GA2.out HB0.out) q hq).1)
                      have GB3 := hid ((hg4.block b9 (heap_lt GB2.out) (by intro e; simp [Value.ownBlock] at e; first | exact NE.out e | exact NE.out e.symm)).trans GB2.out)
                      refine ⟨KEEPZ.out _ HU3.out, ?_⟩
                      have hHeld := KEEPZ.out _ HU3.out
                      clear ho4 hg4
                      simp only [Act.put, List.setIfInBounds_toArray, List.set_cons_zero, List.set_cons_succ]
                      refine wpAnyH_ready (rs := [10]) (by kernel_rfl) (by simp) ?_
                      refine node_app24n 143 wz.heap.size 137 142 v4 ([] ++ US1) (.slice (some ⟨b9, 0, none⟩) 1 1) 1 [.int .i64 (c : Int)] rfl rfl rfl rfl rfl rfl (rd_one GB3.out) O3.out HU3.out.size ⟨LEN1.out, by decide⟩ ?_ AllReadyH.nil
                      · intro v10 u4 ho4 hg4
                        have O4 := hid ho4
                        have HU4 : Hid (Below wz.heap.size wz u4) := HU3.out.grown hg4 HU3.out.size (fun q hq => (World.ownsRow.lt O3.out q hq).1)
                        refine ⟨KEEPZ.out _ HU4.out, ?_⟩
                        have hHeld := KEEPZ.out _ HU4.out
                        clear ho4 hg4
                        simp only [Act.put, List.setIfInBounds_toArray, List.set_cons_zero, List.set_cons_succ]
                        refine wpAnyH_ready (rs := [14]) (by kernel_rfl) (by simp) ?_
                        refine node_app24n 147 wz.heap.size 143 146 v10 ([] ++ US1 ++ [.int .i64 (c : Int)]) (.slice none 0 0) (0 - 0) US2 rfl rfl rfl rfl rfl rfl (RD2.out _ HU4.out) O4.out HU4.out.size ⟨LEN2.out, HK7.out⟩ ?_ AllReadyH.nil
                        · intro v14 u5 ho4 hg4
                          rw [HSN.out] at ho4
                          obtain ⟨ma, mn, mc, rfl⟩ := ownV_sh ho4
                          have HO14 := hid ho4
                          have HU5 : Hid (Below wz.heap.size wz u5) := HU4.out.grown hg4 HU4.out.size (fun q hq => (World.ownsRow.lt O4.out q hq).1)
                          refine ⟨KEEPZ.out _ HU5.out, ?_⟩
                          have hHeld := KEEPZ.out _ HU5.out
                          clear ho4 hg4
                          simp only [Act.put, List.setIfInBounds_toArray, List.set_cons_zero, List.set_cons_succ]
                          refine take_at (i := 15) 19 (v := .slice ma mn mc) rfl (by kernel_rfl) (by kernel_rfl) (by kernel_rfl) rfl (fun _ _ _ h => h) (by rfl) (fun w hSw => ?_) hHeld ?_
                          · (try dsimp only at hSw); go_simp
                          simp only [Act.put, List.setIfInBounds_toArray, List.set_cons_zero, List.set_cons_succ]
                          refine wpAnyH_done (by kernel_rfl) ?_ _
                          clear hHeld
                          have HZ := hid (below_step HBz.out HU5.out)
                          generalize u5 = w11 at *
                          have HIM := hid (ownV_isV HO14.out (by rw [List.length_map]; exact elems_le _))
                          have B1 := hid (C5.out Q2 _ w11 HQ2.out (below_step HB10.out HZ.out) HIM.out)
                          rw [HQA.out] at B1
                          go_upto_region 30 with (first | (go_at_call 41; refine B1.out.mono ?_; rintro e w12 ⟨rfl, hb12⟩; have HB12 := hid (below_step HZ.out hb12); have HIM2 := hid (isV_below HIM.out hb12); clear hb12) | fail)
                          have B2 := hid (C4.out Q2 _ w12 HQ2.out (below_step HB10.out HB12.out) HIM2.out)
                          go_upto_region 31 with (first | (go_at_call 42; refine B2.out.mono ?_; rintro e w13 ⟨ya, ym, yc, rfl, hi13, -, hb13⟩; have HI13 := hid hi13; have HB13 := hid (below_step HB12.out hb13); clear hb13 hi13) | fail)
                          have B3 : Hid (Calls Try.prog 46 #[.slice (some ⟨g, 0, none⟩) xm xc, .slice ya ym yc] w13 fun e w'' => e = .returned (.bool true) ∧ Below w13.heap.size w13 w'') := by
                            have h := within_any _ _ _ _ w13 (isV_isW (isV_below HX10.out HB13.out)) HI13.out
                            rw [inL_elems HQD.out] at h
                            exact h
                          go_wp2_with (first | (go_at_call 46; refine B3.out.mono ?_; rintro e w14 ⟨rfl, hb14⟩; have HB14 := hid (below_step HB13.out hb14); clear hb14) | fail)
                          go_roundw
                          case rel => exact ⟨i + 1, by go_num, by omega, HB14⟩
                          case measure => simp [intOf]; omega
          · have FIN := hid (below_step (below_step HB2.out HB10.out) HBi.out)
            go_wp2_with fail
            go_ret
            exact ⟨rfl, FIN.out⟩
end Go.Proofs.Ytaedbkdimpdngaa
