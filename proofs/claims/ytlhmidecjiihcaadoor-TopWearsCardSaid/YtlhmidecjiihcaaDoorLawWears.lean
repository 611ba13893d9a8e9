/-
  TopWears.
-/
import Derived.Test.YtlhmidecjiihcaaDoorLastA
import Derived.Test.YtlhmidecjiihcaaDoorPlainW
namespace Go.Proofs.YtlhmidecjiihcaaDoor
open Go.RowKit
theorem u8_in {a : Int} (h : (Lit.int .u8 a).wf = true) : 0 ≤ a ∧ a ≤ 255 := by
  unfold Lit.wf at h
  rw [Bool.and_eq_true, decide_eq_true_eq, decide_eq_true_eq] at h
  have h1 : IntKind.u8.min = 0 := by decide
  have h2 : IntKind.u8.max = 255 := by decide
  omega
/-- how many of the first powers are written as m itself -/
def cntP (m j : Nat) : Nat := ((List.range j).filter fun x => dec (m ^ x) == dec m).length
theorem cntP_succ (m j : Nat) : cntP m (j + 1) = cntP m j + if dec (m ^ j) = dec m then 1 else 0 := by
  unfold cntP
  rw [List.range_succ, List.filter_append, List.length_append]
  congr 1
  rw [List.filter_cons]
  by_cases h : dec (m ^ j) = dec m
  · rw [if_pos (by rw [beq_iff_eq]; exact h), if_pos h]; rfl
  · rw [if_neg (by rw [beq_iff_eq]; exact h), if_neg h]; rfl
theorem cntP_all : ∀ m < 13, 1 ≤ m → ∀ n < 7, 2 ≤ n → cntP m n = if m = 1 then n else 1 := by decide +kernel
theorem info39 : (Tryd.prog.info? 39).map (fun i => (i.zero, i.size, i.bytes)) = some (some (.agg #[.int .i64 0, .int .i64 0, .int .i64 0, .int .i64 0]), 4, 32) := by kernel_rfl
set_option maxRecDepth 100000 in
set_option maxHeartbeats 16000000 in
theorem TopWears_ok (a b c : Int) (w : World) (ha : (Lit.int .u8 a).wf = true) (hb : (Lit.int .u8 b).wf = true) (hc : (Lit.int .u8 c).wf = true) :
    Calls Tryd.prog 3 #[.int .u8 a, .int .u8 b, .int .u8 c] w fun e w' => e = .returned (.bool true) ∧ Below w.heap.size w w' := by
  have ha2 := u8_in ha
  have hb2 := u8_in hb
  have hc2 := u8_in hc
  clear ha hb hc
  obtain ⟨ax, rfl⟩ : ∃ x : Nat, a = x := ⟨a.toNat, by omega⟩
  obtain ⟨bx, rfl⟩ : ∃ x : Nat, b = x := ⟨b.toNat, by omega⟩
  obtain ⟨cx, rfl⟩ : ∃ x : Nat, c = x := ⟨c.toNat, by omega⟩
  obtain ⟨ha3, ha4⟩ := ha2
  obtain ⟨hb3, hb4⟩ := hb2
  obtain ⟨hc3, hc4⟩ := hc2
  obtain ⟨m, hm⟩ : ∃ m : Nat, (ax : Int) % 12 + 1 = (m : Int) := ⟨ax % 12 + 1, by omega⟩
  obtain ⟨t, ht⟩ : ∃ t : Nat, (bx : Int) % 4 = (t : Int) := ⟨bx % 4, by omega⟩
  obtain ⟨n, hn⟩ : ∃ n : Nat, (cx : Int) % 5 + 2 = (n : Int) := ⟨cx % 5 + 2, by omega⟩
  have hm1 : 1 ≤ m := by omega
  have hm2 : m ≤ 12 := by omega
  have ht4 : t < 4 := by omega
  have hn1 : 2 ≤ n := by omega
  have hn2 : n ≤ 6 := by omega
  have HB0 := hid (ba w (.cells #[] 23))
  have HO0 := hid (ownV_made w w.heap.size 23 (Nat.le_refl _))
  go_enter Tryd.func3, Tryd.ntmps3
  go_upto_region 3 with fail
  generalize w.alloc (.cells #[] 23) = w1 at *
  go_wp2_with fail
  have HM := hid hm
  obtain ⟨s, hs⟩ : ∃ s : Nat, s = sz m t := ⟨_, rfl⟩
  have hsz : min ((m : Int) * ((t : Int) + 2)) 41 = (s : Int) := by
    rw [hs]; unfold sz
    rw [show (m : Int) * ((t : Int) + 2) = ((m * (t + 2) : Nat) : Int) by simp]
    omega
  have HSZ := hid hs
  have hs41 : s ≤ 41 := by rw [hs]; exact sz_le _ _
  have hs2 : 2 * m ≤ s := by rw [hs]; exact sz_two hm2
  clear hs
  have hmt : (m : Int) * ((t : Int) + 2) ≤ 60 := by
    have h1 : m * (t + 2) ≤ 12 * 5 := Nat.mul_le_mul hm2 (by omega)
    rw [show (m : Int) * ((t : Int) + 2) = ((m * (t + 2) : Nat) : Int) by simp]
    omega
  have hmt0 : 0 ≤ (m : Int) * ((t : Int) + 2) := Int.mul_nonneg (by omega) (by omega)
  go_loopw [9, 10] (fun lw iv wr => ∃ i : Nat, iv = .int .i64 ((i : Int) + 1) ∧ i + 1 ≤ m ∧ (∃ x y z, lw = .slice x y z) ∧ Hid (OwnV wr w.heap.size 23 lw (List.replicate i (sd 0))) ∧ Hid (Below w.heap.size w wr)) (fun _ iv _ => m - (intOf iv).toNat)
  case atStart => exact ⟨0, rfl, hm1, ⟨_, _, _, rfl⟩, HO0, HB0⟩
  case round =>
    obtain ⟨i, rfl, hi, ⟨la, ln, lc, rfl⟩, HOr, HBr⟩ := hrel
    rename World => wr
    have HLn : Hid ((List.replicate i (sd 0)).length < 1000000) := hid (by rw [List.length_replicate]; omega)
    have HWS : Hid (w.heap.size ≤ wr.heap.size) := HBr.out.size
    by_cases hlt : i + 1 < m
    · go_wp2_with (first
        | (at_builtin; refine wpl_app_v 22 23 (.string ⟨#[]⟩) 16 info23 rfl (by kernel_rfl) (by decide) (sd 0) rfl _ _ (.slice la ln lc) w.heap.size (List.replicate i (sd 0)) (by rfl) (by rfl) (by rfl) (by rfl) HOr.out HLn.out HWS.out ?_; intro v' w7 ho7 hb7 hg7; have HO7 := hid ho7; have HB7 := hid (HBr.out.trans hb7); obtain ⟨sa, sn, sc, rfl⟩ := ownV_sh ho7; clear ho7 hb7 hg7)
        | fail)
      go_roundw
      case rel => exact ⟨i + 1, by go_num, by omega, ⟨_, _, _, rfl⟩, by rw [List.replicate_succ']; exact HO7, HB7⟩
      case measure => simp [intOf]; omega
    · have HIM : Hid (i = m - 1) := hid (by omega)
      go_upto_region 8 with (first
        | (at_builtin; refine wpl_app_v 22 23 (.string ⟨#[]⟩) 16 info23 rfl (by kernel_rfl) (by decide) (sd 1) rfl _ _ (.slice la ln lc) w.heap.size (List.replicate i (sd 0)) (by rfl) (by rfl) (by rfl) (by rfl) HOr.out HLn.out HWS.out ?_; intro v' w7 ho7 hb7 hg7; have HO7 := hid ho7; have HB7 := hid (HBr.out.trans hb7); obtain ⟨sa, sn, sc, rfl⟩ := ownV_sh ho7; clear ho7 hb7 hg7)
        | fail)
      have HLV : Hid (∀ w', Below w7.heap.size w7 w' → IsV w' (.slice sa sn sc) ((lv m).map sd)) := fun w' h => by
        have e : (lv m).map sd = List.replicate i (sd 0) ++ [sd 1] := by
          unfold lv; rw [HIM.out]; simp
        rw [e]
        exact isV_below (ownV_isV HO7.out (by simp; have := HIM.out; omega)) h
      have hs1 : (s : Int) - 1 = ((s - 1 : Nat) : Int) := by omega
      obtain ⟨s1, hs1e⟩ : ∃ s1, s1 = s - 1 := ⟨_, rfl⟩
      rw [← hs1e] at hs1
      have RN : Hid (∀ w', Below w7.heap.size w7 w' → Calls Tryd.prog 4 #[.slice sa sn sc, .int .i64 (s1 : Int)] w' fun e w'' => ∃ x, e = .returned (.tuple #[x, .int .i64 0]) ∧ OwnV w'' w'.heap.size 23 x ((us m s).map sd) ∧ Below w'.heap.size w' w'') := fun w' h => by
        have k := renew_lv m s1 _ w' hm1 hm2 (by omega) (HLV.out w' h)
        rwa [show s1 + 1 = s by omega] at k
      have MN : Hid (∀ w', Below w7.heap.size w7 w' → Calls Tryd.prog 5 #[.slice sa sn sc] w' fun e w'' => e = .returned (.tuple #[sd m, .int .i64 (m : Int), .int .i64 0]) ∧ Below w'.heap.size w' w'') := fun w' h => mean_lv m _ w' hm1 hm2 (HLV.out w' h)
      have HUL : Hid ((us m s).length = s) := hid (by unfold us; simp)
      obtain ⟨mb, hmb⟩ : ∃ q, q = (⟨(dec m).toArray⟩ : ByteArray) := ⟨_, rfl⟩
      have HMD : Hid (sd m = .string mb) := hid (by rw [hmb]; rfl)
      rw [HMD.out] at MN
      have HMB := hid hmb
      clear hs1e hmb
      have RN7 := hid (RN.out w7 (Below.refl _ _))
      go_wp2_with fail
      go_at_call 4
      refine RN7.out.mono ?_
      rintro e w8 ⟨x8, rfl, ho8, hb8⟩
      have HB8 := hid hb8
      have HO8 : Hid (OwnV w8 w7.heap.size 23 x8 ((us m s).map sd)) := ho8
      have MN8 := hid (MN.out w8 hb8)
      obtain ⟨ua, uc, rfl⟩ := ownV_slice ho8
      rw [List.length_map, HUL.out] at HO8 ⊢
      clear ho8 hb8 RN7 RN MN
      go_wp2_with fail
      go_at_call 5
      refine MN8.out.mono ?_
      rintro e w9 ⟨rfl, hb9⟩
      have HB9 := hid (below_step HB8.out hb9)
      have HO9 := hid (ownV_below HO8.out hb9)
      clear hb9 MN8 HO8
      go_upto_region 14 with fail
      have HOB := hid (ownS_made w9 w9.heap.size 39 4 (Nat.le_refl _))
      have hba := ba w9 (.cells #[] 39)
      have HB10 := hid (below_step HB9.out hba)
      have HO10 := hid (ownV_below HO9.out hba)
      obtain ⟨GB, hGB⟩ : ∃ G, G = w9.heap.size := ⟨_, rfl⟩
      rw [← hGB] at HOB ⊢
      have HGB : Hid (w7.heap.size ≤ GB) := hid (by rw [hGB]; exact HB9.out.size)
      clear hba hGB HO9
      generalize w9.alloc (.cells #[] 39) = w10 at *
      go_wp2_with fail
      go_loop [17, 20] (fun sv iv => ∃ (k : Nat) (q : ByteArray), iv = .int .i64 (k : Int) ∧ sv = .string q ∧ k ≤ s ∧ q.size = k ∧ Hid (q.data.toList = wrd m k)) (fun _ iv => s - (intOf iv).toNat)
      case atStart => exact ⟨0, ⟨#[]⟩, rfl, rfl, Nat.zero_le _, rfl, rfl⟩
      case round =>
        obtain ⟨k, q, rfl, rfl, hk, hq, HQ⟩ := hrel
        have hq41 : q.size ≤ 41 := by omega
        by_cases hks : k < s
        · have HQS := hid hq
          clear hq
          obtain ⟨Gu, rfl, -, e0⟩ := isV_at (ownV_isV HO10.out (by rw [List.length_map, HUL.out]; omega)) k (by rw [List.length_map, HUL.out]; exact hks)
          rw [getD_map sd (us m s) 0 k (by rw [HUL.out]; exact hks), show (us m s).getD k 0 = uf m k by unfold us; rw [List.getD_eq_getElem?_getD, List.getElem?_map, List.getElem?_range hks]; rfl] at e0
          by_cases hkm : k % m = 0
          · have hu : uf m k = 1 := by unfold uf; rw [if_pos hkm]
            rw [hu, show sd 1 = .string ⟨#[49]⟩ from rfl] at e0
            have HKM := hid hkm
            clear hu hkm
            go_wp2_with fail
            go_round
            case rel => exact ⟨k + 1, _, by go_num, rfl, by omega, by rw [ByteArray.size_append, HQS.out]; rfl, by show _ = _; rw [ByteArray.data_append, Array.toList_append, HQ.out, wrd_snoc, if_pos HKM.out]⟩
            case measure => simp [intOf]; omega
          · have hu : uf m k = 0 := by unfold uf; rw [if_neg hkm]
            rw [hu, show sd 0 = .string ⟨#[48]⟩ from rfl] at e0
            have HKM := hid hkm
            clear hu hkm
            go_wp2_with fail
            go_round
            case rel => exact ⟨k + 1, _, by go_num, rfl, by omega, by rw [ByteArray.size_append, HQS.out]; rfl, by show _ = _; rw [ByteArray.data_append, Array.toList_append, HQ.out, wrd_snoc, if_neg HKM.out]⟩
            case measure => simp [intOf]; omega
        · obtain rfl : k = s := by omega
          have HQD : Hid (q.data.toList = wrd m k) := HQ
          have PC := hid (periods_any q w10 (by omega) (by omega) (by rw [HQD.out]; exact wrd_all _ _))
          have RC : Hid (∀ w', Calls Tryd.prog 7 #[.string q] w' fun e w'' => ∃ v, e = .returned (.tuple #[v, .int .i64 0]) ∧ OwnR w'' w'.heap.size v (runs (wrd m k)) ∧ Below w'.heap.size w' w'') := fun w' => by
            have h := runs_ok q w' (by omega) (by omega) (by rw [HQD.out]; exact wrd_all _ _) (by rw [HQD.out]; exact wrd_letter _ _)
            rwa [HQD.out] at h
          rw [HQD.out, hq] at PC
          obtain ⟨L, hL⟩ : ∃ L, L = pers (wrd m k) k := ⟨_, rfl⟩
          have hwp := wrd_pers m (by omega) t ht4 hm1
          rw [← HSZ.out, ← hL] at hwp
          rw [← hL] at PC
          obtain ⟨hL0, hLl, hL1⟩ := hwp
          have HLL := hid hLl
          have HL0 := hid hL0
          have hLs : L.length ≤ 41 := by rw [hL]; have := pers_len (wrd m k) k; omega
          obtain ⟨pl, hpl⟩ : ∃ pl, pl = L.length := ⟨_, rfl⟩
          have HPLn := hid hpl
          rw [← hpl] at hL1 hLs
          have hpl0 : ((pl : Int) == 0) = false := by simp; omega
          clear hL hL0 hLl hpl
          go_wp2_with fail
          go_at_call 6
          refine PC.out.mono ?_
          rintro e w11 ⟨x11, rfl, ho11, hb11⟩
          have HB11 := hid (below_step HB10.out hb11)
          have HOB11 := hid (ownS_below HOB.out hb11)
          have HP11 := hid ho11
          have RC11 := hid (RC.out w11)
          obtain ⟨pa, pc, rfl⟩ := ownV_slice ho11
          rw [List.length_map, ← HPLn.out] at HP11 ⊢
          clear ho11 hb11 RC PC
          go_wp2_with fail
          go_at_call 7
          refine RC11.out.mono ?_
          rintro e w12 ⟨x12, rfl, ho12, hb12⟩
          have HB12 := hid (below_step HB11.out hb12)
          have HOB12 := hid (ownS_below HOB11.out hb12)
          have HP12 := hid (ownV_below HP11.out hb12)
          have HR12 := hid (ownR_isRuns ho12)
          obtain ⟨ra, rc, rfl, hrl, _⟩ := ownR_isRuns ho12
          clear ho12 hb12 RC11 HOB11 HP11
          obtain ⟨Gp, rfl, -, e0⟩ := isV_at (ownV_isV HP12.out (by rw [List.length_map, ← HPLn.out]; omega)) 0 (by rw [List.length_map, ← HPLn.out]; omega)
          rw [getD_map iv L 0 0 (by rw [← HPLn.out]; omega), HL0.out] at e0
          unfold iv at e0
          go_upto_region 28 with fail
          clear e0
          obtain ⟨R, hR⟩ : ∃ R, R = runs (wrd m k) := ⟨_, rfl⟩
          have HRM : Hid ((0, k, m) ∈ R) := hid (by rw [hR, HSZ.out]; exact run_mem hm1 hm2 ht4)
          rw [← hR] at HR12 hrl ⊢
          have hrb : R.length ≤ 1700 := by
            have h1 := runsTo_length (wrd m k) (wrd m k).length
            rw [wrd_len] at h1
            have h2 : k * k ≤ 41 * 41 := Nat.mul_le_mul hs41 hs41
            rw [hR]; unfold runs; rw [wrd_len]; omega
          obtain ⟨nr, hnr⟩ : ∃ nr, nr = R.length := ⟨_, rfl⟩
          have HNR := hid hnr
          rw [← hnr] at HR12 hrl hrb ⊢
          clear hR hnr
          go_wp2_with fail
          go_loop [25, 26] (fun wv iv => ∃ (j : Nat) (wb : Bool), iv = .int .i64 (j : Int) ∧ wv = .bool wb ∧ j ≤ nr ∧ Hid (wb = (R.take j).contains (0, k, m))) (fun _ iv => nr - (intOf iv).toNat)
          case atStart => exact ⟨0, false, rfl, rfl, Nat.zero_le _, rfl⟩
          case round =>
            obtain ⟨j, wb, rfl, rfl, hj, HWB⟩ := hrel
            by_cases hjn : j < nr
            · obtain ⟨a', c', hv', _, hcell⟩ := HR12.out
              obtain ⟨Gr, hGr, r0, r1, r2⟩ := hcell j (by rw [← HNR.out]; exact hjn)
              clear hcell
              injection hv' with e1 e2 e3
              subst e1
              subst hGr
              clear e2 e3
              have HTK : Hid ((R.take (j + 1)).contains (0, k, m) = ((R.take j).contains (0, k, m) || (rx R j == (0, k, m)))) := hid (by
                rw [List.take_succ_eq_append_getElem (by rw [← HNR.out]; exact hjn), List.contains_eq_any_beq, List.contains_eq_any_beq, List.any_append]
                have : rx R j = R[j]'(by rw [← HNR.out]; exact hjn) := by unfold rx; rw [List.getD_eq_getElem?_getD, List.getElem?_eq_getElem (by rw [← HNR.out]; exact hjn)]; rfl
                rw [this]
                simp [Bool.beq_comm])
              generalize rx R j = f at *
              have HFE : Hid ((f == (0, k, m)) = decide (f.1 = 0 ∧ (f.2.1 : Int) = (k : Int) ∧ (f.2.2 : Int) = (m : Int))) := hid (by
                obtain ⟨f1, f2, f3⟩ := f
                rw [Bool.eq_iff_iff, beq_iff_eq, decide_eq_true_eq]
                simp only [Prod.mk.injEq]
                omega)
              cases wb
              · go_wp2_with fail
                all_goals refine ⟨⟨j + 1, _, by go_num, rfl, by omega, ?_⟩, by simp [intOf]; omega⟩
                all_goals show _ = _
                all_goals rw [HTK.out, ← HWB.out, HFE.out, Bool.false_or]
                all_goals first
                  | (symm; refine decide_eq_true ?_; exact ⟨by assumption, by assumption, by assumption⟩)
                  | (symm; refine decide_eq_false ?_; rintro ⟨g1, g2, g3⟩; contradiction)
              · go_wp2_with fail
                refine ⟨⟨j + 1, _, by go_num, rfl, by omega, ?_⟩, by simp [intOf]; omega⟩
                show _ = _
                rw [HTK.out, ← HWB.out, Bool.true_or]
            · obtain rfl : j = nr := by omega
              obtain rfl : wb = true := by
                rw [HWB.out, List.take_of_length_le (by rw [← HNR.out]; exact Nat.le_refl _), List.contains_iff_mem]
                exact HRM.out
              clear HWB
              clear hrl hrb HR12 HNR HRM
              go_wp2_with fail
              go_loopw [18, 19, 27] (fun bv pv kv wr => ∃ (i p : Nat), kv = .int .i64 ((i : Int) + 1) ∧ i + 1 ≤ n ∧ pv = .int .i64 (p : Int) ∧ Hid (p = m ^ i) ∧ (∃ x y z, bv = .slice x y z) ∧ Hid (OwnS wr GB 39 4 bv ((List.range i).map (beltRow m))) ∧ Hid (OwnV wr w10.heap.size 3 (.slice (some ⟨Gp, 0, none⟩) pl pc) (L.map iv)) ∧ Hid (Below w7.heap.size w7 wr) ∧ Hid (GB ≤ wr.heap.size)) (fun _ _ kv _ => n - (intOf kv).toNat)
              case atStart => exact ⟨0, 1, rfl, by omega, rfl, hid (by simp), ⟨_, _, _, rfl⟩, HOB12, HP12, HB12, hid (Nat.le_of_lt (ownS_le HOB12.out).2)⟩
              case round =>
                obtain ⟨i, p, rfl, hi, rfl, HP, ⟨ba1, bn1, bc1, rfl⟩, HOr, HPr, HBr, HWS⟩ := hrel
                rename World => wr
                by_cases hlt : i + 1 < n
                · obtain ⟨p', hp'⟩ : ∃ p', p' = m ^ (i + 1) := ⟨_, rfl⟩
                  have hpm : (p : Int) * (m : Int) = (p' : Int) := by rw [hp', Nat.pow_succ, ← HP.out, Int.natCast_mul]
                  have hpl : p' < 1000000 := by rw [hp']; exact pow_lt hm2 (by omega)
                  have HP' := hid hp'
                  have HLn : Hid (((List.range i).map (beltRow m)).length < 1000000) := hid (by rw [List.length_map, List.length_range]; omega)
                  clear hp'
                  go_wp2_with (first
                    | (at_builtin; refine wpl_app_s 29 39 (.agg #[.int .i64 0, .int .i64 0, .int .i64 0, .int .i64 0]) 4 32 info39 rfl (by decide) (by kernel_rfl) (by decide) _ (by rfl) (by simp [Value.oneCell']) _ _ (.slice ba1 bn1 bc1) GB ((List.range i).map (beltRow m)) (by rfl) (by rfl) (by rfl) (by rfl) HOr.out HLn.out HWS.out ?_; intro v' w15 ho15 hb15 hg15; have HO15 := hid ho15; have HB15 := hid (HBr.out.trans (hb15.mono HGB.out)); have HW15 : Hid (GB ≤ w15.heap.size) := hid (Nat.le_trans HWS.out hb15.size); have HP15 : Hid (OwnV w15 w10.heap.size 3 (.slice (some ⟨Gp, 0, none⟩) pl pc) (L.map iv)) := hid (row_other (e' := 39) HPr.out hg15 (fun k hk => row_type HOr.out.2 k hk) (by decide)); obtain ⟨sa3, sc3, rfl⟩ := ownS_sh ho15; clear ho15 hb15 hg15)
                    | fail)
                  have HRW : Hid ((List.range i).map (beltRow m) ++ [[.int .i64 (i : Int), .int .i64 ((i : Int) + 1), .int .i64 (m : Int), .int .i64 1]] = (List.range (i + 1)).map (beltRow m)) := hid (by rw [List.range_succ, List.map_append]; rfl)
                  refine ⟨⟨i + 1, p', by go_num, by omega, rfl, HP', ⟨_, _, _, rfl⟩, ?_, HP15, HB15, HW15⟩, by simp [intOf]; omega⟩
                  have h := HO15.out
                  rw [HRW.out] at h
                  have hl : ((List.range (i + 1)).map (beltRow m)).length = i + 1 := by rw [List.length_map, List.length_range]
                  first
                    | exact h
                    | (rw [hl] at h; exact h)
                · have hni : (n : Int) - 1 = (i : Int) := by omega
                  have HNI : Hid (n = i + 1) := hid (by omega)
                  have hi5 : i ≤ 5 := by omega
                  have hi1 : 1 ≤ i := by omega
                  have HIB : Hid (IsB wr (.slice ba1 bn1 bc1) m i) := hid (IsB.of HOr.out)
                  have SP := hid (gspeeds_any (.slice ba1 bn1 bc1) m i wr n HNI.out HIB.out hm1 hm2 hi1 hi5)
                  obtain ⟨qi, hqi⟩ : ∃ q, q = (⟨(dec (m ^ i)).toArray⟩ : ByteArray) := ⟨_, rfl⟩
                  have HQI := hid hqi
                  have HSI : Hid (sd (m ^ i) = .string qi) := hid (by rw [hqi]; rfl)
                  clear hqi
                  have RT : Hid (∀ w', Below wr.heap.size wr w' → Calls Tryd.prog 9 #[.int .i64 (n : Int), .slice ba1 bn1 bc1, .int .i64 0, .int .i64 (i : Int)] w' fun e w'' => e = .returned (.tuple #[.string qi, .int .i64 0]) ∧ Below w'.heap.size w' w'') := fun w' h => by
                    have := gratio2_any _ m i w' n HNI.out (HIB.out.below h) hm1 hm2 hi1 hi5
                    rwa [HSI.out] at this
                  clear hlt
                  go_wp2_with fail
                  go_at_call 8
                  refine SP.out.mono ?_
                  rintro e w16 ⟨x16, rfl, ho16, hb16⟩
                  have HB16 := hid (below_step HBr.out hb16)
                  have HO16 := hid ho16
                  have HP16 := hid (ownV_below HPr.out hb16)
                  have RT16 := hid (RT.out w16 hb16)
                  obtain ⟨va, vc, rfl⟩ := ownV_slice ho16
                  rw [List.length_map, pws_len] at HO16 ⊢
                  clear ho16 hb16 RT SP
                  go_wp2_with fail
                  go_at_call 9
                  refine RT16.out.mono ?_
                  rintro e w17 ⟨rfl, hb17⟩
                  have HB17 := hid (below_step HB16.out hb17)
                  have HO17 := hid (ownV_below HO16.out hb17)
                  have HP17 := hid (ownV_below HP16.out hb17)
                  clear hb17 RT16 HO16 HP16
                  obtain ⟨Gv, vc', hva, -, -⟩ := ownV_some HO17.out (by rw [List.length_map, pws_len]; omega)
                  injection hva with e1 e2 e3
                  subst e1
                  clear e2 e3
                  have HCV : Hid (∀ j, j < n → w17.cell? ⟨Gv, j, none⟩ = some (.string ⟨(dec (m ^ j)).toArray⟩)) := fun j hj => by
                    rw [ownV_cell HO17.out j (by rw [List.length_map, pws_len]; exact hj), getD_map sd (pws m n) 0 j (by rw [pws_len]; exact hj), pws_at hj]; rfl
                  go_wp2_with fail
                  go_loop [32, 33] (fun cv kv => ∃ (j c : Nat), kv = .int .i64 (j : Int) ∧ j ≤ n ∧ cv = .int .i64 (c : Int) ∧ c ≤ j ∧ Hid (c = cntP m j)) (fun _ kv => n - (intOf kv).toNat)
                  case atStart => exact ⟨0, 0, rfl, Nat.zero_le _, rfl, Nat.le_refl _, rfl⟩
                  case round =>
                    obtain ⟨j, c, rfl, hj, rfl, hcj, HC⟩ := hrel
                    by_cases hlt : j < n
                    · have e0 := HCV.out j hlt
                      by_cases hq : dec (m ^ j) = dec m
                      · rw [hq, ← HMB.out] at e0
                        have HQ := hid hq
                        clear hq
                        go_wp2_with fail
                        refine ⟨⟨j + 1, c + 1, by go_num, by omega, by go_num, by omega, ?_⟩, by simp [intOf]; omega⟩
                        show _ = _
                        rw [cntP_succ, if_pos HQ.out, HC.out]
                      · obtain ⟨qj, hqj⟩ : ∃ q, q = (⟨(dec (m ^ j)).toArray⟩ : ByteArray) := ⟨_, rfl⟩
                        rw [← hqj] at e0
                        have hne : qj ≠ mb := by
                          rw [hqj, HMB.out]
                          intro h
                          injection h with h
                          exact hq (List.toArray_inj h)
                        have hneb : (qj.toList == mb.toList) = false := by
                          rw [beq_eq_false_iff_ne, toList_data, toList_data]
                          intro h
                          exact hne (ByteArray.ext (Array.toList_inj.1 h))
                        have HQ := hid hq
                        clear hq hqj
                        go_wp2_with fail
                        refine ⟨⟨j + 1, c, by go_num, by omega, rfl, by omega, ?_⟩, by simp [intOf]; omega⟩
                        show _ = _
                        rw [cntP_succ, if_neg HQ.out, HC.out]; rfl
                    · have hjn : j = n := by omega
                      rw [hjn] at HC
                      have hc1 := cntP_all m (by omega) hm1 n (by omega) hn1
                      rw [← HC.out] at hc1
                      have HL : Hid (w17.cell? ⟨Gv, i, none⟩ = some (.string qi)) := hid (by rw [HCV.out i (by have := HNI.out; omega), HQI.out])
                      have e1 := HL.out
                      have HDC : Hid (∀ w', Calls Tryd.prog 10 #[.int .i64 (p : Int)] w' fun e w'' => e = .returned (.string qi) ∧ w'' = w') := fun w' => by
                        have := decimal_any p w' (by rw [HP.out]; exact Nat.lt_trans (pow_lt hm2 hi5) (by decide))
                        rw [HP.out, HSI.out] at this
                        rw [HP.out]
                        exact this
                      obtain ⟨pl1, hpl1⟩ : ∃ q, q = pl - 1 := ⟨_, rfl⟩
                      have hpi : (pl : Int) - 1 = (pl1 : Int) := by omega
                      have hplx : pl1 < pl := by omega
                      have hpld : pl - pl1 = 1 := by omega
                      have hpcx : pl1 < pc := by have := ownV_capN HP17.out; omega
                      have HE : Hid (w17.cell? ⟨Gp, pl1, none⟩ = some (.int .i64 (k : Int))) := hid (by
                        rw [ownV_cell HP17.out pl1 (by rw [List.length_map, ← HPLn.out]; exact hplx), getD_map iv L 0 pl1 (by rw [← HPLn.out]; exact hplx), hpl1, HPLn.out, HLL.out]; rfl)
                      have HE2 : Hid ((w17.alloc (.cells #[.int .i64 (k : Int)] 3)).cell? ⟨Gp, pl1, none⟩ = some (.int .i64 (k : Int))) := hid (((ba w17 (.cells #[.int .i64 (k : Int)] 3)).cell (World.block_lt_of_cell? w17 _ HE.out)).trans HE.out)
                      have HE3 : Hid ((w17.alloc (.cells #[.int .i64 (k : Int)] 3)).cell? ⟨w17.heap.size, 0, none⟩ = some (.int .i64 (k : Int))) := hid (by rw [World.cell?, heap_alloc_new]; rfl)
                      have HSM := hid (fun cp cb => same1_any Gp pl1 cp w17.heap.size cb (k : Int) _ HE2.out HE3.out)
                      have HCC := hid hc1
                      clear hc1 hpl1 hjn hcj
                      have fin : ∀ w' : World, Below (w17.alloc (.cells #[.int .i64 (k : Int)] 3)).heap.size (w17.alloc (.cells #[.int .i64 (k : Int)] 3)) w' → Below w.heap.size w w' := fun w' h => HB7.out.trans (below_step (below_step HB17.out (ba w17 (.cells #[.int .i64 (k : Int)] 3))) h |>.mono HB7.out.size)
                      have HFN := hid fin
                      clear fin
                      by_cases hm11 : m = 1
                      · have HC1 := HCC.out
                        rw [if_pos hm11] at HC1
                        clear HCC
                        go_wp2_with fail
                        go_at_call 10
                        refine (HDC.out _).mono ?_
                        rintro e w18 ⟨rfl, rfl⟩
                        go_wp2_with fail
                        go_at_call 11
                        refine (HSM.out _ _).mono ?_
                        rintro e w19 ⟨rfl, hb19⟩
                        have HB19 := hid (HFN.out _ hb19)
                        clear hb19
                        go_wp2_with fail
                        go_ret
                        exact ⟨rfl, HB19.out⟩
                      · have HC1 := HCC.out
                        rw [if_neg hm11] at HC1
                        clear HCC
                        go_wp2_with fail
                        go_at_call 10
                        refine (HDC.out _).mono ?_
                        rintro e w18 ⟨rfl, rfl⟩
                        go_wp2_with fail
                        go_at_call 11
                        refine (HSM.out _ _).mono ?_
                        rintro e w19 ⟨rfl, hb19⟩
                        have HB19 := hid (HFN.out _ hb19)
                        clear hb19
                        go_wp2_with fail
                        go_ret
                        exact ⟨rfl, HB19.out⟩
end Go.Proofs.YtlhmidecjiihcaaDoor
