/-
  The law ClaimCore of chapter 12: its contract.
-/
import Derived.Test.YtaedbkdimpdngaaWalkAM
import Derived.Test.YtaedbkdimpdngaaPlainM
import Derived.Test.YtaedbkdimpdngaaBaseJ
import Derived.Test.YtaedbkdimpdngaaLawIdeals
namespace Go.Proofs.Ytaedbkdimpdngaa
open Go.RowKit
set_option maxRecDepth 100000 in
set_option maxHeartbeats 4000000 in
theorem ClaimCore_ok (nb : Int) (ja : Option Addr) (jn jc : Nat) (jb : Option Addr) (jm jd : Nat) (w : World) (hnb : 0 ≤ nb ∧ nb < 256) (hx : ArgAc w ja jn jc) (hy : ArgAc w jb jm jd) :
    Calls Try.prog 14 #[.int .u8 nb, .slice ja jn jc, .slice jb jm jd] w fun e w' => e = .returned (.bool true) ∧ Below w.heap.size w w' := by
  have HX := hid hx
  have HY := hid hy
  have MA : Hid (∀ (k : Nat), k ≤ jn → Calls Try.prog 27 #[.int .u8 nb, .slice ja k jc, .int .i64 10] w fun e w' => ∃ (size : Nat) (v : Value) (l : List Pr), e = .returned (.tuple #[.int .i64 (size : Int), v]) ∧ OwnP w' w.heap.size 45 v l ∧ validP (size : Int) l = true ∧ 1 ≤ size ∧ size ≤ 10 ∧ (size : Int) = nb % 10 + 1 ∧ l.length = min k 40 ∧ Below w.heap.size w w') := fun k hk => made_any nb ja k jc 10 w hnb (by decide) (argAr_cut hx.1 hk)
  have MB : Hid (∀ (k : Nat) w', k ≤ jm → Below w.heap.size w w' → Calls Try.prog 27 #[.int .u8 nb, .slice jb k jd, .int .i64 10] w' fun e w'' => ∃ (size : Nat) (v : Value) (l : List Pr), e = .returned (.tuple #[.int .i64 (size : Int), v]) ∧ OwnP w'' w'.heap.size 45 v l ∧ validP (size : Int) l = true ∧ 1 ≤ size ∧ size ≤ 10 ∧ (size : Int) = nb % 10 + 1 ∧ l.length = min k 40 ∧ Below w'.heap.size w' w'') := fun k w' hk hb => made_any nb jb k jd 10 w' hnb (by decide) (argAr_below (argAr_cut hy.1 hk) hb)
  clear hx hy hnb
  go_enter Try.func14, Try.ntmps14
  go_upto_region 1 with fail
  go_cut [7, 8] (fun v7 v8 wx => ∃ (size : Nat) (l : List Pr) (u : Value), v7 = .int .i64 (size : Int) ∧ v8 = u ∧ Hid (OwnP wx w.heap.size 45 u l) ∧ Hid (validP (size : Int) l = true) ∧ 1 ≤ size ∧ size ≤ 10 ∧ Hid ((size : Int) = nb % 10 + 1) ∧ l.length ≤ 24 ∧ Hid (Below w.heap.size w wx))
  case first =>
    obtain ⟨k, hk⟩ : ∃ k, k = min jn 24 := ⟨_, rfl⟩
    have hki : min (jn : Int) 24 = (k : Int) := by omega
    have hkj : k ≤ jn := by omega
    have HK24 : Hid (k ≤ 24) := by show _ ≤ _; omega
    have MK := hid (MA.out k hkj)
    cases ja with
    | none =>
      have hc0 : jc = 0 := HX.out.2.2.2 rfl
      subst hc0
      have hj0 : jn = 0 := by have := HX.out.2.1; omega
      subst hj0
      have hk0 : k = 0 := by omega
      subst hk0
      clear hki hkj hk
      go_wp2_with (first | (go_at_call 27; refine MK.out.mono ?_; rintro e wm ⟨size, v2, l, rfl, hp2, hva, h1, h10, hsz, hll, hb2⟩; have HPM := hid hp2; have HVM := hid hva; have HSM := hid hsz; have HBM := hid hb2; have hl24 : l.length ≤ 24 := (by have := HK24.out; omega); clear hp2 hva hsz hb2 hll) | fail)
      go_meet
      exact ⟨size, l, _, rfl, rfl, HPM, HVM, h1, h10, HSM, hl24, HBM⟩
    | some ad =>
      have hkc : k ≤ jc := by have := HX.out.2.1; omega
      have hmx : jn ≤ 9223372036854775807 := by have h1 := HX.out.2.1; have h2 := HX.out.2.2.1; unfold maxLen at h2; omega
      clear hk
      go_wp2_with (first | (go_at_call 27; refine MK.out.mono ?_; rintro e wm ⟨size, v2, l, rfl, hp2, hva, h1, h10, hsz, hll, hb2⟩; have HPM := hid hp2; have HVM := hid hva; have HSM := hid hsz; have HBM := hid hb2; have hl24 : l.length ≤ 24 := (by have := HK24.out; omega); clear hp2 hva hsz hb2 hll) | fail)
      go_meet
      exact ⟨size, l, _, rfl, rfl, HPM, HVM, h1, h10, HSM, hl24, HBM⟩
  case rest =>
    obtain ⟨size, l, v8, rfl, rfl, HP, HVA, h1, h10, HSZ, hl24, HB2⟩ := hcut
    rename World => w2
    obtain ⟨na, nn, nc, rfl⟩ := ownP_sh HP.out
    clear MA HX
    go_upto_region 2 with fail
    go_cut [10] (fun v10 wx => ∃ (q : List Pr) (u : Value), v10 = u ∧ Hid (OwnP wx w2.heap.size 45 u q) ∧ Hid (validP (size : Int) q = true) ∧ q.length ≤ 16 ∧ Hid (Below w2.heap.size w2 wx))
    case first =>
      obtain ⟨k, hk⟩ : ∃ k, k = min jm 16 := ⟨_, rfl⟩
      have hki : min (jm : Int) 16 = (k : Int) := by omega
      have hkj : k ≤ jm := by omega
      have HK16 : Hid (k ≤ 16) := by show _ ≤ _; omega
      have MK := hid (MB.out k w2 hkj HB2.out)
      cases jb with
      | none =>
        have hc0 : jd = 0 := HY.out.2.2.2 rfl
        subst hc0
        have hj0 : jm = 0 := by have := HY.out.2.1; omega
        subst hj0
        have hk0 : k = 0 := by omega
        subst hk0
        clear hki hkj hk
        go_wp2_with (first | (go_at_call 27; refine MK.out.mono ?_; rintro e wm ⟨size2, v2, q, rfl, hp2, hva, g1, g10, hsz, hll, hb2⟩; have hss : size2 = size := (by have := HSZ.out; omega); subst hss; have HPM := hid hp2; have HVM := hid hva; have HBM := hid hb2; have hq16 : q.length ≤ 16 := (by have := HK16.out; omega); clear hp2 hva hsz hb2 hll) | fail)
        go_meet
        exact ⟨q, _, rfl, HPM, HVM, hq16, HBM⟩
      | some ad =>
        have hkc : k ≤ jd := by have := HY.out.2.1; omega
        have hmx : jm ≤ 9223372036854775807 := by have h1 := HY.out.2.1; have h2 := HY.out.2.2.1; unfold maxLen at h2; omega
        clear hk
        go_wp2_with (first | (go_at_call 27; refine MK.out.mono ?_; rintro e wm ⟨size2, v2, q, rfl, hp2, hva, g1, g10, hsz, hll, hb2⟩; have hss : size2 = size := (by have := HSZ.out; omega); subst hss; have HPM := hid hp2; have HVM := hid hva; have HBM := hid hb2; have hq16 : q.length ≤ 16 := (by have := HK16.out; omega); clear hp2 hva hsz hb2 hll) | fail)
        go_meet
        exact ⟨q, _, rfl, HPM, HVM, hq16, HBM⟩
    case rest =>
      obtain ⟨q, v10, rfl, HPQ, HVQ, hq16, HB3⟩ := hcut
      rename World => w3
      obtain ⟨qa, qn, qc, rfl⟩ := ownP_sh HPQ.out
      clear MB HY
      have HBW := hid (below_step HB2.out HB3.out)
      have HP3 := hid (row_below HP.out HB3.out)
      have hva := HVA.out
      have CA : Hid (∀ w' v, IsPr w' v l → Calls Try.prog 39 #[.int .i64 (size : Int), v] w' fun e w'' => ∃ x, e = .returned (.tuple #[x, .int .i64 0]) ∧ OwnP w'' w'.heap.size 45 x (coreL (dsp size l)) ∧ Below w'.heap.size w' w'') := fun w' v hv => (ret_ok (pCore_any _ v l w' hv) hva).mono fun e w'' h => by
        obtain ⟨u, rfl, ⟨x, rfl, ho⟩, hb⟩ := h
        exact ⟨x, rfl, ho, hb⟩
      have CB : Hid (∀ w' v, IsPr w' v (coreL (dsp size l)) → Calls Try.prog 39 #[.int .i64 (size : Int), v] w' fun e w'' => ∃ x, e = .returned (.tuple #[x, .int .i64 0]) ∧ OwnP w'' w'.heap.size 45 x (coreL (dsp size l)) ∧ Below w'.heap.size w' w'') := fun w' v hv => (ret_ok (pCore_any _ v _ w' hv) (valid_core hva)).mono fun e w'' h => by
        obtain ⟨u, rfl, ⟨x, rfl, ho⟩, hb⟩ := h
        change OwnP w'' w'.heap.size 45 x (coreL (dsp size (coreL (dsp size l)))) at ho
        rw [core_again hva] at ho
        exact ⟨x, rfl, ho, hb⟩
      have hcl := coreL_le size l
      have hvm := valid_more hva HVQ.out (by omega)
      have hvc := valid_more (valid_core hva) HVQ.out (by omega)
      have hcs := core_same (q := q) hva
      have PA : Hid (∀ w' v, IsPr w' v (l ++ q) → Calls Try.prog 28 #[.int .i64 (size : Int), v] w' fun e w'' => ∃ a m c, e = .returned (.tuple #[.slice a m c, .int .i64 0]) ∧ IsLL w'' (.slice a m c) (lists (dsp size (l ++ q)).pref) ∧ m = (dsp size (l ++ q)).pref.length ∧ Below w'.heap.size w' w'') := fun w' v hv => retLL_ok (w0 := w') (pPreferred_any _ v _ w' hv) hvm
      have PB : Hid (∀ w' v, IsPr w' v (coreL (dsp size l) ++ q) → Calls Try.prog 28 #[.int .i64 (size : Int), v] w' fun e w'' => ∃ a m c, e = .returned (.tuple #[.slice a m c, .int .i64 0]) ∧ IsLL w'' (.slice a m c) (lists (dsp size (l ++ q)).pref) ∧ m = (dsp size (l ++ q)).pref.length ∧ Below w'.heap.size w' w'') := fun w' v hv => by
        rw [← hcs.1]
        exact retLL_ok (w0 := w') (pPreferred_any _ v _ w' hv) hvc
      have IA : Hid (∀ w' v, IsPr w' v (l ++ q) → Calls Try.prog 33 #[.int .i64 (size : Int), v] w' fun e w'' => ∃ a m c, e = .returned (.tuple #[.slice a m c, .int .i64 0]) ∧ IsV w'' (.slice a m c) ((elems (dsp size (l ++ q)).ideal).map iv) ∧ Below w'.heap.size w' w'') := fun w' v hv => ideal_ok (n := (size : Int)) hv hvm
      have IB : Hid (∀ w' v, IsPr w' v (coreL (dsp size l) ++ q) → Calls Try.prog 33 #[.int .i64 (size : Int), v] w' fun e w'' => ∃ a m c, e = .returned (.tuple #[.slice a m c, .int .i64 0]) ∧ IsV w'' (.slice a m c) ((elems (dsp size (l ++ q)).ideal).map iv) ∧ Below w'.heap.size w' w'') := fun w' v hv => by
        rw [← hcs.2]
        exact ideal_ok (n := (size : Int)) hv hvc
      have HIN : Hid (∀ p, p ∈ coreL (dsp size l) → inB (size : Int) p = true) := by
        have h := valid_core hva
        unfold validP at h
        simp only [Bool.and_eq_true, List.all_eq_true] at h
        exact h.2
      have HL3 := hid (ownP_isPr HP3.out (by omega))
      clear hva hvm hvc hcs HVA HVQ HSZ
      generalize (dsp size (l ++ q)).pref = X at *
      generalize (dsp size (l ++ q)).ideal = Y at *
      generalize coreL (dsp size l) = K at *
      go_upto_region 7 with (first
        | (go_at_call 39; refine (CA.out w3 _ HL3.out).mono ?_; rintro e w4 ⟨x4, rfl, ho4, hb4⟩; obtain ⟨ca, cn, cc, rfl⟩ := ownP_sh ho4; have HC4 := hid ho4; have HB4 := hid hb4; clear ho4 hb4)
        | (go_at_call 20; refine (lives_any _).mono ?_; rintro e w5 ⟨rfl, hb5⟩; have HB5 := hid (below_step HB4.out hb5); have HC5 := hid (row_below HC4.out hb5); clear hb5)
        | fail)
      have hcn : cn = K.length := by
        obtain ⟨_, _, e⟩ := row_slice HC5.out
        cases e; rfl
      have HKC : Hid (∀ w', Below w5.heap.size w5 w' → IsPr w' (.slice ca cn cc) K) := fun w' hb => isPr_below (ownP_isPr HC5.out (by omega)) hb
      have hcn24 : cn ≤ 24 := by omega
      have HCN := hid hcn
      clear hcn
      go_loopw [13] (fun iv wr => ∃ i : Nat, iv = .int .i64 i ∧ i ≤ cn ∧ Hid (Below w5.heap.size w5 wr)) (fun iv _ => cn - (intOf iv).toNat)
      case atStart => exact ⟨0, rfl, Nat.zero_le _, Below.refl _ _⟩
      case round =>
        obtain ⟨i, rfl, hi, HBr⟩ := hrel
        rename World => wr
        by_cases hlt : i < cn
        · have hil : i < K.length := by rw [← HCN.out]; exact hlt
          obtain ⟨cg, rfl, -, c0, c1⟩ := isPr_at (HKC.out wr HBr.out) i hil
          have hin := HIN.out (prAt K i) (by unfold prAt; rw [List.getD_eq_getElem?_getD, List.getElem?_eq_getElem hil]; exact List.getElem_mem hil)
          generalize prAt K i = p at *
          obtain ⟨px, py⟩ := p
          dsimp only at c0 c1
          have hin2 : 0 ≤ px ∧ px < (size : Int) ∧ 0 ≤ py ∧ py < (size : Int) := of_decide_eq_true hin
          obtain ⟨g1, g2, g3, g4⟩ := hin2
          have e1 : decide (px < 0) = false := decide_eq_false (by omega)
          have e2 : decide ((size : Int) ≤ px) = false := decide_eq_false (by omega)
          have e3 : decide (py < 0) = false := decide_eq_false (by omega)
          have e4 : decide ((size : Int) ≤ py) = false := decide_eq_false (by omega)
          clear hin
          go_wp2_with fail
          go_roundw
          case rel => exact ⟨i + 1, by go_num, by omega, HBr⟩
          case measure => simp [intOf]; omega
        · have HB6 := hid (below_step HB5.out HBr.out)
          have HCr := hid (row_below HC5.out HBr.out)
          have HLr := hid (row_below HP3.out HB6.out)
          have HQr := hid (row_below HPQ.out HB6.out)
          have HKr := hid (HKC.out wr HBr.out)
          have hnn : nn = l.length := by
            obtain ⟨_, _, e⟩ := row_slice HLr.out
            cases e; rfl
          have hqn : qn = q.length := by
            obtain ⟨_, _, e⟩ := row_slice HQr.out
            cases e; rfl
          have hcln : ¬ nn < cn := by have := HCN.out; omega
          clear hnn hqn HKC HC4 HC5 HP3 HPQ HL3 HIN CA
          go_upto_region 14 with (first | (go_at_call 39; refine (CB.out wr _ HKr.out).mono ?_; rintro e w7 ⟨x7, rfl, ho7, hb7⟩; obtain ⟨ga, gn, gc, rfl⟩ := ownP_sh ho7; have hgn : gn = cn := (by obtain ⟨_, _, e⟩ := row_slice ho7; cases e; exact HCN.out.symm); subst hgn; have HB7 := hid hb7; clear ho7 hb7) | fail)
          have HC8 := hid (row_below HCr.out HB7.out)
          have HL8 := hid (row_below HLr.out HB7.out)
          have HQ8 := hid (row_below HQr.out HB7.out)
          clear HCr HLr HQr HKr CB
          have hz := heap_alloc_new w7 (.cells #[] 45)
          have HM0 : Hid (OwnP (w7.alloc (.cells #[] 45)) w7.heap.size 45 (.slice (some ⟨w7.heap.size, 0, none⟩) 0 0) []) := row_of_block hz (Nat.le_refl _)
          have RL : Hid (∀ w', Below w7.heap.size w7 w' → Rd w' (.slice na nn nc) l.length 2 (pcells l)) := fun w' hb => ownP_rd (row_below HL8.out hb)
          have RQ : Hid (∀ w', Below w7.heap.size w7 w' → Rd w' (.slice qa qn qc) q.length 2 (pcells q)) := fun w' hb => ownP_rd (row_below HQ8.out hb)
          have RC : Hid (∀ w', Below w7.heap.size w7 w' → Rd w' (.slice ca gn cc) K.length 2 (pcells K)) := fun w' hb => ownP_rd (row_below HC8.out hb)
          have LN : Hid (l.length ≤ 1000000 ∧ q.length ≤ 1000000 ∧ K.length ≤ 1000000) := by show _ ∧ _; omega
          clear hz
          go_upto_region 15 with (first
            | (at_builtin; refine wpl_app_prs _ _ (.slice (some ⟨w7.heap.size, 0, none⟩) 0 0) w7.heap.size [] l (.slice na nn nc) (by rfl) (by rfl) (by rfl) (by rfl) (RL.out _ (ba w7 _)) HM0.out (ba w7 (.cells #[] 45)).size ⟨Nat.zero_le _, LN.out.1⟩ ?_; intro v8 w8 ho8 hb8; rw [List.nil_append] at ho8; have HA8 := hid ho8; have HB8 := hid ((ba w7 (.cells #[] 45)).trans hb8); clear ho8 hb8)
            | (at_builtin; refine wpl_app_prs _ _ v8 w7.heap.size l q (.slice qa qn qc) (by rfl) (by rfl) (by rfl) (by rfl) (RQ.out _ HB8.out) HA8.out HB8.out.size ⟨LN.out.1, LN.out.2.1⟩ ?_; intro v9 w9 ho9 hb9; have HA9 := hid ho9; have HB9 := hid (HB8.out.trans hb9); have HM9 : Hid (OwnP (w9.alloc (.cells #[] 45)) w9.heap.size 45 (.slice (some ⟨w9.heap.size, 0, none⟩) 0 0) []) := row_of_block (heap_alloc_new w9 (.cells #[] 45)) (Nat.le_refl _); clear ho9 hb9)
            | (at_builtin; refine wpl_app_prs _ _ (.slice (some ⟨w9.heap.size, 0, none⟩) 0 0) w9.heap.size [] K (.slice ca gn cc) (by rfl) (by rfl) (by rfl) (by rfl) (RC.out _ (below_step HB9.out (ba w9 _))) HM9.out (ba w9 (.cells #[] 45)).size ⟨Nat.zero_le _, LN.out.2.2⟩ ?_; intro v10 w10 ho10 hb10; rw [List.nil_append] at ho10; have HA10 := hid ho10; have HB10 := hid ((ba w9 (.cells #[] 45)).trans hb10); clear ho10 hb10)
            | (at_builtin; refine wpl_app_prs _ _ v10 w9.heap.size K q (.slice qa qn qc) (by rfl) (by rfl) (by rfl) (by rfl) (RQ.out _ (below_step HB9.out HB10.out)) HA10.out HB10.out.size ⟨LN.out.2.2, LN.out.2.1⟩ ?_; intro v11 w11 ho11 hb11; have HA11 := hid ho11; have HB11 := hid (HB10.out.trans hb11); clear ho11 hb11)
            | fail)
          have HLQ : Hid (∀ w', Below w11.heap.size w11 w' → IsPr w' v9 (l ++ q)) := fun w' hb => isPr_below (ownP_isPr (row_below HA9.out HB11.out) (by rw [List.length_append]; omega)) hb
          have HKQ : Hid (∀ w', Below w11.heap.size w11 w' → IsPr w' v11 (K ++ q)) := fun w' hb => isPr_below (ownP_isPr HA11.out (by rw [List.length_append]; omega)) hb
          have HB12 := hid (below_step (below_step (below_step HB6.out HB7.out) HB9.out) HB11.out)
          clear RL RQ RC LN HM0 HC8 HL8 HQ8 HA8 HA9 HA10 HA11 HM9
          go_upto_region 19 with (first
            | (go_at_call 28; with_reducible refine (PA.out _ _ (HLQ.out _ (Below.refl _ _))).mono ?_; rintro e w13 ⟨a13, m13, c13, rfl, hi, -, hb⟩; have HP13 := hid hi; have HB13 := hid hb; clear hi hb)
            | (go_at_call 28; with_reducible refine (PB.out _ _ (HKQ.out _ HB13.out)).mono ?_; rintro e w14 ⟨a14, m14, c14, rfl, hi, -, hb⟩; have HP14 := hid hi; have HR14 := hid (isLL_below HP13.out hb); have HB14 := hid (below_step HB13.out hb); clear hi hb)
            | (go_at_call 33; with_reducible refine (IA.out _ _ (HLQ.out _ HB14.out)).mono ?_; rintro e w15 ⟨a15, m15, c15, rfl, hi, hb⟩; have HI15 := hid hi; have HP15 := hid (isLL_below HP14.out hb); have HR15 := hid (isLL_below HR14.out hb); have HB15 := hid (below_step HB14.out hb); clear hi hb)
            | (go_at_call 33; with_reducible refine (IB.out _ _ (HKQ.out _ HB15.out)).mono ?_; rintro e w16 ⟨a16, m16, c16, rfl, hi, hb⟩; have HJ16 := hid hi; have HI16 := hid (isV_below HI15.out hb); have HP16 := hid (isLL_below HP15.out hb); have HR16 := hid (isLL_below HR15.out hb); have HB16 := hid (below_step HB15.out hb); clear hi hb)
            | fail)
          have S1 := hid (same_any _ _ _ _ w16 HR16.out HP16.out)
          rw [beq_self_eq_true] at S1
          have S2 : Hid (∀ w', Below w16.heap.size w16 w' → Calls Try.prog 23 #[.slice a15 m15 c15, .slice a16 m16 c16] w' fun e w'' => e = .returned (.bool true) ∧ Below w'.heap.size w' w'') := fun w' hb => by
            have h := same01_any _ _ _ _ w' (isV_below HI16.out hb) (isV_below HJ16.out hb)
            rw [beq_self_eq_true] at h
            exact h
          clear HLQ HKQ PA PB IA IB HP13 HP14 HR14 HI15 HP15 HR15 HJ16 HI16 HP16 HR16
          go_wp2_with (first
            | (go_at_call 30; refine S1.out.mono ?_; rintro e w17 ⟨rfl, hb⟩; have HB17 := hid hb; clear hb)
            | (go_at_call 23; refine (S2.out _ HB17.out).mono ?_; rintro e w18 ⟨rfl, hb⟩; have HB18 := hid (below_step HB17.out hb); clear hb)
            | fail)
          go_ret
          exact ⟨rfl, below_step HBW.out (below_step HB12.out (below_step HB16.out HB18.out))⟩
end Go.Proofs.Ytaedbkdimpdngaa
