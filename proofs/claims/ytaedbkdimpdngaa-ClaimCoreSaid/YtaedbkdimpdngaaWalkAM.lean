/-
  Walks over chapter 12: the core (Core, 39).
-/
import Derived.Test.YtaedbkdimpdngaaWalkAL
namespace Go.Proofs.Ytaedbkdimpdngaa
open Go.RowKit
set_option maxRecDepth 100000 in
set_option maxHeartbeats 4000000 in
theorem pCore_any (n : Int) (v : Value) (l : List Pr) (w : World) (hv : IsPr w v l) :
    Calls Try.prog 39 #[.int .i64 n, v] w (Ret w n l (.tuple #[.slice none 0 0, .int .i64 1]) fun u w' => ∃ x, u = .tuple #[x, .int .i64 0] ∧ OwnP w' w.heap.size 45 x (coreL (dsp n.toNat l))) := by
  obtain ⟨na, nc, rfl⟩ := isPr_slice hv
  have HV := hid hv
  clear hv
  obtain ⟨ln, hln⟩ : ∃ ln, ln = l.length := ⟨_, rfl⟩
  have HLEN := hid hln
  rw [← hln] at HV ⊢
  clear hln
  have HB0 := hid (ba w (.cells #[.slice na ln nc] 22))
  have HZ := hid (heap_alloc_new w (.cells #[.slice na ln nc] 22))
  have HV0 := hid (isPr_below HV.out HB0.out)
  obtain ⟨w0, hw0⟩ : ∃ w0, w0 = w.alloc (.cells #[.slice na ln nc] 22) := ⟨_, rfl⟩
  have HW0 := hid hw0
  rw [← hw0] at HB0 HZ HV0
  clear hw0
  cases hva : validP n l with
  | false =>
    have HR := hid (read_no HV0.out hva)
    have HVA := hid hva
    have x0 := box1 HZ.out
    clear hva
    go_enter Try.func39, Try.ntmps39
    go_upto_region 1 with fail
    rw [← HW0.out]
    go_wp2_with (first | (go_at_call 47; refine (HR.out).mono ?_; rintro e w6 ⟨rfl, hb6⟩; have HB6 := hid hb6; clear hb6) | fail)
    go_ret2
    exact ⟨HB0.out.trans (HB6.out.mono HB0.out.size), .inl ⟨HVA.out, rfl⟩⟩
  | true =>
    have HR := hid (read_ok HV0.out hva)
    have HVA := hid hva
    obtain ⟨hn1, hn12⟩ := valid_n hva
    obtain ⟨m, rfl⟩ : ∃ m : Nat, n = (m : Int) := ⟨n.toNat, by omega⟩
    have HF : Hid (∀ (x y : Nat) w', Below w0.heap.size w0 w' → Calls Try.prog 71 #[.int .i64 (x : Int), .int .i64 (y : Int), .pointer (some ⟨w.heap.size, 0, none⟩)] w' fun e w'' => e = .returned (.bool ((dsp m l).att x y)) ∧ Below w'.heap.size w' w'') := fun x y w' hb => has_any x y w.heap.size _ l w' (box1 ((hb.block _ (heap_lt HZ.out)).trans HZ.out)) (isPr_below HV0.out hb)
    have hdm : (dsp m l).n = m := rfl
    have HDT : Hid (dsp (Int.toNat (m : Int)) l = dsp m l) := rfl
    have eg := eg71
    have x0 := box1 HZ.out
    clear hva
    generalize hd : dsp m l = d at *
    have HDE := hid hd
    subst hdm
    clear hd
    have hd12 : d.n ≤ 12 := by omega
    go_enter Try.func39, Try.ntmps39
    go_upto_region 1 with fail
    rw [← HW0.out]
    go_upto_region 7 with (first | (go_at_call 47; refine (HR.out).mono ?_; rintro e w6 ⟨D, rfl, hd6, hb6⟩; have HB6 := hid hb6; clear hb6 hd6) | fail)
    have HT0 : Hid (OwnP w6 w0.heap.size 45 (.slice none 0 0) (coreK d 0)) := World.ownsRow_nil _ _ _ _
    clear x0 HR
    go_loopw [23, 9] (fun av ov wr => ∃ a : Nat, av = .int .i64 a ∧ a ≤ d.n ∧ Hid (OwnP wr w0.heap.size 45 ov (coreK d a)) ∧ Hid (Below w0.heap.size w0 wr)) (fun av _ _ => d.n - (intOf av).toNat)
    case atStart => exact ⟨0, rfl, Nat.zero_le _, HT0, HB6⟩
    case round =>
      obtain ⟨a, rfl, ha, HTa, HBr⟩ := hrel
      rename World => wr
      obtain ⟨ov0, hov⟩ : ∃ ov, ov = u9 := ⟨_, rfl⟩
      rw [← hov] at HTa ⊢
      clear hov HT0 HB6
      by_cases hlt : a < d.n
      · have HR0 : Hid (OwnP wr w0.heap.size 45 ov0 (coreK d a ++ rowK d a 0)) := by
          have e : rowK d a 0 = [] := rfl
          rw [e, List.append_nil]; exact HTa.out
        have HRS := hid (coreK_succ d a)
        go_upto_region 10 with fail
        clear HTa
        go_loopw [27, 9] (fun bv ov wk => ∃ b : Nat, bv = .int .i64 b ∧ b ≤ d.n ∧ Hid (OwnP wk w0.heap.size 45 ov (coreK d a ++ rowK d a b)) ∧ Hid (Below w0.heap.size w0 wk)) (fun bv _ _ => d.n - (intOf bv).toNat)
        case atStart => exact ⟨0, rfl, Nat.zero_le _, HR0, HBr⟩
        case round =>
          obtain ⟨b, rfl, hb, HT, HBk⟩ := hrel
          rename World => wk
          obtain ⟨ov, hov⟩ : ∃ ov, ov = u9 := ⟨_, rfl⟩
          rw [← hov] at HT ⊢
          clear hov HR0
          by_cases hlb : b < d.n
          · have HAA := hid (fun w' hb => HF.out a a w' hb)
            have HBA := hid (fun w' hb => HF.out b a w' hb)
            have HBB := hid (fun w' hb => HF.out b b w' hb)
            have HAB := hid (fun w' hb => HF.out a b w' hb)
            have hcore := core_att d a b
            have HLN : Hid ((coreK d a ++ rowK d a b).length < 1000000) := by have := core_len d hd12 a b ha hb; show _ < _; omega
            by_cases hab : a = b
            · subst hab
              rw [bne_self_eq_false, Bool.false_and, Bool.false_and, Bool.not_false, Bool.and_true] at hcore
              clear HAA HBA HBB
              cases h1 : d.att a a with
              | false =>
                rw [h1] at HAB hcore
                change d.core.att a a = false at hcore
                clear h1
                have HC : Hid (coreK d a ++ rowK d a (a + 1) = coreK d a ++ rowK d a a) := by
                  show _ = _
                  rw [rowK_succ, if_neg (by rw [hcore]; decide)]
                clear hcore
                go_wp2_with (first | (go_at_fn 71; with_reducible refine (HAB.out _ HBk.out).mono ?_; rintro e wc1 ⟨rfl, hb⟩; have HC1 := hid (below_step HBk.out hb); have HQ1 := hid (hb); clear hb) | fail)
                go_roundw
                case rel => exact ⟨a + 1, by go_num, by omega, by rw [HC.out]; exact row_below HT.out HQ1.out, HC1⟩
                case measure => simp [intOf]; omega
              | true =>
                rw [h1] at HAB hcore
                change d.core.att a a = true at hcore
                clear h1
                have HC : Hid (coreK d a ++ rowK d a (a + 1) = coreK d a ++ rowK d a a ++ [((a : Int), (a : Int))]) := by
                  show _ = _
                  rw [rowK_succ, if_pos hcore, List.append_assoc]
                clear hcore
                obtain ⟨K, hK⟩ : ∃ K, K = coreK d a ++ rowK d a a := ⟨_, rfl⟩
                rw [← hK] at HT HLN HC
                clear hK
                go_wp2_with (first | (go_at_fn 71; with_reducible refine (HAB.out _ HBk.out).mono ?_; rintro e wc1 ⟨rfl, hb⟩; have HC1 := hid (below_step HBk.out hb); have HQ1 := hid (hb); clear hb) | (at_builtin; refine wpl_app_pr (a : Int) (a : Int) _ _ ov w0.heap.size K (by rfl) (by rfl) (by rfl) (by rfl) (row_below HT.out HQ1.out) HLN.out HC1.out.size ?_; intro v' w7 ho7 hb7 hg7; obtain ⟨ma, mn, mc, rfl⟩ := ownP_sh ho7; have HO7 := hid ho7; have HB7 := hid (HC1.out.trans hb7); clear ho7 hb7 hg7) | fail)
                go_roundw
                case rel => exact ⟨a + 1, by go_num, by omega, by rw [HC.out]; exact HO7.out, HB7⟩
                case measure => simp [intOf]; omega
            · have hne : (a != b) = true := bne_iff_ne.2 hab
              have hni : ((a : Int) == (b : Int)) = false := beq_eq_false_iff_ne.2 (by omega)
              have hnn : ((a : Int) != (b : Int)) = true := bne_iff_ne.2 (by omega)
              rw [hne, Bool.true_and] at hcore
              clear hne
              cases h2 : d.att a a with
              | false =>
                rw [h2] at HAA
                rw [h2, Bool.false_and, Bool.not_false, Bool.and_true] at hcore
                clear h2
                cases h1 : d.att a b with
                | false =>
                  rw [h1] at HAB hcore
                  change d.core.att a b = false at hcore
                  clear h1
                  have HC : Hid (coreK d a ++ rowK d a (b + 1) = coreK d a ++ rowK d a b) := by
                    show _ = _
                    rw [rowK_succ, if_neg (by rw [hcore]; decide)]
                  clear hcore
                  go_wp2_with (first | (go_at_fn 71; with_reducible refine (HAA.out _ HBk.out).mono ?_; rintro e wc1 ⟨rfl, hb⟩; have HC1 := hid (below_step HBk.out hb); have HQ1 := hid (hb); clear hb) | (go_at_fn 71; with_reducible refine (HAB.out _ HC1.out).mono ?_; rintro e wc2 ⟨rfl, hb⟩; have HC2 := hid (below_step HC1.out hb); have HQ2 := hid (below_step HQ1.out hb); clear hb) | fail)
                  go_roundw
                  case rel => exact ⟨b + 1, by go_num, by omega, by rw [HC.out]; exact row_below HT.out HQ2.out, HC2⟩
                  case measure => simp [intOf]; omega
                | true =>
                  rw [h1] at HAB hcore
                  change d.core.att a b = true at hcore
                  clear h1
                  have HC : Hid (coreK d a ++ rowK d a (b + 1) = coreK d a ++ rowK d a b ++ [((a : Int), (b : Int))]) := by
                    show _ = _
                    rw [rowK_succ, if_pos hcore, List.append_assoc]
                  clear hcore
                  obtain ⟨K, hK⟩ : ∃ K, K = coreK d a ++ rowK d a b := ⟨_, rfl⟩
                  rw [← hK] at HT HLN HC
                  clear hK
                  go_wp2_with (first | (go_at_fn 71; with_reducible refine (HAA.out _ HBk.out).mono ?_; rintro e wc1 ⟨rfl, hb⟩; have HC1 := hid (below_step HBk.out hb); have HQ1 := hid (hb); clear hb) | (go_at_fn 71; with_reducible refine (HAB.out _ HC1.out).mono ?_; rintro e wc2 ⟨rfl, hb⟩; have HC2 := hid (below_step HC1.out hb); have HQ2 := hid (below_step HQ1.out hb); clear hb) | (at_builtin; refine wpl_app_pr (a : Int) (b : Int) _ _ ov w0.heap.size K (by rfl) (by rfl) (by rfl) (by rfl) (row_below HT.out HQ2.out) HLN.out HC2.out.size ?_; intro v' w7 ho7 hb7 hg7; obtain ⟨ma, mn, mc, rfl⟩ := ownP_sh ho7; have HO7 := hid ho7; have HB7 := hid (HC2.out.trans hb7); clear ho7 hb7 hg7) | fail)
                  go_roundw
                  case rel => exact ⟨b + 1, by go_num, by omega, by rw [HC.out]; exact HO7.out, HB7⟩
                  case measure => simp [intOf]; omega
              | true =>
                rw [h2] at HAA
                rw [h2, Bool.true_and] at hcore
                clear h2
                cases h3 : d.att b a with
                | true =>
                  rw [h3] at HBA
                  rw [h3, Bool.true_or, Bool.not_true, Bool.and_false] at hcore
                  clear h3
                  cases h1 : d.att a b with
                  | false =>
                    rw [h1] at HAB
                    change d.core.att a b = false at hcore
                    clear h1
                    have HC : Hid (coreK d a ++ rowK d a (b + 1) = coreK d a ++ rowK d a b) := by
                      show _ = _
                      rw [rowK_succ, if_neg (by rw [hcore]; decide)]
                    clear hcore
                    go_wp2_with (first | (go_at_fn 71; with_reducible refine (HAA.out _ HBk.out).mono ?_; rintro e wc1 ⟨rfl, hb⟩; have HC1 := hid (below_step HBk.out hb); have HQ1 := hid (hb); clear hb) | (go_at_fn 71; with_reducible refine (HBA.out _ HC1.out).mono ?_; rintro e wc2 ⟨rfl, hb⟩; have HC2 := hid (below_step HC1.out hb); have HQ2 := hid (below_step HQ1.out hb); clear hb) | (go_at_fn 71; with_reducible refine (HAB.out _ HC2.out).mono ?_; rintro e wc3 ⟨rfl, hb⟩; have HC3 := hid (below_step HC2.out hb); have HQ3 := hid (below_step HQ2.out hb); clear hb) | fail)
                    go_roundw
                    case rel => exact ⟨b + 1, by go_num, by omega, by rw [HC.out]; exact row_below HT.out HQ3.out, HC3⟩
                    case measure => simp [intOf]; omega
                  | true =>
                    rw [h1] at HAB
                    change d.core.att a b = false at hcore
                    clear h1
                    have HC : Hid (coreK d a ++ rowK d a (b + 1) = coreK d a ++ rowK d a b) := by
                      show _ = _
                      rw [rowK_succ, if_neg (by rw [hcore]; decide)]
                    clear hcore
                    go_wp2_with (first | (go_at_fn 71; with_reducible refine (HAA.out _ HBk.out).mono ?_; rintro e wc1 ⟨rfl, hb⟩; have HC1 := hid (below_step HBk.out hb); have HQ1 := hid (hb); clear hb) | (go_at_fn 71; with_reducible refine (HBA.out _ HC1.out).mono ?_; rintro e wc2 ⟨rfl, hb⟩; have HC2 := hid (below_step HC1.out hb); have HQ2 := hid (below_step HQ1.out hb); clear hb) | (go_at_fn 71; with_reducible refine (HAB.out _ HC2.out).mono ?_; rintro e wc3 ⟨rfl, hb⟩; have HC3 := hid (below_step HC2.out hb); have HQ3 := hid (below_step HQ2.out hb); clear hb) | fail)
                    go_roundw
                    case rel => exact ⟨b + 1, by go_num, by omega, by rw [HC.out]; exact row_below HT.out HQ3.out, HC3⟩
                    case measure => simp [intOf]; omega
                | false =>
                  rw [h3] at HBA
                  rw [h3, Bool.false_or] at hcore
                  clear h3
                  cases h4 : d.att b b with
                  | true =>
                    rw [h4] at HBB
                    rw [h4, Bool.not_true, Bool.and_false] at hcore
                    clear h4
                    cases h1 : d.att a b with
                    | false =>
                      rw [h1] at HAB
                      change d.core.att a b = false at hcore
                      clear h1
                      have HC : Hid (coreK d a ++ rowK d a (b + 1) = coreK d a ++ rowK d a b) := by
                        show _ = _
                        rw [rowK_succ, if_neg (by rw [hcore]; decide)]
                      clear hcore
                      go_wp2_with (first | (go_at_fn 71; with_reducible refine (HAA.out _ HBk.out).mono ?_; rintro e wc1 ⟨rfl, hb⟩; have HC1 := hid (below_step HBk.out hb); have HQ1 := hid (hb); clear hb) | (go_at_fn 71; with_reducible refine (HBA.out _ HC1.out).mono ?_; rintro e wc2 ⟨rfl, hb⟩; have HC2 := hid (below_step HC1.out hb); have HQ2 := hid (below_step HQ1.out hb); clear hb) | (go_at_fn 71; with_reducible refine (HBB.out _ HC2.out).mono ?_; rintro e wc3 ⟨rfl, hb⟩; have HC3 := hid (below_step HC2.out hb); have HQ3 := hid (below_step HQ2.out hb); clear hb) | (go_at_fn 71; with_reducible refine (HAB.out _ HC3.out).mono ?_; rintro e wc4 ⟨rfl, hb⟩; have HC4 := hid (below_step HC3.out hb); have HQ4 := hid (below_step HQ3.out hb); clear hb) | fail)
                      go_roundw
                      case rel => exact ⟨b + 1, by go_num, by omega, by rw [HC.out]; exact row_below HT.out HQ4.out, HC4⟩
                      case measure => simp [intOf]; omega
                    | true =>
                      rw [h1] at HAB
                      change d.core.att a b = false at hcore
                      clear h1
                      have HC : Hid (coreK d a ++ rowK d a (b + 1) = coreK d a ++ rowK d a b) := by
                        show _ = _
                        rw [rowK_succ, if_neg (by rw [hcore]; decide)]
                      clear hcore
                      go_wp2_with (first | (go_at_fn 71; with_reducible refine (HAA.out _ HBk.out).mono ?_; rintro e wc1 ⟨rfl, hb⟩; have HC1 := hid (below_step HBk.out hb); have HQ1 := hid (hb); clear hb) | (go_at_fn 71; with_reducible refine (HBA.out _ HC1.out).mono ?_; rintro e wc2 ⟨rfl, hb⟩; have HC2 := hid (below_step HC1.out hb); have HQ2 := hid (below_step HQ1.out hb); clear hb) | (go_at_fn 71; with_reducible refine (HBB.out _ HC2.out).mono ?_; rintro e wc3 ⟨rfl, hb⟩; have HC3 := hid (below_step HC2.out hb); have HQ3 := hid (below_step HQ2.out hb); clear hb) | (go_at_fn 71; with_reducible refine (HAB.out _ HC3.out).mono ?_; rintro e wc4 ⟨rfl, hb⟩; have HC4 := hid (below_step HC3.out hb); have HQ4 := hid (below_step HQ3.out hb); clear hb) | fail)
                      go_roundw
                      case rel => exact ⟨b + 1, by go_num, by omega, by rw [HC.out]; exact row_below HT.out HQ4.out, HC4⟩
                      case measure => simp [intOf]; omega
                  | false =>
                    rw [h4] at HBB
                    rw [h4, Bool.not_false, Bool.and_true] at hcore
                    clear h4
                    cases h1 : d.att a b with
                    | false =>
                      rw [h1] at HAB hcore
                      change d.core.att a b = false at hcore
                      clear h1
                      have HC : Hid (coreK d a ++ rowK d a (b + 1) = coreK d a ++ rowK d a b) := by
                        show _ = _
                        rw [rowK_succ, if_neg (by rw [hcore]; decide)]
                      clear hcore
                      go_wp2_with (first | (go_at_fn 71; with_reducible refine (HAA.out _ HBk.out).mono ?_; rintro e wc1 ⟨rfl, hb⟩; have HC1 := hid (below_step HBk.out hb); have HQ1 := hid (hb); clear hb) | (go_at_fn 71; with_reducible refine (HBA.out _ HC1.out).mono ?_; rintro e wc2 ⟨rfl, hb⟩; have HC2 := hid (below_step HC1.out hb); have HQ2 := hid (below_step HQ1.out hb); clear hb) | (go_at_fn 71; with_reducible refine (HBB.out _ HC2.out).mono ?_; rintro e wc3 ⟨rfl, hb⟩; have HC3 := hid (below_step HC2.out hb); have HQ3 := hid (below_step HQ2.out hb); clear hb) | (go_at_fn 71; with_reducible refine (HAB.out _ HC3.out).mono ?_; rintro e wc4 ⟨rfl, hb⟩; have HC4 := hid (below_step HC3.out hb); have HQ4 := hid (below_step HQ3.out hb); clear hb) | fail)
                      go_roundw
                      case rel => exact ⟨b + 1, by go_num, by omega, by rw [HC.out]; exact row_below HT.out HQ4.out, HC4⟩
                      case measure => simp [intOf]; omega
                    | true =>
                      rw [h1] at HAB hcore
                      change d.core.att a b = true at hcore
                      clear h1
                      have HC : Hid (coreK d a ++ rowK d a (b + 1) = coreK d a ++ rowK d a b ++ [((a : Int), (b : Int))]) := by
                        show _ = _
                        rw [rowK_succ, if_pos hcore, List.append_assoc]
                      clear hcore
                      obtain ⟨K, hK⟩ : ∃ K, K = coreK d a ++ rowK d a b := ⟨_, rfl⟩
                      rw [← hK] at HT HLN HC
                      clear hK
                      go_wp2_with (first | (go_at_fn 71; with_reducible refine (HAA.out _ HBk.out).mono ?_; rintro e wc1 ⟨rfl, hb⟩; have HC1 := hid (below_step HBk.out hb); have HQ1 := hid (hb); clear hb) | (go_at_fn 71; with_reducible refine (HBA.out _ HC1.out).mono ?_; rintro e wc2 ⟨rfl, hb⟩; have HC2 := hid (below_step HC1.out hb); have HQ2 := hid (below_step HQ1.out hb); clear hb) | (go_at_fn 71; with_reducible refine (HBB.out _ HC2.out).mono ?_; rintro e wc3 ⟨rfl, hb⟩; have HC3 := hid (below_step HC2.out hb); have HQ3 := hid (below_step HQ2.out hb); clear hb) | (go_at_fn 71; with_reducible refine (HAB.out _ HC3.out).mono ?_; rintro e wc4 ⟨rfl, hb⟩; have HC4 := hid (below_step HC3.out hb); have HQ4 := hid (below_step HQ3.out hb); clear hb) | (at_builtin; refine wpl_app_pr (a : Int) (b : Int) _ _ ov w0.heap.size K (by rfl) (by rfl) (by rfl) (by rfl) (row_below HT.out HQ4.out) HLN.out HC4.out.size ?_; intro v' w7 ho7 hb7 hg7; obtain ⟨ma, mn, mc, rfl⟩ := ownP_sh ho7; have HO7 := hid ho7; have HB7 := hid (HC4.out.trans hb7); clear ho7 hb7 hg7) | fail)
                      go_roundw
                      case rel => exact ⟨b + 1, by go_num, by omega, by rw [HC.out]; exact HO7.out, HB7⟩
                      case measure => simp [intOf]; omega
          · have hbn : b = d.n := by omega
            have HTn : Hid (OwnP wk w0.heap.size 45 ov (coreK d (a + 1))) := by rw [HRS.out, ← hbn]; exact HT.out
            clear HT
            go_wp2_with fail
            go_roundw
            case rel => exact ⟨a + 1, by go_num, by omega, HTn, HBk⟩
            case measure => simp [intOf]; omega
      · have han : a = d.n := by omega
        have HFI : Hid (OwnP wr w0.heap.size 45 ov0 (coreL d)) := by unfold coreL; rw [← han]; exact HTa.out
        clear HTa
        go_wp2_with fail
        go_ret2
        refine ⟨HB0.out.trans (HBr.out.mono HB0.out.size), .inr ⟨HVA.out, _, rfl, _, rfl, ?_⟩⟩
        rw [HDT.out]
        exact row_mono HFI.out HB0.out.size
end Go.Proofs.Ytaedbkdimpdngaa
