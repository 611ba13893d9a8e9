/-
  The reference of chapter 12: the core (Core, 40).
-/
import Derived.Test.YtaedbkdimpdngaaRefA
import Derived.Test.YtaedbkdimpdngaaPlainK
import Derived.Test.YtaedbkdimpdngaaLawRings
namespace Go.Proofs.Ytaedbkdimpdngaa
open Go.RowKit
/-- the attacks of the core, in order -/
def rowK (d : Dsp) (a b : Nat) : List Pr := ((List.range b).filter fun j => d.core.att a j).map fun (j : Nat) => ((a : Int), (j : Int))
def coreK (d : Dsp) (a : Nat) : List Pr := (List.range a).flatMap fun i => rowK d i d.n
def coreL (d : Dsp) : List Pr := coreK d d.n
theorem rowK_succ (d : Dsp) (a b : Nat) : rowK d a (b + 1) = if d.core.att a b then rowK d a b ++ [((a : Int), (b : Int))] else rowK d a b := by
  unfold rowK
  rw [filter_take]
  split
  · rw [List.map_append]; rfl
  · rfl
theorem coreK_succ (d : Dsp) (a : Nat) : coreK d (a + 1) = coreK d a ++ rowK d a d.n := flat_succ _ a
theorem rowK_len (d : Dsp) (a b : Nat) : (rowK d a b).length ≤ b := by
  unfold rowK
  rw [List.length_map]
  exact Nat.le_trans (List.length_filter_le _ _) (by rw [List.length_range]; exact Nat.le_refl _)
theorem coreK_len (d : Dsp) : ∀ a, (coreK d a).length ≤ a * d.n
  | 0 => by simp [coreK]
  | a + 1 => by
    rw [coreK_succ, List.length_append, Nat.add_mul, Nat.one_mul]
    have h1 := coreK_len d a
    have h2 := rowK_len d a d.n
    omega
theorem core_len (d : Dsp) (hn : d.n ≤ 12) (a b : Nat) (ha : a ≤ d.n) (hb : b ≤ d.n) : (coreK d a ++ rowK d a b).length ≤ 200 := by
  rw [List.length_append]
  have h1 := coreK_len d a
  have h2 := rowK_len d a b
  have h3 : a * d.n ≤ 12 * 12 := Nat.mul_le_mul (by omega) hn
  omega
theorem core_att (d : Dsp) (a b : Nat) : d.core.att a b = (d.att a b && !(a != b && d.att a a && (d.att b a || d.att b b))) := rfl
set_option maxRecDepth 100000 in
set_option maxHeartbeats 4000000 in
theorem rCore_any (b1 b2 : Nat) (d : Dsp) (w : World) (h : RDd w b1 b2 d) :
    Calls Try.prog 40 #[Dv b1 b2 d] w fun e w' => ∃ v, e = .returned v ∧ OwnP w' w.heap.size 45 v (coreL d) ∧ Below w.heap.size w w' := by
  have HB0 : Hid (Below w.heap.size w (w.alloc (.cells #[.int .i64 (d.n : Int), .slice (some ⟨b1, 0, none⟩) d.n d.n, .slice (some ⟨b2, 0, none⟩) d.n d.n] 34))) := ba w _
  have hz := heap_alloc_new w (.cells #[.int .i64 (d.n : Int), .slice (some ⟨b1, 0, none⟩) d.n d.n, .slice (some ⟨b2, 0, none⟩) d.n d.n] 34)
  have HR := hid (rdd_below h HB0.out)
  obtain ⟨hn1, hn12, -⟩ := id h
  clear h
  obtain ⟨w0, hw0⟩ : ∃ w0, w0 = w.alloc (.cells #[.int .i64 (d.n : Int), .slice (some ⟨b1, 0, none⟩) d.n d.n, .slice (some ⟨b2, 0, none⟩) d.n d.n] 34) := ⟨_, rfl⟩
  rw [← hw0] at HB0 HR hz
  have HW0 := hid hw0
  clear hw0
  have hgl := heap_lt hz
  have KB : Hid (∀ w', Below w0.heap.size w0 w' → w'.cell? ⟨w.heap.size, 0, none⟩ = some (.int .i64 (d.n : Int)) ∧ w'.cell? ⟨w.heap.size, 1, none⟩ = some (.slice (some ⟨b1, 0, none⟩) d.n d.n) ∧ w'.cell? ⟨w.heap.size, 2, none⟩ = some (.slice (some ⟨b2, 0, none⟩) d.n d.n)) := fun w' hb => cells3_of ((hb.block _ hgl).trans hz)
  clear hz hgl
  unfold Dv
  go_enter Try.func40, Try.ntmps40
  go_upto_region 1 with fail
  rw [← HW0.out]
  go_upto_region 3 with fail
  have HB1 := hid (ba w0 (.cells #[] 45))
  have HT0 : Hid (OwnP (w0.alloc (.cells #[] 45)) w0.heap.size 45 (.slice (some ⟨w0.heap.size, 0, none⟩) 0 0) (coreK d 0)) := row_of_block (heap_alloc_new w0 (.cells #[] 45)) (Nat.le_refl _)
  clear HW0
  go_loopw [4, 3] (fun av ov wr => ∃ a : Nat, av = .int .i64 a ∧ a ≤ d.n ∧ Hid (OwnP wr w0.heap.size 45 ov (coreK d a)) ∧ Hid (Below w0.heap.size w0 wr)) (fun av _ _ => d.n - (intOf av).toNat)
  case atStart => exact ⟨0, rfl, Nat.zero_le _, HT0, HB1⟩
  case round =>
    obtain ⟨a, rfl, ha, HTa, HBr⟩ := hrel
    rename World => wr
    obtain ⟨ov0, hov⟩ : ∃ ov, ov = u3 := ⟨_, rfl⟩
    rw [← hov] at HTa ⊢
    clear hov HT0 HB1
    obtain ⟨x0, x1, x2⟩ := KB.out wr HBr.out
    by_cases hlt : a < d.n
    · have HR0 : Hid (OwnP wr w0.heap.size 45 ov0 (coreK d a ++ rowK d a 0)) := by
        have e : rowK d a 0 = [] := rfl
        rw [e, List.append_nil]; exact HTa.out
      have HRS := hid (coreK_succ d a)
      go_upto_region 6 with fail
      clear x0 x1 x2 HTa
      go_loopw [5, 3] (fun bv ov wk => ∃ b : Nat, bv = .int .i64 b ∧ b ≤ d.n ∧ Hid (OwnP wk w0.heap.size 45 ov (coreK d a ++ rowK d a b)) ∧ Hid (Below w0.heap.size w0 wk)) (fun bv _ _ => d.n - (intOf bv).toNat)
      case atStart => exact ⟨0, rfl, Nat.zero_le _, HR0, HBr⟩
      case round =>
        obtain ⟨b, rfl, hb, HT, HBk⟩ := hrel
        rename World => wk
        obtain ⟨ov, hov⟩ : ∃ ov, ov = u3 := ⟨_, rfl⟩
        rw [← hov] at HT ⊢
        clear hov HR0
        obtain ⟨x0, x1, x2⟩ := KB.out wk HBk.out
        by_cases hlb : b < d.n
        · have cA := (rdd_below HR.out HBk.out).2.2.1 a hlt
          have cB := (rdd_below HR.out HBk.out).2.2.1 b hlb
          have hA : (byL d).getD a 0 < 65536 := by have := byL_lt d hn12 a; omega
          have hB : (byL d).getD b 0 < 65536 := by have := byL_lt d hn12 b; omega
          have q1 := bit64 b hA
          have q2 := bit64 a hA
          have q3 := bit64 a hB
          have q4 := bit64 b hB
          rw [by_bit d hlt hlb] at q1
          rw [by_bit d hlt hlt] at q2
          rw [by_bit d hlb hlt] at q3
          rw [by_bit d hlb hlb] at q4
          have hcore := core_att d a b
          have HLN : Hid ((coreK d a ++ rowK d a b).length < 1000000) := by have := core_len d hn12 a b ha hb; show _ < _; omega
          generalize (byL d).getD a 0 = OA at *
          generalize (byL d).getD b 0 = OB at *
          cases h1 : d.att a b with
          | false =>
            rw [h1, Bool.false_and] at hcore
            rw [h1, if_neg (by decide)] at q1
            clear h1 q2 q3 q4
            have HC : Hid (coreK d a ++ rowK d a (b + 1) = coreK d a ++ rowK d a b) := by
              show _ = _
              rw [rowK_succ, if_neg (by rw [hcore]; decide)]
            clear hcore
            go_wp2_with fail
            go_roundw
            case rel => exact ⟨b + 1, by go_num, by omega, by rw [HC.out]; exact HT.out, HBk⟩
            case measure => simp [intOf]; omega
          | true =>
            rw [h1, Bool.true_and] at hcore
            rw [h1, if_pos rfl] at q1
            clear h1
            by_cases hab : a = b
            · subst hab
              rw [bne_self_eq_false, Bool.false_and, Bool.false_and] at hcore
              change d.core.att a a = true at hcore
              clear q2 q3 q4 cB
              have HC : Hid (coreK d a ++ rowK d a (a + 1) = coreK d a ++ rowK d a a ++ [((a : Int), (a : Int))]) := by
                show _ = _
                rw [rowK_succ, if_pos hcore, List.append_assoc]
              clear hcore
              obtain ⟨K, hK⟩ : ∃ K, K = coreK d a ++ rowK d a a := ⟨_, rfl⟩
              rw [← hK] at HT HLN HC
              clear hK
              go_wp2_with (first | (at_builtin; refine wpl_app_pr (a : Int) (a : Int) _ _ ov w0.heap.size K (by rfl) (by rfl) (by rfl) (by rfl) HT.out HLN.out HBk.out.size ?_; intro v' w7 ho7 hb7 hg7; obtain ⟨ma, mn, mc, rfl⟩ := ownP_sh ho7; have HO7 := hid ho7; have HB7 := hid (HBk.out.trans hb7); clear ho7 hb7 hg7) | fail)
              go_roundw
              case rel => exact ⟨a + 1, by go_num, by omega, by rw [HC.out]; exact HO7.out, HB7⟩
              case measure => simp [intOf]; omega
            · have hne : (a != b) = true := bne_iff_ne.2 hab
              have hni : ((a : Int) == (b : Int)) = false := beq_eq_false_iff_ne.2 (by omega)
              have hnn : ((a : Int) != (b : Int)) = true := bne_iff_ne.2 (by omega)
              rw [hne, Bool.true_and] at hcore
              clear hne
              cases h2 : d.att a a with
              | false =>
                rw [h2, Bool.false_and] at hcore
                change d.core.att a b = true at hcore
                rw [h2, if_neg (by decide)] at q2
                clear h2 q3 q4
                have HC : Hid (coreK d a ++ rowK d a (b + 1) = coreK d a ++ rowK d a b ++ [((a : Int), (b : Int))]) := by
                  show _ = _
                  rw [rowK_succ, if_pos hcore, List.append_assoc]
                clear hcore
                obtain ⟨K, hK⟩ : ∃ K, K = coreK d a ++ rowK d a b := ⟨_, rfl⟩
                rw [← hK] at HT HLN HC
                clear hK
                go_wp2_with (first | (at_builtin; refine wpl_app_pr (a : Int) (b : Int) _ _ ov w0.heap.size K (by rfl) (by rfl) (by rfl) (by rfl) HT.out HLN.out HBk.out.size ?_; intro v' w7 ho7 hb7 hg7; obtain ⟨ma, mn, mc, rfl⟩ := ownP_sh ho7; have HO7 := hid ho7; have HB7 := hid (HBk.out.trans hb7); clear ho7 hb7 hg7) | fail)
                go_roundw
                case rel => exact ⟨b + 1, by go_num, by omega, by rw [HC.out]; exact HO7.out, HB7⟩
                case measure => simp [intOf]; omega
              | true =>
                rw [h2, Bool.true_and] at hcore
                rw [h2, if_pos rfl] at q2
                clear h2
                cases h3 : d.att b a with
                | true =>
                  rw [h3, Bool.true_or] at hcore
                  change d.core.att a b = false at hcore
                  rw [h3, if_pos rfl] at q3
                  clear h3 q4
                  have HC : Hid (coreK d a ++ rowK d a (b + 1) = coreK d a ++ rowK d a b) := by
                    show _ = _
                    rw [rowK_succ, if_neg (by rw [hcore]; decide)]
                  clear hcore
                  go_wp2_with fail
                  go_roundw
                  case rel => exact ⟨b + 1, by go_num, by omega, by rw [HC.out]; exact HT.out, HBk⟩
                  case measure => simp [intOf]; omega
                | false =>
                  rw [h3, Bool.false_or] at hcore
                  rw [h3, if_neg (by decide)] at q3
                  clear h3
                  cases h4 : d.att b b with
                  | true =>
                    rw [h4] at hcore
                    change d.core.att a b = false at hcore
                    rw [h4, if_pos rfl] at q4
                    clear h4
                    have HC : Hid (coreK d a ++ rowK d a (b + 1) = coreK d a ++ rowK d a b) := by
                      show _ = _
                      rw [rowK_succ, if_neg (by rw [hcore]; decide)]
                    clear hcore
                    go_wp2_with fail
                    go_roundw
                    case rel => exact ⟨b + 1, by go_num, by omega, by rw [HC.out]; exact HT.out, HBk⟩
                    case measure => simp [intOf]; omega
                  | false =>
                    rw [h4] at hcore
                    change d.core.att a b = true at hcore
                    rw [h4, if_neg (by decide)] at q4
                    clear h4
                    have HC : Hid (coreK d a ++ rowK d a (b + 1) = coreK d a ++ rowK d a b ++ [((a : Int), (b : Int))]) := by
                      show _ = _
                      rw [rowK_succ, if_pos hcore, List.append_assoc]
                    clear hcore
                    obtain ⟨K, hK⟩ : ∃ K, K = coreK d a ++ rowK d a b := ⟨_, rfl⟩
                    rw [← hK] at HT HLN HC
                    clear hK
                    go_wp2_with (first | (at_builtin; refine wpl_app_pr (a : Int) (b : Int) _ _ ov w0.heap.size K (by rfl) (by rfl) (by rfl) (by rfl) HT.out HLN.out HBk.out.size ?_; intro v' w7 ho7 hb7 hg7; obtain ⟨ma, mn, mc, rfl⟩ := ownP_sh ho7; have HO7 := hid ho7; have HB7 := hid (HBk.out.trans hb7); clear ho7 hb7 hg7) | fail)
                    go_roundw
                    case rel => exact ⟨b + 1, by go_num, by omega, by rw [HC.out]; exact HO7.out, HB7⟩
                    case measure => simp [intOf]; omega
        · have hbn : b = d.n := by omega
          have HTn : Hid (OwnP wk w0.heap.size 45 ov (coreK d (a + 1))) := by rw [HRS.out, ← hbn]; exact HT.out
          clear HT
          go_wp2_with fail
          go_roundw
          case rel => exact ⟨a + 1, by go_num, by omega, HTn, HBk⟩
          case measure => simp [intOf]; omega
    · have han : a = d.n := by omega
      have HF : Hid (OwnP wr w0.heap.size 45 ov0 (coreL d)) := by unfold coreL; rw [← han]; exact HTa.out
      clear HTa
      go_wp2_with fail
      go_ret
      exact ⟨_, rfl, row_mono HF.out HB0.out.size, HB0.out.trans (HBr.out.mono HB0.out.size)⟩
end Go.Proofs.Ytaedbkdimpdngaa
