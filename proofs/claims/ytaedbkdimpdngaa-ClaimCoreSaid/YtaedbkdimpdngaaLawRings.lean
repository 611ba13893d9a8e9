/-
  The law ClaimRings of chapter 12: its contract.
-/
import Derived.Test.YtaedbkdimpdngaaLawChain
namespace Go.Proofs.Ytaedbkdimpdngaa
open Go.RowKit
theorem ownP_sh {w : World} {B : Nat} {e : TypeId} {v : Value} {xs : List Pr} (h : OwnP w B e v xs) : ∃ a n c, v = .slice a n c := by
  obtain ⟨a, c, h⟩ := row_slice h
  exact ⟨a, _, c, h⟩
theorem wpl_app_pr {ops : Array Oper} {rest : List Oper} {o : Oper} {a : Act} {Q : Exit → Act → World → Prop} {W : World} (x y : Int) (s t : Operand) (v : Value) (B : Nat) (xs : List Pr)
    (hgd : o.guard = none) (ho : o.op = .call { callee := .builtin .append, args := #[s, t], argTypes := #[22, 22] })
    (hs : a.eval s = v) (hx : a.eval t = .slice (some ⟨W.heap.size, 0, none⟩) 1 1)
    (hown : OwnP W B 45 v xs) (hlen : xs.length < 1000000) (hB : B ≤ W.heap.size)
    (h : ∀ v' w', OwnP w' B 45 v' (xs ++ [(x, y)]) → Below B W w' → W.grownBy w' v.ownBlock → wpList Try.prog ops Q rest (a.put o.dst v') w') :
    wpList Try.prog ops Q (o :: rest) a (W.alloc (.cells #[.int .i64 x, .int .i64 y] 45)) :=
  wpl_appn hgd s t 22 45 ho (.agg #[.int .i64 0, .int .i64 0]) 2 16 info45 rfl (by decide) Try.underlying22 v B xs.length (pcells xs) hs hown [.int .i64 x, .int .i64 y] rfl (fun u hu => by simp at hu; rcases hu with rfl | rfl <;> rfl) hx
    (by have : (xs.length + 1) * 16 ≤ 1000000 * 16 := Nat.mul_le_mul (by omega) (Nat.le_refl _)
        omega) (by unfold maxLen; omega) hB
    (fun v' w' h1 h2 => h v' w' (by unfold OwnP; rw [List.length_append, pcells_append]; exact h1) (((Below.refl B W).alloc hB _).trans (app_below h2 (by simp; omega) (fun k hk => (World.ownsRow.lt hown k hk).1))) (grown_alloc h2.grown))
def keepP (hv : Bool) (p : Pr) : Bool := if hv then (p.1 + p.2).tmod 2 == 1 else decide (p.1 < p.2)
def kept (hv : Bool) (l : List Pr) (i : Nat) : List Pr := (l.take i).filter (keepP hv)
theorem prAt_eq (l : List Pr) (i : Nat) (h : i < l.length) : l[i]? = some (prAt l i) := by
  unfold prAt
  rw [List.getD_eq_getElem?_getD]
  simp [h]
theorem kept_yes {hv : Bool} {l : List Pr} {i : Nat} (h : i < l.length) (hk : keepP hv (prAt l i) = true) : kept hv l (i + 1) = kept hv l i ++ [prAt l i] := by
  unfold kept
  rw [List.take_add_one, prAt_eq l i h, Option.toList_some, List.filter_append]
  simp [hk]
theorem kept_no {hv : Bool} {l : List Pr} {i : Nat} (h : i < l.length) (hk : keepP hv (prAt l i) = false) : kept hv l (i + 1) = kept hv l i := by
  unfold kept
  rw [List.take_add_one, prAt_eq l i h, Option.toList_some, List.filter_append]
  simp [hk]
theorem kept_len (hv : Bool) (l : List Pr) (i : Nat) : (kept hv l i).length ≤ l.length := by
  unfold kept
  exact Nat.le_trans (List.length_filter_le _ _) (by rw [List.length_take]; omega)
theorem kept_valid {hv : Bool} {n : Int} {l : List Pr} (i : Nat) (h : validP n l = true) : validP n (kept hv l i) = true := by
  unfold validP at *
  simp only [Bool.and_eq_true, decide_eq_true_eq, List.all_eq_true] at *
  refine ⟨⟨h.1.1, Nat.le_trans (kept_len hv l i) h.1.2⟩, fun p hp => h.2 p ?_⟩
  unfold kept at hp
  exact List.mem_of_mem_take (List.mem_filter.1 hp).1
theorem kept_att {hv : Bool} {n : Nat} {l : List Pr} {i a b : Nat} (h : (dsp n (kept hv l i)).att a b = true) : keepP hv ((a : Int), (b : Int)) = true := by
  rw [dsp_att] at h
  unfold kept at h
  exact (List.mem_filter.1 h).2
theorem kept_odd (hv : Bool) (n : Nat) (l : List Pr) (i : Nat) : ∀ h m, Ring (dsp n (kept hv l i)).att (dsp n (kept hv l i)).n h m → m.length % 2 = 0 → False := by
  intro h m hr ho
  cases hv with
  | true =>
    refine no_ring_par (fun a b hab => ?_) hr ho
    have := kept_att hab
    unfold keepP at this
    rw [if_pos rfl] at this
    have h2 := beq_iff_eq.1 this
    rw [Int.tmod_eq_emod_of_nonneg (by show (0 : Int) ≤ (a : Int) + (b : Int); omega)] at h2
    have h3 : ((a : Int) + (b : Int)) % 2 = 1 := h2
    omega
  | false =>
    refine no_ring_up (fun a b hab => ?_) hr
    have := kept_att hab
    unfold keepP at this
    rw [if_neg (by decide)] at this
    have h3 : (a : Int) < (b : Int) := of_decide_eq_true this
    omega
theorem kept_one (n : Nat) (l : List Pr) (i : Nat) : (dsp n (kept false l i)).comps.length = 1 := by
  rw [Dsp.comps_one _ (fun a b hab => ?_)]
  · rfl
  · have := kept_att hab
    unfold keepP at this
    rw [if_neg (by decide)] at this
    have h3 : (a : Int) < (b : Int) := of_decide_eq_true this
    omega
theorem ret_ok {w : World} {k : Nat} {args : Array Value} {n : Int} {l : List Pr} {no : Value} {ok : Value → World → Prop} (h : Calls Try.prog k args w (Ret w n l no ok)) (hva : validP n l = true) :
    Calls Try.prog k args w fun e w' => ∃ u, e = .returned u ∧ ok u w' ∧ Below w.heap.size w w' :=
  h.mono fun e w' hp => by
    obtain ⟨hb, ⟨h2, _⟩ | ⟨_, u, he, hx⟩⟩ := hp
    · rw [hva] at h2; cases h2
    · exact ⟨u, he, hx, hb⟩
theorem odd_none_ok {n : Int} {v : Value} {l : List Pr} {w : World} (hv : IsPr w v l) (hva : validP n l = true) (ho : (dsp n.toNat l).odd = none) :
    Calls Try.prog 25 #[.int .i64 n, v] w fun e w' => e = .returned (.tuple #[.slice none 0 0, .int .i64 5]) ∧ Below w.heap.size w w' :=
  (ret_ok (pOdd_any n v l w hv) hva).mono fun e w' h => by
    obtain ⟨u, rfl, hx, hb⟩ := h
    rw [ho] at hx
    exact ⟨by rw [show u = _ from hx], hb⟩
theorem odd_some_ok {n : Int} {v : Value} {l : List Pr} {w : World} {x : List Nat} (hv : IsPr w v l) (hva : validP n l = true) (ho : (dsp n.toNat l).odd = some x) :
    Calls Try.prog 25 #[.int .i64 n, v] w fun e w' => ∃ a m c, e = .returned (.tuple #[.slice a m c, .int .i64 0]) ∧ IsV w' (.slice a m c) (x.map iv) ∧ m = x.length ∧ Below w.heap.size w w' :=
  (ret_ok (pOdd_any n v l w hv) hva).mono fun e w' h => by
    obtain ⟨u, rfl, hx, hb⟩ := h
    rw [ho] at hx
    obtain ⟨o, rfl, hx⟩ := hx
    obtain ⟨a, c, rfl⟩ := isV_slice hx
    exact ⟨a, _, c, rfl, hx, by simp, hb⟩
theorem ownP_all {w2 : World} {v : Value} {n : Int} {B : Nat} {l : List Pr} (h : OwnP w2 B 45 v l) (hva : validP n l = true) : ∀ w', Below w2.heap.size w2 w' → IsPr w' v l := fun w' hb =>
  isPr_below (ownP_isPr h (by unfold validP at hva; simp only [Bool.and_eq_true, decide_eq_true_eq] at hva; omega)) hb
set_option maxRecDepth 100000 in
set_option maxHeartbeats 4000000 in
theorem ClaimRings_ok (nb : Int) (ja : Option Addr) (jn jc : Nat) (hv : Bool) (w : World) (hnb : 0 ≤ nb ∧ nb < 256) (hx : ArgAr w ja jn) :
    Calls Try.prog 6 #[.int .u8 nb, .slice ja jn jc, .bool hv] w fun e w' => e = .returned (.bool true) ∧ Below w.heap.size w w' := by
  have HM := hid (made_any nb ja jn jc 12 w hnb (by decide) hx)
  clear hnb hx
  go_enter Try.func6, Try.ntmps6
  go_upto_region 2 with (first | (go_at_call 27; refine (HM.out).mono ?_; rintro e w2 ⟨size, v2, l, rfl, hp2, hva, h1, h12, -, -, hb2⟩; obtain ⟨na, nc, rfl⟩ := row_slice hp2; have HB2 := hid hb2; have HVA := hid hva; have HP2 := hid (ownP_all hp2 hva); clear hp2 hva hb2) | fail)
  have hl40 : l.length ≤ 40 := by have := HVA.out; unfold validP at this; simp only [Bool.and_eq_true, decide_eq_true_eq] at this; omega
  have HB0 : Hid (Below w2.heap.size w2 (w2.alloc (.cells #[] 45))) := ba w2 _
  have HT0 : Hid (OwnP (w2.alloc (.cells #[] 45)) w2.heap.size 45 (.slice (some ⟨w2.heap.size, 0, none⟩) 0 0) (kept hv l 0)) := row_of_block (heap_alloc_new w2 (.cells #[] 45)) (Nat.le_refl _)
  clear HM
  go_upto_region 4 with fail
  go_loopw [10, 9] (fun zv ov wr => ∃ (i : Nat), zv = .int .i64 i ∧ i ≤ l.length ∧ Hid (OwnP wr w2.heap.size 45 ov (kept hv l i)) ∧ Hid (Below w2.heap.size w2 wr)) (fun zv _ _ => 40 - (intOf zv).toNat)
  case atStart => exact ⟨0, rfl, Nat.zero_le _, HT0, HB0⟩
  case round =>
    obtain ⟨i, rfl, hi, HT, HBr⟩ := hrel
    obtain ⟨ov, hov⟩ : ∃ ov, ov = u9 := ⟨_, rfl⟩
    rw [← hov] at HT ⊢
    clear hov HT0 HB0
    by_cases hil : i < l.length
    · obtain ⟨g, rfl, hnn, c0, c1⟩ := isPr_at (HP2.out wr HBr.out) i hil
      have hin : inB (size : Int) (prAt l i) = true := by
        have := HVA.out
        unfold validP at this
        simp only [Bool.and_eq_true, List.all_eq_true] at this
        exact this.2 _ (List.mem_of_getElem? (prAt_eq l i hil))
      have KEEP2 : Hid (∀ w', Below w2.heap.size w2 w' → w'.cell? ⟨g, i * 2, none⟩ = some (.int .i64 (prAt l i).1) ∧ w'.cell? ⟨g, i * 2 + 1, none⟩ = some (.int .i64 (prAt l i).2)) := fun w' hb => by
        obtain ⟨g', e, _, d0, d1⟩ := isPr_at (HP2.out w' hb) i hil
        cases e
        exact ⟨d0, d1⟩
      have HY : Hid (keepP hv (prAt l i) = true → kept hv l (i + 1) = kept hv l i ++ [prAt l i]) := kept_yes hil
      have HN : Hid (keepP hv (prAt l i) = false → kept hv l (i + 1) = kept hv l i) := kept_no hil
      have HLN : Hid ((kept hv l i).length < 1000000) := by have := kept_len hv l i; show _ < _; omega
      obtain ⟨K, hK⟩ : ∃ K, K = kept hv l i := ⟨_, rfl⟩
      rw [← hK] at HT HY HN HLN
      clear hK
      obtain ⟨⟨x, y⟩, hxy⟩ : ∃ p, p = prAt l i := ⟨_, rfl⟩
      rw [← hxy] at hin KEEP2 HY HN c0 c1
      dsimp only at hin KEEP2 c0 c1
      have hin2 : 0 ≤ x ∧ x < (size : Int) ∧ 0 ≤ y ∧ y < (size : Int) := of_decide_eq_true hin
      obtain ⟨x1, x2, y1, y2⟩ := hin2
      have KEEP : Hid (∀ w', Below wr.heap.size wr w' → w'.cell? ⟨g, i * 2, none⟩ = some (.int .i64 x) ∧ w'.cell? ⟨g, i * 2 + 1, none⟩ = some (.int .i64 y)) := fun w' hb => KEEP2.out w' (HBr.out.trans (hb.mono HBr.out.size))
      clear hin hxy hnn
      go_upto_region 6 with fail
      go_quiet (fail)
      have HB3 := hid (below_drewN_r HBr.out nq)
      have HT3 : Hid (OwnP (wr.drewN nq) w2.heap.size 45 ov K) := HT.out
      have KEEP3 : Hid (∀ w', Below (wr.drewN nq).heap.size (wr.drewN nq) w' → w'.cell? ⟨g, i * 2, none⟩ = some (.int .i64 x) ∧ w'.cell? ⟨g, i * 2 + 1, none⟩ = some (.int .i64 y)) := fun w' hb => KEEP2.out w' (HB3.out.trans (hb.mono HB3.out.size))
      clear HT HBr KEEP c0 c1
      generalize wr.drewN nq = wr at *
      have HT := HT3
      have HBr := HB3
      have KEEP := KEEP3
      clear HT3 HB3 KEEP3
      obtain ⟨c0, c1⟩ := KEEP.out wr (Below.refl _ _)
      cases hv with
      | true =>
        by_cases hk : (x + y).tmod 2 = 1
        · have HK2 := hid (HY.out (by unfold keepP; rw [if_pos rfl]; exact beq_iff_eq.2 hk))
          clear HY HN
          go_wp2_with (first | (at_builtin; refine wpl_app_pr x y _ _ ov w2.heap.size K (by rfl) (by rfl) (by rfl) (by rfl) HT.out HLN.out HBr.out.size ?_; intro v' w7 ho7 hb7 hg7; obtain ⟨ma, mn, mc, rfl⟩ := ownP_sh ho7; have HO7 := hid ho7; have HB7 := hid (HBr.out.trans hb7); clear ho7 hb7 hg7) | fail)
          go_roundw
          case rel => exact ⟨i + 1, by go_num, by omega, by rw [HK2.out]; exact HO7.out, HB7.out⟩
          case measure => simp [intOf]; omega
        · have HK2 := hid (HN.out (by unfold keepP; rw [if_pos rfl]; exact beq_eq_false_iff_ne.2 hk))
          have hk0 : (x + y).tmod 2 = 0 := by
            rw [Int.tmod_eq_emod_of_nonneg (by omega)] at hk ⊢
            omega
          clear HY HN hk
          go_wp2_with fail
          go_roundw
          case rel => exact ⟨i + 1, by go_num, by omega, by rw [HK2.out]; exact HT.out, HBr.out⟩
          case measure => simp [intOf]; omega
      | false =>
        by_cases hk : x < y
        · have HK2 := hid (HY.out (by unfold keepP; rw [if_neg (by decide)]; exact decide_eq_true hk))
          clear HY HN
          go_wp2_with (first | (at_builtin; refine wpl_app_pr x y _ _ ov w2.heap.size K (by rfl) (by rfl) (by rfl) (by rfl) HT.out HLN.out HBr.out.size ?_; intro v' w7 ho7 hb7 hg7; obtain ⟨ma, mn, mc, rfl⟩ := ownP_sh ho7; have HO7 := hid ho7; have HB7 := hid (HBr.out.trans hb7); clear ho7 hb7 hg7) | fail)
          go_roundw
          case rel => exact ⟨i + 1, by go_num, by omega, by rw [HK2.out]; exact HO7.out, HB7.out⟩
          case measure => simp [intOf]; omega
        · have HK2 := hid (HN.out (by unfold keepP; rw [if_neg (by decide)]; exact decide_eq_false hk))
          clear HY HN
          go_wp2_with fail
          go_roundw
          case rel => exact ⟨i + 1, by go_num, by omega, by rw [HK2.out]; exact HT.out, HBr.out⟩
          case measure => simp [intOf]; omega
    · have hie : i = l.length := by omega
      subst hie
      have HVM : Hid (validP (size : Int) (kept hv l l.length) = true) := kept_valid l.length HVA.out
      have HPM : Hid (∀ w', Below wr.heap.size wr w' → IsPr w' ov (kept hv l l.length)) := ownP_all HT.out HVM.out
      have HPL : Hid (∀ w', Below wr.heap.size wr w' → IsPr w' (.slice na l.length nc) l) := fun w' hb => HP2.out w' (HBr.out.trans (hb.mono HBr.out.size))
      have HOD := kept_odd hv (Int.toNat (size : Int)) l l.length
      have HONE : Hid (hv = false → (dsp (Int.toNat (size : Int)) (kept hv l l.length)).comps.length = 1) := fun e => by subst e; exact kept_one _ _ _
      have FIN : Hid (∀ w', Below wr.heap.size wr w' → Below w.heap.size w w') := fun w' hb => (below_step HB2.out HBr.out).trans (hb.mono (below_step HB2.out HBr.out).size)
      clear HT HP2 HB2 HBr
      obtain ⟨M, hM⟩ : ∃ M, M = kept hv l l.length := ⟨_, rfl⟩
      rw [← hM] at HVM HPM HOD HONE
      clear hM
      have HO1 := odd_none_of _ HOD
      have HE1 := hid (Dsp.no_odd_eq _ HOD)
      have O1 : Hid (∀ w', Below wr.heap.size wr w' → Calls Try.prog 25 #[.int .i64 (size : Int), ov] w' fun e w'' => e = .returned (.tuple #[.slice none 0 0, .int .i64 5]) ∧ Below w'.heap.size w' w'') := fun w' hb => odd_none_ok (HPM.out w' hb) HVM.out HO1
      have C2 : Hid (∀ w', Below wr.heap.size wr w' → Calls Try.prog 32 #[.int .i64 (size : Int), ov] w' fun e w'' => ∃ a m c, e = .returned (.tuple #[.slice a m c, .int .i64 0]) ∧ IsLL w'' (.slice a m c) (lists (dsp (Int.toNat (size : Int)) M).stabs) ∧ m = (dsp (Int.toNat (size : Int)) M).stabs.length ∧ Below w'.heap.size w' w'') := fun w' hb => retLL_ok (w0 := w') (pStable_any _ _ _ w' (HPM.out w' hb)) HVM.out
      have C3 : Hid (∀ w', Below wr.heap.size wr w' → Calls Try.prog 28 #[.int .i64 (size : Int), ov] w' fun e w'' => ∃ a m c, e = .returned (.tuple #[.slice a m c, .int .i64 0]) ∧ IsLL w'' (.slice a m c) (lists (dsp (Int.toNat (size : Int)) M).pref) ∧ m = (dsp (Int.toNat (size : Int)) M).pref.length ∧ Below w'.heap.size w' w'') := fun w' hb => retLL_ok (w0 := w') (pPreferred_any _ _ _ w' (HPM.out w' hb)) HVM.out
      have C4 : Hid (∀ w', Below wr.heap.size wr w' → Calls Try.prog 29 #[.int .i64 (size : Int), ov] w' fun e w'' => ∃ a m c, e = .returned (.tuple #[.slice a m c, .int .i64 0]) ∧ IsLL w'' (.slice a m c) (lists (dsp (Int.toNat (size : Int)) M).comps) ∧ m = (dsp (Int.toNat (size : Int)) M).comps.length ∧ Below w'.heap.size w' w'') := fun w' hb => retLL_ok (w0 := w') (pComplete_any _ _ _ w' (HPM.out w' hb)) HVM.out
      have C6 : Hid (∀ w', Below wr.heap.size wr w' → Calls Try.prog 32 #[.int .i64 (size : Int), .slice na l.length nc] w' fun e w'' => ∃ a m c, e = .returned (.tuple #[.slice a m c, .int .i64 0]) ∧ IsLL w'' (.slice a m c) (lists (dsp (Int.toNat (size : Int)) l).stabs) ∧ m = (dsp (Int.toNat (size : Int)) l).stabs.length ∧ Below w'.heap.size w' w'') := fun w' hb => retLL_ok (w0 := w') (pStable_any _ _ _ w' (HPL.out w' hb)) HVA.out
      have C7 : Hid (∀ w', Below wr.heap.size wr w' → Calls Try.prog 28 #[.int .i64 (size : Int), .slice na l.length nc] w' fun e w'' => ∃ a m c, e = .returned (.tuple #[.slice a m c, .int .i64 0]) ∧ IsLL w'' (.slice a m c) (lists (dsp (Int.toNat (size : Int)) l).pref) ∧ m = (dsp (Int.toNat (size : Int)) l).pref.length ∧ Below w'.heap.size w' w'') := fun w' hb => retLL_ok (w0 := w') (pPreferred_any _ _ _ w' (HPL.out w' hb)) HVA.out
      have ON : Hid ((dsp (Int.toNat (size : Int)) l).odd = none → (dsp (Int.toNat (size : Int)) l).stabs = (dsp (Int.toNat (size : Int)) l).pref ∧ ∀ w', Below wr.heap.size wr w' → Calls Try.prog 25 #[.int .i64 (size : Int), .slice na l.length nc] w' fun e w'' => e = .returned (.tuple #[.slice none 0 0, .int .i64 5]) ∧ Below w'.heap.size w' w'') := fun ho => ⟨Dsp.no_odd_eq _ (odd_none_ring _ ho), fun w' hb => odd_none_ok (HPL.out w' hb) HVA.out ho⟩
      have OS : Hid (∀ x, (dsp (Int.toNat (size : Int)) l).odd = some x → ∀ w', Below wr.heap.size wr w' → Calls Try.prog 25 #[.int .i64 (size : Int), .slice na l.length nc] w' fun e w'' => ∃ a m c, e = .returned (.tuple #[.slice a m c, .int .i64 0]) ∧ IsV w'' (.slice a m c) (x.map iv) ∧ m = x.length ∧ Below w'.heap.size w' w'') := fun x ho w' hb => odd_some_ok (HPL.out w' hb) HVA.out ho
      clear HOD HO1 HPM HPL HVM
      generalize dsp (Int.toNat (size : Int)) M = dM at *
      generalize dsp (Int.toNat (size : Int)) l = d at *
      go_upto_region 13 with (first
        | (go_at_call 25; refine (O1.out _ (Below.refl _ _)).mono ?_; rintro e w3 ⟨rfl, hb3⟩; have HB3 := hid hb3; clear hb3)
        | (go_at_call 32; refine (C2.out _ HB3.out).mono ?_; rintro e w4 ⟨a4, m4, c4, rfl, hi4, -, hb4⟩; have HI4 := hid hi4; have HB4 := hid (below_step HB3.out hb4); clear hi4 hb4)
        | (go_at_call 28; refine (C3.out _ HB4.out).mono ?_; rintro e w5 ⟨a5, m5, c5, rfl, hi5, -, hb5⟩; have HI5 := hid hi5; have HJ5 := hid (isLL_below HI4.out hb5); have HB5 := hid (below_step HB4.out hb5); clear hi5 hb5)
        | (go_at_call 29; refine (C4.out _ HB5.out).mono ?_; rintro e w6 ⟨a6, m6, c6, rfl, -, hm6, hb6⟩; have HM6 := hid hm6; have HI6 := hid (isLL_below HI5.out hb6); have HJ6 := hid (isLL_below HJ5.out hb6); have HB6 := hid (below_step HB5.out hb6); clear hm6 hb6)
        | fail)
      have S1 : Hid (∀ w', Below w6.heap.size w6 w' → Calls Try.prog 30 #[.slice a4 m4 c4, .slice a5 m5 c5] w' fun e w'' => e = .returned (.bool true) ∧ Below w'.heap.size w' w'') := fun w' hb => by
        have h := same_any _ _ _ _ w' (isLL_below HJ6.out hb) (isLL_below HI6.out hb)
        rw [HE1.out] at h
        simpa using h
      have HLB := hid (fun e => HM6.out.trans (HONE.out e))
      clear O1 C2 C3 C4 HI4 HI5 HJ5 HI6 HJ6 HM6 HONE HE1
      cases ho : d.odd with
      | none =>
        obtain ⟨e2, O5'⟩ := ON.out ho
        have E2 := hid e2
        have O5 := hid O5'
        clear ON OS ho O5' e2
        cases hv with
        | true =>
          clear HLB
          go_upto_region 15 with (first | (go_at_call 30; refine (S1.out _ (Below.refl _ _)).mono ?_; rintro e w7 ⟨rfl, hb7⟩; have HB7 := hid (below_step HB6.out hb7); clear hb7) | (go_at_call 20; refine (lives_any _).mono ?_; rintro e w8 ⟨rfl, hb8⟩; have HB8 := hid (below_step HB7.out hb8); clear hb8) | fail)
          go_upto_region 18 with (first | (go_at_call 25; refine (O5.out _ HB8.out).mono ?_; rintro e w9 ⟨rfl, hb9⟩; have HB9 := hid (below_step HB8.out hb9); clear hb9) | (go_at_call 32; refine (C6.out _ HB9.out).mono ?_; rintro e w10 ⟨a10, m10, c10, rfl, hi10, -, hb10⟩; have HI10 := hid hi10; have HB10 := hid (below_step HB9.out hb10); clear hi10 hb10) | (go_at_call 28; refine (C7.out _ HB10.out).mono ?_; rintro e w11 ⟨a11, m11, c11, rfl, hi11, -, hb11⟩; have HI11 := hid hi11; have HJ11 := hid (isLL_below HI10.out hb11); have HB11 := hid (below_step HB10.out hb11); clear hi11 hb11) | fail)
          have S2 : Hid (∀ w', Below w11.heap.size w11 w' → Calls Try.prog 30 #[.slice a10 m10 c10, .slice a11 m11 c11] w' fun e w'' => e = .returned (.bool true) ∧ Below w'.heap.size w' w'') := fun w' hb => by
            have h := same_any _ _ _ _ w' (isLL_below HJ11.out hb) (isLL_below HI11.out hb)
            rw [E2.out] at h
            simpa using h
          go_wp2_with (first | (go_at_call 30; refine (S2.out _ (Below.refl _ _)).mono ?_; rintro e w12 ⟨rfl, hb12⟩; have HB12 := hid (below_step HB11.out hb12); clear hb12) | fail)
          go_ret
          exact ⟨rfl, FIN.out _ HB12.out⟩
        | false =>
          have hm6 : m6 = 1 := HLB.out rfl
          subst hm6
          clear HLB
          go_upto_region 15 with (first | (go_at_call 30; refine (S1.out _ (Below.refl _ _)).mono ?_; rintro e w7 ⟨rfl, hb7⟩; have HB7 := hid (below_step HB6.out hb7); clear hb7) | (go_at_call 20; refine (lives_any _).mono ?_; rintro e w8 ⟨rfl, hb8⟩; have HB8 := hid (below_step HB7.out hb8); clear hb8) | fail)
          go_upto_region 18 with (first | (go_at_call 25; refine (O5.out _ HB8.out).mono ?_; rintro e w9 ⟨rfl, hb9⟩; have HB9 := hid (below_step HB8.out hb9); clear hb9) | (go_at_call 32; refine (C6.out _ HB9.out).mono ?_; rintro e w10 ⟨a10, m10, c10, rfl, hi10, -, hb10⟩; have HI10 := hid hi10; have HB10 := hid (below_step HB9.out hb10); clear hi10 hb10) | (go_at_call 28; refine (C7.out _ HB10.out).mono ?_; rintro e w11 ⟨a11, m11, c11, rfl, hi11, -, hb11⟩; have HI11 := hid hi11; have HJ11 := hid (isLL_below HI10.out hb11); have HB11 := hid (below_step HB10.out hb11); clear hi11 hb11) | fail)
          have S2 : Hid (∀ w', Below w11.heap.size w11 w' → Calls Try.prog 30 #[.slice a10 m10 c10, .slice a11 m11 c11] w' fun e w'' => e = .returned (.bool true) ∧ Below w'.heap.size w' w'') := fun w' hb => by
            have h := same_any _ _ _ _ w' (isLL_below HJ11.out hb) (isLL_below HI11.out hb)
            rw [E2.out] at h
            simpa using h
          go_wp2_with (first | (go_at_call 30; refine (S2.out _ (Below.refl _ _)).mono ?_; rintro e w12 ⟨rfl, hb12⟩; have HB12 := hid (below_step HB11.out hb12); clear hb12) | fail)
          go_ret
          exact ⟨rfl, FIN.out _ HB12.out⟩
      | some x =>
        have O5 := hid (OS.out x ho)
        clear ON OS ho
        cases hv with
        | true =>
          clear HLB
          go_upto_region 15 with (first | (go_at_call 30; refine (S1.out _ (Below.refl _ _)).mono ?_; rintro e w7 ⟨rfl, hb7⟩; have HB7 := hid (below_step HB6.out hb7); clear hb7) | (go_at_call 20; refine (lives_any _).mono ?_; rintro e w8 ⟨rfl, hb8⟩; have HB8 := hid (below_step HB7.out hb8); clear hb8) | fail)
          go_upto_region 18 with (first | (go_at_call 25; refine (O5.out _ HB8.out).mono ?_; rintro e w9 ⟨a9, m9, c9, rfl, -, -, hb9⟩; have HB9 := hid (below_step HB8.out hb9); clear hb9) | (go_at_call 32; refine (C6.out _ HB9.out).mono ?_; rintro e w10 ⟨a10, m10, c10, rfl, hi10, -, hb10⟩; have HI10 := hid hi10; have HB10 := hid (below_step HB9.out hb10); clear hi10 hb10) | (go_at_call 28; refine (C7.out _ HB10.out).mono ?_; rintro e w11 ⟨a11, m11, c11, rfl, hi11, -, hb11⟩; have HI11 := hid hi11; have HJ11 := hid (isLL_below HI10.out hb11); have HB11 := hid (below_step HB10.out hb11); clear hi11 hb11) | fail)
          go_wp2_with fail
          go_ret
          exact ⟨rfl, FIN.out _ HB11.out⟩
        | false =>
          have hm6 : m6 = 1 := HLB.out rfl
          subst hm6
          clear HLB
          go_upto_region 15 with (first | (go_at_call 30; refine (S1.out _ (Below.refl _ _)).mono ?_; rintro e w7 ⟨rfl, hb7⟩; have HB7 := hid (below_step HB6.out hb7); clear hb7) | (go_at_call 20; refine (lives_any _).mono ?_; rintro e w8 ⟨rfl, hb8⟩; have HB8 := hid (below_step HB7.out hb8); clear hb8) | fail)
          go_upto_region 18 with (first | (go_at_call 25; refine (O5.out _ HB8.out).mono ?_; rintro e w9 ⟨a9, m9, c9, rfl, -, -, hb9⟩; have HB9 := hid (below_step HB8.out hb9); clear hb9) | (go_at_call 32; refine (C6.out _ HB9.out).mono ?_; rintro e w10 ⟨a10, m10, c10, rfl, hi10, -, hb10⟩; have HI10 := hid hi10; have HB10 := hid (below_step HB9.out hb10); clear hi10 hb10) | (go_at_call 28; refine (C7.out _ HB10.out).mono ?_; rintro e w11 ⟨a11, m11, c11, rfl, hi11, -, hb11⟩; have HI11 := hid hi11; have HJ11 := hid (isLL_below HI10.out hb11); have HB11 := hid (below_step HB10.out hb11); clear hi11 hb11) | fail)
          go_wp2_with fail
          go_ret
          exact ⟨rfl, FIN.out _ HB11.out⟩
end Go.Proofs.Ytaedbkdimpdngaa
