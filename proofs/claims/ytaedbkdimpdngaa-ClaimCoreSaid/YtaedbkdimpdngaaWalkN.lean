/-
  Walks over chapter 12: the reference: is a dispute valid.
-/
import Derived.Test.YtaedbkdimpdngaaWalkM
namespace Go.Proofs.Ytaedbkdimpdngaa
open Go.RowKit
def inV (v lo hi : Int) : Bool := decide (lo ≤ v) && decide (v ≤ hi)
theorem in_any (v lo hi : Int) (w : World) : Calls Try.prog 53 #[.int .i64 v, .int .i64 lo, .int .i64 hi] w fun e w' => e = .returned (.bool (inV v lo hi)) ∧ w' = w := by
  unfold inV
  by_cases h1 : lo ≤ v
  · have d1 : decide (lo ≤ v) = true := decide_eq_true h1
    go_enter Try.func53, Try.ntmps53
    go_wp2
    go_ret
    exact ⟨by simp [d1], rfl⟩
  · have d1 : decide (lo ≤ v) = false := decide_eq_false h1
    go_enter Try.func53, Try.ntmps53
    go_wp2
    go_ret
    exact ⟨by simp [d1], rfl⟩
def goodP (m : Int) (p : Pr) : Bool := inV p.1 0 m && inV p.2 0 m
theorem valid_eq (n : Int) (l : List Pr) : (l.all (goodP (IntKind.i64.wrap (n - 1))) && (inV n 1 12 && decide (l.length ≤ 40))) = validP n l := by
  unfold validP inV
  by_cases h : 1 ≤ n ∧ n ≤ 12
  · have e : IntKind.i64.wrap (n - 1) = n - 1 := by rw [IntKind.wrap_i64]; omega
    have e2 : goodP (n - 1) = inB n := by
      funext p
      unfold goodP inV inB
      rw [Bool.eq_iff_iff]
      simp only [Bool.and_eq_true, decide_eq_true_eq]
      omega
    rw [e, e2, decide_eq_true h, decide_eq_true h.1, decide_eq_true h.2, Bool.true_and, Bool.true_and, Bool.and_comm]
  · rw [decide_eq_false h, Bool.false_and, Bool.false_and]
    have : (decide (1 ≤ n) && decide (n ≤ 12)) = false := by
      rw [Bool.eq_false_iff]
      intro h2
      simp only [Bool.and_eq_true, decide_eq_true_eq] at h2
      exact h h2
    rw [this, Bool.false_and, Bool.and_false]
theorem decI (x : Nat) : decide ((x : Int) ≤ 40) = decide (x ≤ 40) := by rw [decide_eq_decide]; omega
set_option maxRecDepth 100000 in
set_option maxHeartbeats 1000000 in
theorem valid_any (n : Int) (v : Value) (l : List Pr) (w : World) (hv : IsPr w v l) : Calls Try.prog 19 #[.int .i64 n, v] w fun e w' => e = .returned (.bool (validP n l)) ∧ w' = w := by
  rw [← valid_eq]
  obtain ⟨a, c, rfl⟩ := isPr_slice hv
  have IN : Hid (∀ (v lo hi : Int) (w : World), Calls Try.prog 53 #[.int .i64 v, .int .i64 lo, .int .i64 hi] w fun e w' => e = .returned (.bool (inV v lo hi)) ∧ w' = w) := in_any
  have HV := hid hv
  have hlen : l.length ≤ 1000000 := by
    obtain ⟨_, _, _, h, _⟩ := hv
    exact h
  clear hv
  obtain ⟨m, hm⟩ : ∃ m, m = IntKind.i64.wrap (n - 1) := ⟨_, rfl⟩
  have HM := hid hm.symm
  rw [← hm]
  clear hm
  have HEND : Hid (l.take l.length = l) := List.take_length
  go_enter Try.func19, Try.ntmps19
  go_wp2_with fail
  go_loopw [5] (fun iv wr => ∃ i : Nat, iv = .int .i64 i ∧ i ≤ l.length ∧ Hid ((l.take i).all (goodP m) = true) ∧ wr = w) (fun iv _ => l.length - (intOf iv).toNat)
  case atStart => exact ⟨0, rfl, Nat.zero_le _, by show _ = _; rfl, by first | rfl | trivial⟩
  case round =>
    obtain ⟨i, rfl, hi, HAL, rfl⟩ := hrel
    by_cases hlt : i < l.length
    · obtain ⟨g, rfl, -, c0, c1⟩ := isPr_at HV.out i hlt
      have HTK := hid (take_all (goodP m) l (0, 0) i hlt)
      change Hid (_ = (_ && goodP m (prAt l i))) at HTK
      have BAD : Hid (goodP m (prAt l i) = false → l.all (goodP m) = false) := fun hb => by
        have h1 := HTK.out
        rw [hb, Bool.and_false] at h1
        rw [← List.take_append_drop (i + 1) l, List.all_append, h1]; rfl
      generalize prAt l i = pr at *
      obtain ⟨x, y⟩ := pr
      have hgp : goodP m (x, y) = (inV x 0 m && inV y 0 m) := rfl
      dsimp only at c0 c1
      rw [hgp] at BAD HTK
      have hw : IntKind.i64.wrap (n - 1) = m := HM.out
      have C1 := hid (IN.out x 0 m wr)
      have C2 := hid (IN.out y 0 m wr)
      clear hgp
      generalize inV x 0 m = bx at *
      generalize inV y 0 m = by_ at *
      cases bx with
      | false =>
        have HNO := hid (BAD.out rfl)
        go_wp2_with (first | (go_at_call 53; refine (C1.out).mono ?_; rintro e w6 ⟨rfl, rfl⟩) | fail)
        go_ret
        exact ⟨by rw [HNO.out]; rfl, by first | rfl | trivial⟩
      | true =>
        cases by_ with
        | false =>
          have HNO := hid (BAD.out rfl)
          go_wp2_with (first | (go_at_call 53; first | (with_reducible refine (C2.out).mono ?_; rintro e w6 ⟨rfl, rfl⟩) | (refine (C1.out).mono ?_; rintro e w6 ⟨rfl, rfl⟩)) | fail)
          go_ret
          exact ⟨by rw [HNO.out]; rfl, by first | rfl | trivial⟩
        | true =>
          go_wp2_with (first | (go_at_call 53; first | (with_reducible refine (C2.out).mono ?_; rintro e w6 ⟨rfl, rfl⟩) | (refine (C1.out).mono ?_; rintro e w6 ⟨rfl, rfl⟩)) | fail)
          go_roundw
          case rel => exact ⟨i + 1, by go_num, by omega, by rw [HTK.out, HAL.out]; rfl, by first | rfl | trivial⟩
          case measure => simp [intOf]; omega
    · obtain rfl : i = l.length := by omega
      rw [HEND.out] at HAL
      have C3 := hid (IN.out n 1 12 wr)
      obtain ⟨bn, hbn⟩ : ∃ bn, bn = inV n 1 12 := ⟨_, rfl⟩
      rw [← hbn] at C3
      have HBN := hid hbn.symm
      clear hbn
      cases bn with
      | false =>
        go_wp2_with (first | (go_at_call 53; refine (C3.out).mono ?_; rintro e w6 ⟨rfl, rfl⟩) | fail)
        go_ret
        exact ⟨by rw [HAL.out, HBN.out]; rfl, by first | rfl | trivial⟩
      | true =>
        go_wp2_with (first | (go_at_call 53; refine (C3.out).mono ?_; rintro e w6 ⟨rfl, rfl⟩) | fail)
        go_ret
        exact ⟨by rw [HAL.out, HBN.out, ← decI]; rfl, by first | rfl | trivial⟩
theorem take_same {x y : List Nat} {i : Nat} (hx : i < x.length) (hy : i < y.length) (h : x.take i = y.take i) : x.take (i + 1) = y.take (i + 1) ↔ x.getD i 0 = y.getD i 0 := by
  rw [List.take_succ_eq_append_getElem hx, List.take_succ_eq_append_getElem hy, h, List.getD_eq_getElem?_getD, List.getElem?_eq_getElem hx, List.getD_eq_getElem?_getD, List.getElem?_eq_getElem hy]
  refine ⟨fun e => ?_, fun e => ?_⟩
  · have := List.append_cancel_left e
    simpa using this
  · have e2 : x[i] = y[i] := e
    rw [e2]
set_option maxRecDepth 100000 in
set_option maxHeartbeats 1000000 in
theorem same01_any (u v : Value) (x y : List Nat) (w : World) (hu : IsV w u (x.map iv)) (hv : IsV w v (y.map iv)) :
    Calls Try.prog 23 #[u, v] w fun e w' => e = .returned (.bool (x == y)) ∧ Below w.heap.size w w' := by
  obtain ⟨a, c, rfl⟩ := isV_slice hu
  obtain ⟨a2, c2, rfl⟩ := isV_slice hv
  have hl1 : x.length ≤ 1000000 := by
    obtain ⟨_, _, _, h, _⟩ := hu
    rwa [List.length_map] at h
  have hl2 : y.length ≤ 1000000 := by
    obtain ⟨_, _, _, h, _⟩ := hv
    rwa [List.length_map] at h
  have HU := hid hu
  have HV := hid hv
  clear hu hv
  rw [List.length_map] at HU HV ⊢
  rw [List.length_map]
  obtain ⟨r, hr⟩ : ∃ r, r = (x == y) := ⟨_, rfl⟩
  have HR := hid hr
  rw [← hr]
  clear hr
  obtain ⟨n, hn⟩ : ∃ n, n = x.length := ⟨_, rfl⟩
  obtain ⟨m, hm⟩ : ∃ m, m = y.length := ⟨_, rfl⟩
  have HN := hid hn
  have HM := hid hm
  rw [← hn] at hl1 HU ⊢
  rw [← hm] at hl2 HV ⊢
  clear hn hm
  by_cases hnm : n = m
  · subst hnm
    go_enter Try.func23, Try.ntmps23
    go_wp2_with fail
    go_loopw [5] (fun iv wr => ∃ i : Nat, iv = .int .i64 i ∧ i ≤ n ∧ Hid (x.take i = y.take i) ∧ Hid (Below w.heap.size w wr)) (fun iv _ => n - (intOf iv).toNat)
    case atStart => exact ⟨0, rfl, Nat.zero_le _, by show _ = _; rfl, Below.refl _ _⟩
    case round =>
      obtain ⟨i, rfl, hi, HI, HBr⟩ := hrel
      by_cases hlt : i < n
      · have hli : i < x.length := by rw [← HN.out]; exact hlt
        have hlj : i < y.length := by rw [← HM.out]; exact hlt
        obtain ⟨g, rfl, -, hc⟩ := isV_at (isV_below HU.out HBr.out) i (by rw [List.length_map]; exact hli)
        obtain ⟨g2, rfl, -, hc2⟩ := isV_at (isV_below HV.out HBr.out) i (by rw [List.length_map]; exact hlj)
        rw [getD_map iv _ 0 i hli] at hc
        rw [getD_map iv _ 0 i hlj] at hc2
        have HTS := hid (take_same hli hlj HI.out)
        change wr.cell? _ = some (.int .i64 ((x.getD i 0 : Nat) : Int)) at hc
        change wr.cell? _ = some (.int .i64 ((y.getD i 0 : Nat) : Int)) at hc2
        have HNE : Hid (x.getD i 0 ≠ y.getD i 0 → r = false) := fun h => by
          rw [HR.out, beq_eq_false_iff_ne]
          intro e
          exact h (by rw [e])
        generalize x.getD i 0 = p at *
        generalize y.getD i 0 = q at *
        by_cases hpq : p = q
        · subst hpq
          have HI2 := hid (HTS.out.2 rfl)
          clear HTS HNE
          go_upto_region 6 with fail
          go_quiet (fail)
          go_wp2_with fail
          go_roundw
          case rel => exact ⟨i + 1, by go_num, by omega, HI2, below_drewN_r HBr.out _⟩
          case measure => simp [intOf]; omega
        · have hne : ¬ (p : Int) = (q : Int) := by omega
          have HF := hid (HNE.out hpq)
          clear HTS HNE
          go_upto_region 6 with fail
          go_quiet (fail)
          go_wp2_with fail
          go_ret
          exact ⟨by rw [HF.out]; rfl, below_drewN_r HBr.out _⟩
      · obtain rfl : i = n := by omega
        have HT : Hid (r = true) := by
          show _ = _
          have := HI.out
          rw [HN.out, List.take_length] at this
          rw [HR.out, beq_iff_eq, this, ← HN.out, HM.out, List.take_length]
        go_wp2_with fail
        go_ret
        exact ⟨by rw [HT.out]; rfl, HBr.out⟩
  · have HF : Hid (r = false) := by
      show _ = _
      rw [HR.out, beq_eq_false_iff_ne]
      intro e
      exact hnm (by rw [HN.out, HM.out, e])
    go_enter Try.func23, Try.ntmps23
    go_wp2_with fail
    go_ret
    exact ⟨by rw [HF.out]; rfl, Below.refl _ _⟩
theorem ltL_step {x y : List Nat} {i : Nat} (hx : i < x.length) (hy : i < y.length) : ltL (x.drop i) (y.drop i) = (decide (x.getD i 0 < y.getD i 0) || (x.getD i 0 == y.getD i 0 && ltL (x.drop (i + 1)) (y.drop (i + 1)))) := by
  rw [List.drop_eq_getElem_cons hx, List.drop_eq_getElem_cons hy, List.getD_eq_getElem?_getD, List.getElem?_eq_getElem hx, List.getD_eq_getElem?_getD, List.getElem?_eq_getElem hy]
  rfl
theorem ltL_end {x y : List Nat} {i : Nat} (hx : i ≤ x.length) (hy : i ≤ y.length) (h : ¬ (i < x.length ∧ i < y.length)) : ltL (x.drop i) (y.drop i) = decide (x.length < y.length) := by
  by_cases h1 : i < x.length
  · have h2 : y.length = i := by omega
    rw [List.drop_eq_nil_of_le (by omega : y.length ≤ i), List.drop_eq_getElem_cons h1, decide_eq_false (by omega)]; rfl
  · have h2 : x.length = i := by omega
    rw [List.drop_eq_nil_of_le (by omega : x.length ≤ i)]
    by_cases h3 : i < y.length
    · rw [List.drop_eq_getElem_cons h3, decide_eq_true (by omega)]; rfl
    · rw [List.drop_eq_nil_of_le (by omega : y.length ≤ i), decide_eq_false (by omega)]; rfl
theorem decL (x y : Nat) : decide ((x : Int) < (y : Int)) = decide (x < y) := by rw [decide_eq_decide]; omega
set_option maxRecDepth 100000 in
set_option maxHeartbeats 1000000 in
theorem less_any (u v : Value) (x y : List Nat) (w : World) (hu : IsV w u (x.map iv)) (hv : IsV w v (y.map iv)) :
    Calls Try.prog 57 #[u, v] w fun e w' => e = .returned (.bool (ltL x y)) ∧ Below w.heap.size w w' := by
  obtain ⟨a, c, rfl⟩ := isV_slice hu
  obtain ⟨a2, c2, rfl⟩ := isV_slice hv
  have hl1 : x.length ≤ 1000000 := by
    obtain ⟨_, _, _, h, _⟩ := hu
    rwa [List.length_map] at h
  have hl2 : y.length ≤ 1000000 := by
    obtain ⟨_, _, _, h, _⟩ := hv
    rwa [List.length_map] at h
  have HU := hid hu
  have HV := hid hv
  clear hu hv
  rw [List.length_map] at HU HV ⊢
  rw [List.length_map]
  obtain ⟨r, hr⟩ : ∃ r, r = ltL x y := ⟨_, rfl⟩
  have HR := hid hr
  rw [← hr]
  clear hr
  have S1 := hid (fun i h1 h2 => @ltL_step x y i h1 h2)
  have S2 := hid (fun i h1 h2 h3 => @ltL_end x y i h1 h2 h3)
  obtain ⟨n, hn⟩ : ∃ n, n = x.length := ⟨_, rfl⟩
  obtain ⟨m, hm⟩ : ∃ m, m = y.length := ⟨_, rfl⟩
  have HN := hid hn
  have HM := hid hm
  rw [← hn] at hl1 HU S1 S2 ⊢
  rw [← hm] at hl2 HV S1 S2 ⊢
  clear hn hm
  go_enter Try.func57, Try.ntmps57
  go_wp2_with fail
  go_loopw [5] (fun iv wr => ∃ i : Nat, iv = .int .i64 i ∧ i ≤ n ∧ i ≤ m ∧ Hid (r = ltL (x.drop i) (y.drop i)) ∧ Hid (Below w.heap.size w wr)) (fun iv _ => n - (intOf iv).toNat)
  case atStart => exact ⟨0, rfl, Nat.zero_le _, Nat.zero_le _, HR.out, Below.refl _ _⟩
  case round =>
    obtain ⟨i, rfl, hi, him, HI, HBr⟩ := hrel
    by_cases hlt : i < n
    · by_cases hlm : i < m
      · have hli : i < x.length := by rw [← HN.out]; exact hlt
        have hlj : i < y.length := by rw [← HM.out]; exact hlm
        obtain ⟨g, rfl, -, hc⟩ := isV_at (isV_below HU.out HBr.out) i (by rw [List.length_map]; exact hli)
        obtain ⟨g2, rfl, -, hc2⟩ := isV_at (isV_below HV.out HBr.out) i (by rw [List.length_map]; exact hlj)
        rw [getD_map iv _ 0 i hli] at hc
        rw [getD_map iv _ 0 i hlj] at hc2
        change wr.cell? _ = some (.int .i64 ((x.getD i 0 : Nat) : Int)) at hc
        change wr.cell? _ = some (.int .i64 ((y.getD i 0 : Nat) : Int)) at hc2
        have CU : Hid (∀ k, (wr.drewN k).cell? ⟨g, i, none⟩ = some (.int .i64 ((x.getD i 0 : Nat) : Int))) := fun k => hc
        have CV : Hid (∀ k, (wr.drewN k).cell? ⟨g2, i, none⟩ = some (.int .i64 ((y.getD i 0 : Nat) : Int))) := fun k => hc2
        have HST := hid (S1.out i hlt hlm)
        generalize x.getD i 0 = p at *
        generalize y.getD i 0 = q at *
        by_cases hpq : p = q
        · subst hpq
          have HI2 : Hid (r = ltL (x.drop (i + 1)) (y.drop (i + 1))) := by
            show _ = _
            rw [HI.out, HST.out]; simp
          clear HST
          go_upto_region 4 with fail
          go_quiet (fail)
          go_wp2_with fail
          go_roundw
          case rel => exact ⟨i + 1, by go_num, by omega, by omega, HI2, below_drewN_r HBr.out _⟩
          case measure => simp [intOf]; omega
        · have hne : ¬ (p : Int) = (q : Int) := by omega
          have HF : Hid (r = decide (p < q)) := by
            show _ = _
            have hb : (p == q) = false := beq_eq_false_iff_ne.2 hpq
            rw [HI.out, HST.out, hb]; simp
          clear HST
          go_upto_region 4 with fail
          go_quiet (fail)
          go_upto_region 5 with fail
          go_quiet (fail)
          go_wp2_with fail
          go_ret
          exact ⟨by rw [HF.out, ← decL]; rfl, below_drewN_r (below_drewN_r HBr.out _) _⟩
      · have HF := hid (HI.out.trans (S2.out i hi him (by omega)))
        go_wp2_with fail
        go_ret
        exact ⟨by rw [HF.out, ← decL]; rfl, HBr.out⟩
    · have HF := hid (HI.out.trans (S2.out i hi him (by omega)))
      go_wp2_with fail
      go_ret
      exact ⟨by rw [HF.out, ← decL]; rfl, HBr.out⟩
theorem same_lt (x y : List Nat) : (ltL x y || ltL y x) = !(x == y) := by
  by_cases h : x = y
  · subst h; simp [ltL_irrefl]
  · have hb : (x == y) = false := beq_eq_false_iff_ne.2 h
    rw [hb]
    cases h1 : ltL x y with
    | true => rfl
    | false =>
      cases h2 : ltL y x with
      | true => rfl
      | false => exact absurd (ltL_total h1 h2) h
theorem take_sameL {x y : List (List Nat)} {i : Nat} (hx : i < x.length) (hy : i < y.length) (h : x.take i = y.take i) : x.take (i + 1) = y.take (i + 1) ↔ x.getD i [] = y.getD i [] := by
  rw [List.take_succ_eq_append_getElem hx, List.take_succ_eq_append_getElem hy, h, List.getD_eq_getElem?_getD, List.getElem?_eq_getElem hx, List.getD_eq_getElem?_getD, List.getElem?_eq_getElem hy]
  refine ⟨fun e => ?_, fun e => ?_⟩
  · have := List.append_cancel_left e
    simpa using this
  · have e2 : x[i] = y[i] := e
    rw [e2]
end Go.Proofs.Ytaedbkdimpdngaa
