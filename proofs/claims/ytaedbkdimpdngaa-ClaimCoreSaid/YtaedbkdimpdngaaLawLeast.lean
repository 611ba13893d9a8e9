/-
  The law ClaimLeast of chapter 12: its contract.
-/
import Derived.Test.YtaedbkdimpdngaaWalkU
import Derived.Test.YtaedbkdimpdngaaLawRings
namespace Go.Proofs.Ytaedbkdimpdngaa
open Go.RowKit
theorem inL_elems {s t : Nat} (h : sub s t = true) : inL (elems s) (elems t) = true := by
  unfold inL
  rw [List.all_eq_true]
  intro a ha
  rw [List.any_eq_true]
  obtain ⟨h1, h2⟩ := (mem_elems s a).1 ha
  exact ⟨a, (mem_elems t a).2 ⟨h1, (sub_iff s t).1 h a h2⟩, by simp⟩
theorem inL_one (c t : Nat) (hc : c < 16) : inL [c] (elems t) = t.testBit c := by
  rw [Bool.eq_iff_iff]
  unfold inL
  simp only [List.all_cons, List.all_nil, Bool.and_true, List.any_eq_true, beq_iff_eq]
  constructor
  · rintro ⟨a, ha, rfl⟩
    exact ((mem_elems t c).1 ha).2
  · intro h
    exact ⟨c, (mem_elems t c).2 ⟨hc, h⟩, rfl⟩
theorem elems_zero : elems 0 = [] := by
  unfold elems
  simp
theorem comps_some (d : Dsp) : 0 < d.comps.length := List.length_pos_of_mem ((d.mem_comps _).2 d.grd_comp)
theorem steps_ok {n : Int} {v : Value} {l : List Pr} {w : World} (c k : Nat) (hv : IsPr w v l) (hva : validP n l = true) (hc : (c : Int) < n) (hk : (dsp n.toNat l).stepOf c = some k) :
    Calls Try.prog 18 #[.int .i64 n, v, .int .i64 (c : Int)] w fun e w' => e = .returned (.tuple #[.int .i64 (k : Int), .int .i64 0]) ∧ Below w.heap.size w w' :=
  (pSteps_any n v l (c : Int) w hv).mono fun e w' ⟨hb, h⟩ => by
    rcases h with ⟨h1 | h1 | h1, _⟩ | ⟨_, m, hm, _, he⟩
    · rw [hva] at h1; cases h1
    · omega
    · omega
    · obtain rfl : c = m := by omega
      refine ⟨?_, hb⟩
      rw [he]
      unfold stepsV
      rw [hk]
/-- a claim of the next set: the step in which it is granted -/
theorem step_next (d : Dsp) {k c : Nat} (h : (d.F (k + 1)).testBit c = true) : ∃ s, d.stepOf c = some s ∧ s ≤ k + 1 ∧ (s < k + 1 ↔ (d.F k).testBit c = true) := by
  cases e : d.stepOf c with
  | none => have := d.stepOf_none e (k + 1); rw [this] at h; cases h
  | some s =>
    obtain ⟨h1, h2, h3⟩ := d.stepOf_some e
    refine ⟨s, rfl, ?_, fun hs => (sub_iff _ _).1 (d.F_le (by omega : s ≤ k)) c h2, fun hf => ?_⟩
    · refine Nat.le_of_not_lt fun hlt => ?_
      rw [h3 _ hlt] at h; cases h
    · refine Nat.lt_succ_of_le (Nat.le_of_not_lt fun hlt => ?_)
      rw [h3 _ hlt] at hf; cases hf
theorem ownV_cap {w : World} {B : Nat} {e : TypeId} {a : Option Addr} {n c : Nat} {xs : List Value} (h : OwnV w B e (.slice a n c) xs) : n ≤ c := by
  unfold OwnV World.ownsRow at h
  obtain ⟨_, h | ⟨g, c', cs, hv, _, _, hc, _⟩⟩ := h
  · have := h.1; simp_all
  · cases hv
    have := hc
    omega
set_option maxRecDepth 100000 in
set_option maxHeartbeats 4000000 in
theorem ClaimLeast_ok (nb : Int) (ja : Option Addr) (jn jc : Nat) (w : World) (hnb : 0 ≤ nb ∧ nb < 256) (hx : ArgAr w ja jn) :
    Calls Try.prog 13 #[.int .u8 nb, .slice ja jn jc] w fun e w' => e = .returned (.bool true) ∧ Below w.heap.size w w' := by
  have HM := hid (made_any nb ja jn jc 12 w hnb (by decide) hx)
  clear hnb hx
  go_enter Try.func13, Try.ntmps13
  go_upto_region 2 with (first | (go_at_call 27; refine (HM.out).mono ?_; rintro e w2 ⟨size, v2, l, rfl, hp2, hva, h1, h12, -, -, hb2⟩; obtain ⟨na, nc, rfl⟩ := row_slice hp2; have HB2 := hid hb2; have HVA := hid hva; have HP2 := hid (ownP_all hp2 hva); clear hp2 hva hb2) | fail)
  clear HM
  have C1 : Hid (∀ w', Below w2.heap.size w2 w' → Calls Try.prog 17 #[.int .i64 (size : Int), .slice na l.length nc] w' fun e w'' => ∃ a m c, e = .returned (.tuple #[.slice a m c, .int .i64 0]) ∧ IsV w'' (.slice a m c) ((elems (dsp (Int.toNat (size : Int)) l).grd).map iv) ∧ Below w'.heap.size w' w'') := fun w' hb =>
    (ret_ok (pGranted_any _ _ _ w' (HP2.out w' hb)) HVA.out).mono fun e w'' h => by
      obtain ⟨u, rfl, ⟨x, rfl, ho⟩, hb⟩ := h
      have hi := ownV_isV ho (by rw [List.length_map]; exact elems_le _)
      obtain ⟨a, c, rfl⟩ := isV_slice hi
      exact ⟨a, _, c, rfl, hi, hb⟩
  have C2 : Hid (∀ w', Below w2.heap.size w2 w' → Calls Try.prog 29 #[.int .i64 (size : Int), .slice na l.length nc] w' fun e w'' => ∃ a m c, e = .returned (.tuple #[.slice a m c, .int .i64 0]) ∧ IsLL w'' (.slice a m c) (lists (dsp (Int.toNat (size : Int)) l).comps) ∧ m = (dsp (Int.toNat (size : Int)) l).comps.length ∧ Below w'.heap.size w' w'') := fun w' hb => retLL_ok (w0 := w') (pComplete_any _ _ _ w' (HP2.out w' hb)) HVA.out
  have C3 : Hid (∀ k u w', Below w2.heap.size w2 w' → IsV w' u ((elems ((dsp (Int.toNat (size : Int)) l).F k)).map iv) → Calls Try.prog 42 #[.int .i64 (size : Int), .slice na l.length nc, u] w' fun e w'' => ∃ a m c, e = .returned (.tuple #[.slice a m c, .int .i64 0]) ∧ OwnV w'' w'.heap.size 3 (.slice a m c) ((elems ((dsp (Int.toNat (size : Int)) l).F (k + 1))).map iv) ∧ m = (elems ((dsp (Int.toNat (size : Int)) l).F (k + 1))).length ∧ Below w'.heap.size w' w'') := fun k u w' hb hu =>
    (pDefends_any _ _ u l (zl (elems ((dsp (Int.toNat (size : Int)) l).F k))) w' (HP2.out w' hb) (by rw [zl_zv]; exact hu)).mono fun e w'' h => by
      have hF : (dsp (Int.toNat (size : Int)) l).F k < 2 ^ size := Dsp.F_lt (dsp (Int.toNat (size : Int)) l) k
      obtain ⟨hb, ⟨h2, _⟩ | ⟨_, h2, _⟩ | ⟨_, _, x, rfl, ho⟩⟩ := h
      · rw [HVA.out] at h2; cases h2
      · rw [okS_elems hF] at h2; cases h2
      · rw [setS_elems hF (by omega)] at ho
        obtain ⟨a, c, rfl⟩ := ownV_slice ho
        exact ⟨a, _, c, rfl, ho, by rw [List.length_map]; rfl, hb⟩
  have C4 : Hid (∀ (c k : Nat) w', Below w2.heap.size w2 w' → c < size → (dsp (Int.toNat (size : Int)) l).stepOf c = some k → Calls Try.prog 18 #[.int .i64 (size : Int), .slice na l.length nc, .int .i64 (c : Int)] w' fun e w'' => e = .returned (.tuple #[.int .i64 (k : Int), .int .i64 0]) ∧ Below w'.heap.size w' w'') := fun c k w' hb hc hk => steps_ok c k (HP2.out w' hb) HVA.out (by omega) hk
  have hdn : (dsp (Int.toNat (size : Int)) l).n = size := rfl
  clear HVA HP2
  generalize (dsp (Int.toNat (size : Int)) l) = d at *
  have hls := d.last_spec
  go_upto_region 4 with (first
    | (go_at_call 17; refine (C1.out _ (Below.refl _ _)).mono ?_; rintro e w3 ⟨ga, gn, gc, rfl, hi3, hb3⟩; have HI3 := hid hi3; have HB3 := hid hb3; clear hi3 hb3)
    | (go_at_call 29; refine (C2.out _ HB3.out).mono ?_; rintro e w4 ⟨a4, m4, c4, rfl, hi4, hm4, hb4⟩; have HI4 := hid hi4; have HG4 := hid (isV_below HI3.out hb4); have HM4 := hid hm4; have HB4 := hid (below_step HB3.out hb4); clear hi4 hm4 hb4)
    | fail)
  have hm4 : 0 < m4 := by rw [HM4.out]; exact comps_some d
  have hbe : ((m4 : Int) == 0) = false := beq_eq_false_iff_ne.2 (by omega)
  have hbn : m4 ≠ 0 := by omega
  clear C1 C2 HI3
  go_upto_region 8 with (first | (go_at_call 20; refine (lives_any _).mono ?_; rintro e w5 ⟨rfl, hb5⟩; have HI5 := hid (isLL_below HI4.out hb5); have HG5 := hid (isV_below HG4.out hb5); have HB5 := hid (below_step HB4.out hb5); clear hb5) | fail)
  clear HI4 HG4 HB4 HB3
  have HLC : Hid (∀ x, x ∈ lists d.comps → inL (elems d.grd) x = true) := fun x hx => by
    obtain ⟨s, hs, rfl⟩ := (mem_lists _ x).1 hx
    exact inL_elems (d.grd_least ((d.comp_iff _).1 ((d.mem_comps s).1 hs)).2)
  have HLG : Hid ((lists d.comps).any (fun x => x == elems d.grd) = true) := List.any_eq_true.2 ⟨_, (mem_lists _ _).2 ⟨_, (d.mem_comps _).2 d.grd_comp, rfl⟩, by simp⟩
  have HLL : Hid (m4 = (lists d.comps).length) := by
    obtain ⟨a, c, e, _⟩ := isLL_slice HI5.out
    cases e; rfl
  have hml : m4 ≤ 1000000 := by
    obtain ⟨a, c, e, h⟩ := isLL_slice HI5.out
    rw [HLL.out]; exact h
  clear HM4
  generalize lists d.comps = Ls at *
  obtain ⟨A, hA⟩ : ∃ A : Nat → Bool, A = fun k => (Ls.take k).any fun x => x == elems d.grd := ⟨_, rfl⟩
  have AS : Hid (∀ k, k < m4 → A (k + 1) = (A k || Ls.getD k [] == elems d.grd)) := fun k hk => by
    rw [hA]
    exact any_take (fun x => x == elems d.grd) Ls [] k (by rw [← HLL.out]; exact hk)
  have A0 : Hid (A 0 = false) := by rw [hA]; exact (rfl : _ = _)
  have AM : Hid (A m4 = true) := by
    show _ = _
    rw [hA]
    show (Ls.take m4).any _ = true
    rw [HLL.out, List.take_length]
    exact HLG.out
  clear hA HLG
  go_loopw [12, 11] (fun zv bv wr => ∃ k : Nat, zv = .int .i64 k ∧ k ≤ m4 ∧ bv = .bool (A k) ∧ Hid (Below w5.heap.size w5 wr)) (fun zv _ _ => m4 - (intOf zv).toNat)
  case atStart => exact ⟨0, rfl, Nat.zero_le _, by rw [A0.out], Below.refl _ _⟩
  case round =>
    obtain ⟨k, rfl, hk, hbv, HBr⟩ := hrel
    by_cases hkm : k < m4
    · have hkl : k < Ls.length := by rw [← HLL.out]; exact hkm
      obtain ⟨g, pa, pn, pc, rfl, -, x0, -⟩ := isLL_at (isLL_below HI5.out HBr.out) k hkl
      have ROW : Hid (∀ w', Below w5.heap.size w5 w' → w'.cell? ⟨g, k, none⟩ = some (.slice pa pn pc) ∧ IsV w' (.slice pa pn pc) ((Ls.getD k []).map iv)) := fun w' hb => by
        obtain ⟨g', a', n', c', e, -, y0, y1⟩ := isLL_at (isLL_below HI5.out HBr.out) k hkl
        cases e
        rw [x0] at y0
        cases y0
        obtain ⟨g', a', n', c', e, -, z0, z1⟩ := isLL_at (isLL_below HI5.out hb) k hkl
        cases e
        have h0 := isLL_at HI5.out k hkl
        obtain ⟨g', a5, n5, c5, e, -, t0, t1⟩ := h0
        cases e
        have q1 := (hb.cell (World.block_lt_of_cell? w5 _ t0)).trans t0
        have q2 := (HBr.out.cell (World.block_lt_of_cell? w5 _ t0)).trans t0
        rw [x0] at q2
        cases q2
        exact ⟨q1, isV_below t1 hb⟩
      have W1 : Hid (∀ w', Below w5.heap.size w5 w' → Calls Try.prog 46 #[.slice ga gn gc, .slice pa pn pc] w' fun e w'' => e = .returned (.bool true) ∧ Below w'.heap.size w' w'') := fun w' hb => by
        have h := within_any _ _ _ _ w' (isV_isW (isV_below HG5.out hb)) (ROW.out w' hb).2
        rw [HLC.out _ (by rw [List.getD_eq_getElem?_getD, List.getElem?_eq_getElem hkl]; exact List.getElem_mem hkl)] at h
        exact h
      have W2 : Hid (∀ w', Below w5.heap.size w5 w' → Calls Try.prog 23 #[.slice pa pn pc, .slice ga gn gc] w' fun e w'' => e = .returned (.bool (Ls.getD k [] == elems d.grd)) ∧ Below w'.heap.size w' w'') := fun w' hb => same01_any _ _ _ _ w' (ROW.out w' hb).2 (isV_below HG5.out hb)
      have HAS := hid (AS.out k hkm)
      have ROW2 : Hid (∀ w', Below w5.heap.size w5 w' → w'.cell? ⟨g, k, none⟩ = some (.slice pa pn pc)) := fun w' hb => (ROW.out w' hb).1
      clear ROW HLC
      generalize (Ls.getD k [] == elems d.grd) = q at *
      cases hb0 : A k with
      | true =>
        rw [hb0] at hbv
        subst hbv
        have HA2 : Hid (A (k + 1) = true) := by show _ = _; rw [HAS.out, hb0]; rfl
        go_wp2_with (first | (go_at_call 46; refine (W1.out _ HBr.out).mono ?_; rintro e w6 ⟨rfl, hb6⟩; have HB6 := hid (below_step HBr.out hb6); clear hb6) | fail)
        go_roundw
        case rel => exact ⟨k + 1, by go_num, by omega, by rw [HA2.out], HB6⟩
        case measure => simp [intOf]; omega
      | false =>
        rw [hb0] at hbv
        subst hbv
        have HA2 : Hid (A (k + 1) = q) := by show _ = _; rw [HAS.out, hb0]; rfl
        go_wp2_with (first | (go_at_call 46; refine (W1.out _ HBr.out).mono ?_; rintro e w6 ⟨rfl, hb6⟩; have HB6 := hid (below_step HBr.out hb6); have x1 := ROW2.out _ HB6.out; clear hb6) | (go_at_call 23; refine (W2.out _ HB6.out).mono ?_; rintro e w7 ⟨rfl, hb7⟩; have HB7 := hid (below_step HB6.out hb7); clear hb7) | fail)
        go_roundw
        case rel => exact ⟨k + 1, by go_num, by omega, by rw [HA2.out], HB7⟩
        case measure => simp [intOf]; omega
    · have hke : k = m4 := by omega
      subst hke
      rw [AM.out] at hbv
      subst hbv
      clear AS A0 AM HLC HLL
      have HB7 : Hid (Below w2.heap.size w2 wr) := below_step HB5.out HBr.out
      have HG7 := hid (isV_below HG5.out HBr.out)
      have HT0 : Hid (IsV (wr.alloc (.cells #[] 3)) (.slice (some ⟨wr.heap.size, 0, none⟩) 0 0) ((elems (d.F 0)).map iv)) := by
        rw [show elems (d.F 0) = [] from elems_zero]
        exact ⟨some ⟨wr.heap.size, 0, none⟩, 0, rfl, Nat.zero_le _, fun i hi => absurd hi (Nat.not_lt_zero _)⟩
      have HBA : Hid (Below wr.heap.size wr (wr.alloc (.cells #[] 3))) := ba wr _
      have FIN : Hid (∀ w', Below wr.heap.size wr w' → Below w.heap.size w w') := fun w' hb => (below_step HB2.out HB7.out).trans (hb.mono (below_step HB2.out HB7.out).size)
      clear HG5 HI5 HBr HB5
      go_upto_region 14 with fail
      go_loopw [14, 13] (fun zv qv wq => ∃ (k : Nat) (sa : Option Addr) (sn sc : Nat), zv = .int .i64 k ∧ k ≤ d.last ∧ qv = .slice sa sn sc ∧ Hid (IsV wq (.slice sa sn sc) ((elems (d.F k)).map iv)) ∧ Hid (Below wr.heap.size wr wq)) (fun zv _ _ => 13 - (intOf zv).toNat)
      case atStart => exact ⟨0, _, _, _, rfl, Nat.zero_le _, rfl, HT0, HBA⟩
      case round =>
        clear HT0 HBA
        obtain ⟨k, sa, sn, sc, rfl, hk, rfl, HS, HBq⟩ := hrel
        rename World => wq
        have hks : k ≤ size := by omega
        have HBX : Hid (Below w2.heap.size w2 wq) := below_step HB7.out HBq.out
        have hle := elems_len (d.F (k + 1))
        go_upto_region 17 with (first | (go_at_call 42; refine (C3.out k _ _ HBX.out HS.out).mono ?_; rintro e w6 ⟨xa, xm, xc, rfl, ho6, hm6, hb6⟩; have hcap := ownV_cap ho6; have HV6 := hid (ownV_isV ho6 (by rw [List.length_map]; omega)); have HS6 := hid (isV_below HS.out hb6); have HM6 := hid hm6; have hx16 : xm ≤ 16 := (by omega); have HB6 := hid (below_step HBq.out hb6); clear ho6 hm6 hb6) | fail)
        have W1 : Hid (Calls Try.prog 46 #[.slice sa sn sc, .slice xa xm xc] w6 fun e w'' => e = .returned (.bool true) ∧ Below w6.heap.size w6 w'') := by
          have h := within_any _ _ _ _ w6 (isV_isW HS6.out) HV6.out
          rw [inL_elems (d.F_up k)] at h
          exact h
        clear HS HBX HBq
        go_upto_region 20 with (first | (go_at_call 46; refine W1.out.mono ?_; rintro e w7 ⟨rfl, hb7⟩; have HV7 := hid (isV_below HV6.out hb7); have HS7 := hid (isV_below HS6.out hb7); have HB8 := hid (below_step HB6.out hb7); clear hb7) | fail)
        clear W1 HV6 HS6 HB6
        go_loopw [17] (fun zv wr3 => ∃ (i : Nat), zv = .int .i64 i ∧ i ≤ xm ∧ Hid (Below w7.heap.size w7 wr3)) (fun zv _ => 17 - (intOf zv).toNat)
        case atStart => exact ⟨0, rfl, Nat.zero_le _, Below.refl _ _⟩
        case round =>
          obtain ⟨i, rfl, hi, HBi⟩ := hrel
          rename World => wi
          have HBY : Hid (Below w2.heap.size w2 wi) := below_step HB7.out (below_step HB8.out HBi.out)
          by_cases him : i < xm
          · have hie : i < (elems (d.F (k + 1))).length := by rw [← HM6.out]; exact him
            obtain ⟨g, rfl, -, c0⟩ := isV_at (isV_below HV7.out HBi.out) i (by rw [List.length_map]; exact hie)
            rw [getD_map iv _ 0 i hie] at c0
            have hmem : (elems (d.F (k + 1))).getD i 0 ∈ elems (d.F (k + 1)) := by rw [List.getD_eq_getElem?_getD, List.getElem?_eq_getElem hie]; exact List.getElem_mem hie
            change wi.cell? _ = some (.int .i64 (((elems (d.F (k + 1))).getD i 0 : Nat) : Int)) at c0
            generalize (elems (d.F (k + 1))).getD i 0 = c at *
            obtain ⟨hc16, hcb⟩ := (mem_elems _ c).1 hmem
            have hcs : c < size := by rw [← hdn]; exact bit_lt (d.F_lt (k + 1)) hcb
            obtain ⟨s, hso, hs1, hs2⟩ := step_next d hcb
            have W2 : Hid (∀ w' y, Below wi.heap.size wi w' → Calls Try.prog 46 #[.slice (some ⟨g, i, none⟩) 1 y, .slice sa sn sc] w' fun e w'' => e = .returned (.bool ((d.F k).testBit c)) ∧ Below w'.heap.size w' w'') := fun w' y hb => by
              have h := within_any (.slice (some ⟨g, i, none⟩) 1 y) _ [c] _ w' ⟨some ⟨g, i, none⟩, y, i, rfl, by rw [List.length_map]; show 1 ≤ 1000000; omega, fun j hj => ⟨g, rfl, by
                have hj0 : j = 0 := by simpa using hj
                subst hj0
                exact (hb.cell (World.block_lt_of_cell? wi _ c0)).trans c0⟩⟩ (isV_below HS7.out (below_step HBi.out hb))
              rw [inL_one c _ hc16] at h
              exact h
            have W3 := hid (C4.out c s wi HBY.out hcs hso)
            have hci : ¬ xc = i := by omega
            have HCI := hid hci
            clear hmem hcb hso
            by_cases hsk : s < k + 1
            · have hbit := hs2.1 hsk
              rw [hbit] at W2
              clear hs2 hbit
              go_wp2_with (first
                | (go_at_call 18; refine W3.out.mono ?_; rintro e w8 ⟨rfl, hb8⟩; have HB9 := hid hb8; clear hb8)
                | (go_at_call 46; (try rw [if_neg HCI.out]); with_reducible refine (W2.out _ _ HB9.out).mono ?_; rintro e w9 ⟨rfl, hb9⟩; have HB10 := hid (below_step HBi.out (below_step HB9.out hb9)); clear hb9)
                | fail)
              · exfalso
                rename_i hbad
                rcases hbad with h | h
                · omega
                · simp at h; omega
              go_roundw
              case rel => exact ⟨i + 1, by go_num, by omega, HB10⟩
              case measure => simp [intOf]; omega
            · have hbit : (d.F k).testBit c = false := by
                cases e : (d.F k).testBit c with
                | false => rfl
                | true => exact absurd (hs2.2 e) hsk
              rw [hbit] at W2
              have hse : s = k + 1 := by omega
              subst hse
              clear hs2 hbit hsk hs1
              go_wp2_with (first
                | (go_at_call 18; refine W3.out.mono ?_; rintro e w8 ⟨rfl, hb8⟩; have HB9 := hid hb8; clear hb8)
                | (go_at_call 46; (try rw [if_neg HCI.out]); with_reducible refine (W2.out _ _ HB9.out).mono ?_; rintro e w9 ⟨rfl, hb9⟩; have HB10 := hid (below_step HBi.out (below_step HB9.out hb9)); clear hb9)
                | fail)
              go_roundw
              case rel => exact ⟨i + 1, by go_num, by omega, HB10⟩
              case measure => simp [intOf]; omega
          · have W4 := hid (same01_any _ _ _ _ wi (isV_below HS7.out HBi.out) (isV_below HV7.out HBi.out))
            have HBZ : Hid (Below wr.heap.size wr wi) := below_step HB8.out HBi.out
            cases hst : d.still k with
            | true =>
              have hF : d.F (k + 1) = d.F k := by unfold Dsp.still at hst; exact beq_iff_eq.1 hst
              have hgr : d.grd = d.F k := d.still_up hst d.last hk
              have W5 : Hid (∀ w', Below wi.heap.size wi w' → Calls Try.prog 23 #[.slice sa sn sc, .slice ga gn gc] w' fun e w'' => e = .returned (.bool true) ∧ Below w'.heap.size w' w'') := fun w' hb => by
                have h := same01_any _ _ _ _ w' (isV_below HS7.out (below_step HBi.out hb)) (isV_below HG7.out (below_step HBZ.out hb))
                rw [hgr] at h
                simpa using h
              rw [hF] at W4
              simp only [beq_self_eq_true] at W4
              clear hF hgr
              go_upto_region 27 with (first | (go_at_call 23; refine W4.out.mono ?_; rintro e w10 ⟨rfl, hb10⟩; have HB10 := hid hb10; clear hb10) | fail)
              go_wp2_with (first | (go_at_call 23; refine (W5.out _ HB10.out).mono ?_; rintro e w11 ⟨rfl, hb11⟩; have HB11 := hid (below_step HB10.out hb11); clear hb11) | fail)
              go_ret
              exact ⟨rfl, FIN.out _ (below_step HBZ.out HB11.out)⟩
            | false =>
              have hne : (elems (d.F k) == elems (d.F (k + 1))) = false := by
                rw [beq_eq_false_iff_ne]
                intro e
                have h1 : d.F k < 2 ^ 16 := Nat.lt_of_lt_of_le (d.F_lt k) (Nat.pow_le_pow_right (by decide) (by omega))
                have h2 : d.F (k + 1) < 2 ^ 16 := Nat.lt_of_lt_of_le (d.F_lt (k + 1)) (Nat.pow_le_pow_right (by decide) (by omega))
                have h3 := elems_inj h1 h2 e
                unfold Dsp.still at hst
                rw [← h3] at hst
                simp at hst
              rw [hne] at W4
              have hkl : k + 1 ≤ d.last := by
                refine Nat.lt_of_le_of_ne hk fun e => ?_
                rw [e, hls.2.1] at hst
                cases hst
              clear hne
              go_wp2_with (first | (go_at_call 23; refine W4.out.mono ?_; rintro e w10 ⟨rfl, hb10⟩; have HV10 := hid (isV_below HV7.out (below_step HBi.out hb10)); have HB10 := hid (below_step HBZ.out hb10); clear hb10) | fail)
              go_roundw
              case rel => exact ⟨k + 1, _, _, _, by go_num, hkl, rfl, HV10, HB10⟩
              case measure => simp [intOf]; omega
end Go.Proofs.Ytaedbkdimpdngaa
