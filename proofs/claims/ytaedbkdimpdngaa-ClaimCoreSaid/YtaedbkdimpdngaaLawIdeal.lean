/-
  The law ClaimIdeal of chapter 12: its contract.
-/
import Derived.Test.YtaedbkdimpdngaaWalkV
import Derived.Test.YtaedbkdimpdngaaLawLeast
namespace Go.Proofs.Ytaedbkdimpdngaa
open Go.RowKit
theorem defends_ok {n : Int} {v u : Value} {l : List Pr} {w : World} (s : Nat) (hv : IsPr w v l) (hu : IsV w u ((elems s).map iv)) (hva : validP n l = true) (hs : s < 2 ^ n.toNat) :
    Calls Try.prog 42 #[.int .i64 n, v, u] w fun e w' => ∃ a m c, e = .returned (.tuple #[.slice a m c, .int .i64 0]) ∧ IsV w' (.slice a m c) ((elems ((dsp n.toNat l).dfd s)).map iv) ∧ m = (elems ((dsp n.toNat l).dfd s)).length ∧ Below w.heap.size w w' :=
  (pDefends_any n v u l (zl (elems s)) w hv (by rw [zl_zv]; exact hu)).mono fun e w' h => by
    have hn := valid_n hva
    have hn2 : n = (n.toNat : Int) := by omega
    have hok : okS n (zl (elems s)) = true := by rw [hn2]; exact okS_elems hs
    obtain ⟨hb, ⟨h2, _⟩ | ⟨_, h2, _⟩ | ⟨_, _, x, rfl, ho⟩⟩ := h
    · rw [hva] at h2; cases h2
    · rw [hok] at h2; cases h2
    · rw [setS_elems hs (by omega)] at ho
      have hi := ownV_isV ho (by rw [List.length_map]; exact elems_le _)
      obtain ⟨a, c, rfl⟩ := isV_slice hi
      exact ⟨a, _, c, rfl, hi, by rw [List.length_map], hb⟩
theorem admissible_ok {n : Int} {v u : Value} {l : List Pr} {w : World} (s : Nat) (hv : IsPr w v l) (hu : IsV w u ((elems s).map iv)) (hva : validP n l = true) (hs : s < 2 ^ n.toNat) :
    Calls Try.prog 41 #[.int .i64 n, v, u] w fun e w' => e = .returned (.tuple #[.bool ((dsp n.toNat l).adm s), .int .i64 0]) ∧ Below w.heap.size w w' :=
  (pAdmissible_any n v u l (zl (elems s)) w hv (by rw [zl_zv]; exact hu)).mono fun e w' h => by
    have hn := valid_n hva
    have hn2 : n = (n.toNat : Int) := by omega
    have hok : okS n (zl (elems s)) = true := by rw [hn2]; exact okS_elems hs
    obtain ⟨hb, ⟨h2, _⟩ | ⟨_, h2, _⟩ | ⟨_, _, x, he, ho⟩⟩ := h
    · rw [hva] at h2; cases h2
    · rw [hok] at h2; cases h2
    · rw [setS_elems hs (by omega)] at ho
      rw [ho] at he
      exact ⟨he, hb⟩
theorem granted_ok {n : Int} {v : Value} {l : List Pr} {w : World} (hv : IsPr w v l) (hva : validP n l = true) :
    Calls Try.prog 17 #[.int .i64 n, v] w fun e w' => ∃ a m c, e = .returned (.tuple #[.slice a m c, .int .i64 0]) ∧ IsV w' (.slice a m c) ((elems (dsp n.toNat l).grd).map iv) ∧ Below w.heap.size w w' :=
  (ret_ok (pGranted_any n v l w hv) hva).mono fun e w' h => by
    obtain ⟨u, rfl, ⟨x, rfl, ho⟩, hb⟩ := h
    have hi := ownV_isV ho (by rw [List.length_map]; exact elems_le _)
    obtain ⟨a, c, rfl⟩ := isV_slice hi
    exact ⟨a, _, c, rfl, hi, hb⟩
theorem ideal_ok {n : Int} {v : Value} {l : List Pr} {w : World} (hv : IsPr w v l) (hva : validP n l = true) :
    Calls Try.prog 33 #[.int .i64 n, v] w fun e w' => ∃ a m c, e = .returned (.tuple #[.slice a m c, .int .i64 0]) ∧ IsV w' (.slice a m c) ((elems (dsp n.toNat l).ideal).map iv) ∧ Below w.heap.size w w' :=
  (ret_ok (pIdeal_any n v l w hv) hva).mono fun e w' h => by
    obtain ⟨u, rfl, ⟨x, rfl, ho⟩, hb⟩ := h
    have hi := ownV_isV ho (by rw [List.length_map]; exact elems_le _)
    obtain ⟨a, c, rfl⟩ := isV_slice hi
    exact ⟨a, _, c, rfl, hi, hb⟩
set_option maxRecDepth 100000 in
set_option maxHeartbeats 4000000 in
theorem ClaimIdeal_ok (nb : Int) (ja : Option Addr) (jn jc : Nat) (w : World) (hnb : 0 ≤ nb ∧ nb < 256) (hx : ArgAr w ja jn) :
    Calls Try.prog 15 #[.int .u8 nb, .slice ja jn jc] w fun e w' => e = .returned (.bool true) ∧ Below w.heap.size w w' := by
  have HM := hid (made_any nb ja jn jc 12 w hnb (by decide) hx)
  clear hnb hx
  go_enter Try.func15, Try.ntmps15
  go_upto_region 2 with (first | (go_at_call 27; refine (HM.out).mono ?_; rintro e w2 ⟨size, v2, l, rfl, hp2, hva, h1, h12, -, -, hb2⟩; obtain ⟨na, nc, rfl⟩ := row_slice hp2; have HB2 := hid hb2; have HVA := hid hva; have HP2 := hid (ownP_all hp2 hva); clear hp2 hva hb2) | fail)
  clear HM
  have C1 : Hid (∀ w', Below w2.heap.size w2 w' → Calls Try.prog 33 #[.int .i64 (size : Int), .slice na l.length nc] w' fun e w'' => ∃ a m c, e = .returned (.tuple #[.slice a m c, .int .i64 0]) ∧ IsV w'' (.slice a m c) ((elems (dsp (Int.toNat (size : Int)) l).ideal).map iv) ∧ Below w'.heap.size w' w'') := fun w' hb => ideal_ok (HP2.out w' hb) HVA.out
  have C2 : Hid (∀ w', Below w2.heap.size w2 w' → Calls Try.prog 17 #[.int .i64 (size : Int), .slice na l.length nc] w' fun e w'' => ∃ a m c, e = .returned (.tuple #[.slice a m c, .int .i64 0]) ∧ IsV w'' (.slice a m c) ((elems (dsp (Int.toNat (size : Int)) l).grd).map iv) ∧ Below w'.heap.size w' w'') := fun w' hb => granted_ok (HP2.out w' hb) HVA.out
  have C3 : Hid (∀ w', Below w2.heap.size w2 w' → Calls Try.prog 28 #[.int .i64 (size : Int), .slice na l.length nc] w' fun e w'' => ∃ a m c, e = .returned (.tuple #[.slice a m c, .int .i64 0]) ∧ IsLL w'' (.slice a m c) (lists (dsp (Int.toNat (size : Int)) l).pref) ∧ m = (dsp (Int.toNat (size : Int)) l).pref.length ∧ Below w'.heap.size w' w'') := fun w' hb => retLL_ok (w0 := w') (pPreferred_any _ _ _ w' (HP2.out w' hb)) HVA.out
  have hil : (dsp (Int.toNat (size : Int)) l).ideal < 2 ^ Int.toNat (size : Int) := sub_full (dsp (Int.toNat (size : Int)) l).ideal_sub
  have C4 : Hid (∀ u w', Below w2.heap.size w2 w' → IsV w' u ((elems (dsp (Int.toNat (size : Int)) l).ideal).map iv) → Calls Try.prog 42 #[.int .i64 (size : Int), .slice na l.length nc, u] w' fun e w'' => ∃ a m c, e = .returned (.tuple #[.slice a m c, .int .i64 0]) ∧ IsV w'' (.slice a m c) ((elems ((dsp (Int.toNat (size : Int)) l).dfd (dsp (Int.toNat (size : Int)) l).ideal)).map iv) ∧ m = (elems ((dsp (Int.toNat (size : Int)) l).dfd (dsp (Int.toNat (size : Int)) l).ideal)).length ∧ Below w'.heap.size w' w'') := fun u w' hb hu => defends_ok _ (HP2.out w' hb) hu HVA.out hil
  have C5 : Hid (∀ u w', Below w2.heap.size w2 w' → IsV w' u ((elems (dsp (Int.toNat (size : Int)) l).ideal).map iv) → Calls Try.prog 41 #[.int .i64 (size : Int), .slice na l.length nc, u] w' fun e w'' => e = .returned (.tuple #[.bool ((dsp (Int.toNat (size : Int)) l).adm (dsp (Int.toNat (size : Int)) l).ideal), .int .i64 0]) ∧ Below w'.heap.size w' w'') := fun u w' hb hu => admissible_ok _ (HP2.out w' hb) hu HVA.out hil
  clear HVA HP2 hil
  generalize (dsp (Int.toNat (size : Int)) l) = d at *
  have hfx : d.dfd d.ideal = d.ideal := ((d.comp_iff _).1 d.ideal_comp).2
  rw [hfx] at C4
  rw [d.ideal_adm] at C5
  clear hfx
  go_upto_region 7 with (first
    | (go_at_call 33; refine (C1.out _ (Below.refl _ _)).mono ?_; rintro e w3 ⟨ia, im, ic, rfl, hi3, hb3⟩; have HI3 := hid hi3; have HB3 := hid hb3; clear hi3 hb3)
    | (go_at_call 17; refine (C2.out _ HB3.out).mono ?_; rintro e w4 ⟨ga, gm, gc, rfl, hi4, hb4⟩; have HG4 := hid hi4; have HI4 := hid (isV_below HI3.out hb4); have HB4 := hid (below_step HB3.out hb4); clear hi4 hb4)
    | (go_at_call 28; refine (C3.out _ HB4.out).mono ?_; rintro e w5 ⟨pa, pm, pc, rfl, hi5, -, hb5⟩; have HP5 := hid hi5; have HG5 := hid (isV_below HG4.out hb5); have HI5 := hid (isV_below HI4.out hb5); have HB5 := hid (below_step HB4.out hb5); clear hi5 hb5)
    | (go_at_call 42; refine (C4.out _ _ HB5.out HI5.out).mono ?_; rintro e w6 ⟨xa, xm, xc, rfl, hi6, -, hb6⟩; have HX6 := hid hi6; have HP6 := hid (isLL_below HP5.out hb6); have HG6 := hid (isV_below HG5.out hb6); have HI6 := hid (isV_below HI5.out hb6); have HB6 := hid (below_step HB5.out hb6); clear hi6 hb6)
    | (go_at_call 41; refine (C5.out _ _ HB6.out HI6.out).mono ?_; rintro e w7 ⟨rfl, hb7⟩; have HX7 := hid (isV_below HX6.out hb7); have HP7 := hid (isLL_below HP6.out hb7); have HG7 := hid (isV_below HG6.out hb7); have HI7 := hid (isV_below HI6.out hb7); have HB7 := hid (below_step HB6.out hb7); clear hb7)
    | fail)
  clear C1 C2 C3 C4 C5 HI3 HG4 HI4 HP5 HG5 HI5 HX6 HP6 HG6 HI6
  have FIN : Hid (∀ w', Below w7.heap.size w7 w' → Below w.heap.size w w') := fun w' hb => (below_step HB2.out HB7.out).trans (hb.mono (below_step HB2.out HB7.out).size)
  have S1 : Hid (Calls Try.prog 23 #[.slice xa xm xc, .slice ia im ic] w7 fun e w'' => e = .returned (.bool true) ∧ Below w7.heap.size w7 w'') := by
    have h := same01_any _ _ _ _ w7 HX7.out HI7.out
    rw [beq_self_eq_true] at h
    exact h
  have S2 : Hid (∀ w', Below w7.heap.size w7 w' → Calls Try.prog 46 #[.slice ga gm gc, .slice ia im ic] w' fun e w'' => e = .returned (.bool true) ∧ Below w'.heap.size w' w'') := fun w' hb => by
    have h := within_any _ _ _ _ w' (isV_isW (isV_below HG7.out hb)) (isV_below HI7.out hb)
    rw [inL_elems d.grd_ideal] at h
    exact h
  have HLL : Hid (pm = (lists d.pref).length) := by
    obtain ⟨a, c, e, _⟩ := isLL_slice HP7.out
    cases e; rfl
  have hml : pm ≤ 1000000 := by
    obtain ⟨a, c, e, h⟩ := isLL_slice HP7.out
    rw [HLL.out]; exact h
  go_upto_region 10 with (first
    | (go_at_call 23; refine S1.out.mono ?_; rintro e w8 ⟨rfl, hb8⟩; have HB8 := hid hb8; clear hb8)
    | (go_at_call 46; refine (S2.out _ HB8.out).mono ?_; rintro e w9 ⟨rfl, hb9⟩; have HB9 := hid (below_step HB8.out hb9); clear hb9)
    | (go_at_call 20; refine (lives_any _).mono ?_; rintro e w10 ⟨rfl, hb10⟩; have HB10 := hid (below_step HB9.out hb10); clear hb10)
    | fail)
  go_loopw [17] (fun zv wr => ∃ k : Nat, zv = .int .i64 k ∧ k ≤ pm ∧ Hid (Below w7.heap.size w7 wr)) (fun zv _ => pm - (intOf zv).toNat)
  case atStart => exact ⟨0, rfl, Nat.zero_le _, HB10⟩
  case round =>
    obtain ⟨k, rfl, hk, HBr⟩ := hrel
    by_cases hkm : k < pm
    · have hkl : k < (lists d.pref).length := by rw [← HLL.out]; exact hkm
      obtain ⟨g, qa, qn, qc, rfl, -, x0, x1⟩ := isLL_at (isLL_below HP7.out HBr.out) k hkl
      have W1 : Hid (Calls Try.prog 46 #[.slice ia im ic, .slice qa qn qc] wr fun e w'' => e = .returned (.bool true) ∧ Below wr.heap.size wr w'') := by
        have h := within_any _ _ _ _ wr (isV_isW (isV_below HI7.out HBr.out)) x1
        have hm : (lists d.pref).getD k [] ∈ lists d.pref := by rw [List.getD_eq_getElem?_getD, List.getElem?_eq_getElem hkl]; exact List.getElem_mem hkl
        obtain ⟨s, hs, he⟩ := (mem_lists _ _).1 hm
        rw [← he, inL_elems (d.ideal_pref hs)] at h
        exact h
      clear x1
      go_wp2_with (first | (go_at_call 46; refine W1.out.mono ?_; rintro e w11 ⟨rfl, hb11⟩; have HB11 := hid (below_step HBr.out hb11); clear hb11) | fail)
      go_roundw
      case rel => exact ⟨k + 1, by go_num, by omega, HB11⟩
      case measure => simp [intOf]; omega
    · go_wp2_with fail
      go_ret
      exact ⟨rfl, FIN.out _ HBr.out⟩
end Go.Proofs.Ytaedbkdimpdngaa
