/-
  Walks over chapter 12: Ideal.
-/
import Derived.Test.YtaedbkdimpdngaaWalkU
namespace Go.Proofs.Ytaedbkdimpdngaa
open Go.RowKit
theorem full_small (d : Dsp) : d.full < 2 ^ d.n := by
  unfold Dsp.full
  have := Nat.two_pow_pos d.n
  omega
theorem commons_lt (d : Dsp) : ∀ k, ((d.pref.take k).foldl (fun a s => a &&& s) d.full) < 2 ^ d.n := by
  have : ∀ (l : List Nat) (o : Nat), o < 2 ^ d.n → l.foldl (fun a s => a &&& s) o < 2 ^ d.n := by
    intro l
    induction l with
    | nil => intro o h; exact h
    | cons a l ih => intro o h; exact ih _ (and_lt h)
  exact fun k => this _ _ (full_small d)
theorem sub_full {d : Dsp} {s : Nat} (h : sub s d.common = true) : s < 2 ^ d.n := by
  refine Nat.lt_of_le_of_lt (sub_le h) ?_
  have := commons_lt d d.pref.length
  rwa [List.take_length] at this
theorem cut_lt {d : Dsp} {s : Nat} (hs : s < 2 ^ d.n) (h : diff s (d.dfd s) ≠ 0) : d.cut s < s := by
  have h1 := sub_le (d.cut_sub s)
  refine Nat.lt_of_le_of_ne h1 fun e => h ?_
  have hf : sub s (d.dfd s) = true := by
    rw [sub_iff]
    intro i hi
    rw [← e] at hi
    unfold Dsp.cut at hi
    rw [Nat.testBit_and, Bool.and_eq_true] at hi
    exact hi.2
  unfold sub at hf
  exact beq_iff_eq.1 hf
theorem sub_of_diff {a b : Nat} (h : diff a b = 0) : sub a b = true := beq_iff_eq.2 h
set_option maxRecDepth 100000 in
set_option maxHeartbeats 2000000 in
theorem pIdeal_any (n : Int) (v : Value) (l : List Pr) (w : World) (hv : IsPr w v l) :
    Calls Try.prog 33 #[.int .i64 n, v] w (Ret w n l (.tuple #[.slice none 0 0, .int .i64 1]) fun u w' => ∃ x, u = .tuple #[x, .int .i64 0] ∧ OwnV w' w.heap.size 3 x ((elems (dsp n.toNat l).ideal).map iv)) := by
  cases hva : validP n l with
  | false =>
    have HR := hid (read_no hv hva)
    have HVA := hid hva
    clear hv hva
    go_enter Try.func33, Try.ntmps33
    go_wp2_with (first | (go_at_call 47; refine (HR.out).mono ?_; rintro e w6 ⟨rfl, hb6⟩; have HB6 := hid hb6; clear hb6) | fail)
    go_ret2
    exact ⟨HB6.out, .inl ⟨HVA.out, rfl⟩⟩
  | true =>
    have HR := hid (read_ok hv hva)
    have hn := valid_n12 hva
    have hnn := valid_n hva
    have HVA := hid hva
    clear hv hva
    obtain ⟨N, rfl⟩ : ∃ N : Nat, n = (N : Int) := ⟨n.toNat, by omega⟩
    have hdn : (dsp (Int.toNat (N : Int)) l).n = N := rfl
    generalize dsp (Int.toNat (N : Int)) l = d at *
    have HPR : Hid (∀ w' D, DAt w' D d → Calls Try.prog 59 #[.pointer (some ⟨D, 0, none⟩)] w' fun e w'' => ∃ v, e = .returned v ∧ OwnV w'' w'.heap.size 75 v (d.pref.map sv) ∧ Below w'.heap.size w' w'') := fun w' D h => preferred_any w' D d h hn
    have HDF : Hid (∀ (s : Nat) w' D, s < 2 ^ d.n → DAt w' D d → Calls Try.prog 65 #[.pointer (some ⟨D, 0, none⟩), .int .u16 (s : Int)] w' fun e w'' => e = .returned (.int .u16 ((d.dfd s : Nat) : Int)) ∧ Below w'.heap.size w' w'') := fun s w' D hs h => defended_any D d s w' h hn hs
    have HL : Hid (∀ w' : World, Calls Try.prog 49 #[.int .u16 ((d.ideal : Nat) : Int)] w' fun e w'' => ∃ v, e = .returned v ∧ OwnV w'' w'.heap.size 3 v ((elems d.ideal).map iv) ∧ Below w'.heap.size w' w'') := fun w' => list_any d.ideal w' (lt12 hn (sub_full d.ideal_sub))
    have hpl : d.pref.length ≤ 5000 := (small_pref d hn).2
    have hN12 : N ≤ 12 := by omega
    have hN1 : (1 : Int) ≤ (N : Int) := by omega
    have hsh := wrap16 (show N < 16 by omega)
    have hp1 := Nat.two_pow_pos N
    have hp2 : 2 ^ N ≤ 4096 := pow_small (n := 12) hN12
    have HF : Hid (2 ^ N = d.full + 1) := by
      show _ = _
      unfold Dsp.full
      rw [hdn]
      omega
    have hfl : d.full < 4096 := by have := HF.out; omega
    rw [HF.out] at hsh
    have HPL : Hid (∀ s, s ∈ d.pref → s < 4096) := (small_pref d hn).1
    clear hn hp1 hp2
    have HC0 : Hid (d.full = (d.pref.take 0).foldl (fun a s => a &&& s) d.full) := (rfl : _ = _)
    have HLT : Hid (∀ k, ((d.pref.take k).foldl (fun a s => a &&& s) d.full) < 4096) := fun k => lt12 (by omega) (commons_lt d k)
    have HCM : Hid ((d.pref.take d.pref.length).foldl (fun a s => a &&& s) d.full = d.common) := by show _ = _; rw [List.take_length]; rfl
    have HPLN : Hid ((d.pref.map sv).length ≤ 1000000) := by show _ ≤ _; rw [List.length_map]; omega
    obtain ⟨M, hM⟩ : ∃ M, M = d.pref.length := ⟨_, rfl⟩
    have HM := hid hM
    rw [← hM] at hpl HCM
    obtain ⟨C, hC⟩ : ∃ C : Nat → Nat, C = fun k => (d.pref.take k).foldl (fun a s => a &&& s) d.full := ⟨_, rfl⟩
    have HCS : Hid (∀ k, k < M → C (k + 1) = C k &&& d.pref.getD k 0) := fun k hk => by
      rw [hC]
      exact foldl_take (fun a s => a &&& s) d.full d.pref 0 k (by rw [← hM]; exact hk)
    have HCL : Hid (∀ k, C k < 4096) := by rw [hC]; exact HLT
    have HCE : Hid (C M = d.common) := by rw [hC]; exact HCM
    have HC00 : Hid (C 0 = d.full) := by rw [hC]; exact (rfl : _ = _)
    clear hC hM HLT HCM HC0
    generalize d.full = F at *
    go_enter Try.func33, Try.ntmps33
    go_upto_region 5 with (first | (go_at_call 47; refine (HR.out).mono ?_; rintro e w6 ⟨D, rfl, hd6, hb6⟩; have HD6 := hid hd6; have HB6 := hid hb6; clear hd6 hb6) | fail)
    go_upto_region 6 with (first
      | (go_at_call 59; refine (HPR.out _ _ HD6.out).mono ?_; rintro e w7 ⟨v7, rfl, ho7, hb7⟩; have hi7 := ownV_isV ho7 HPLN.out; obtain ⟨a7, c7, rfl⟩ := isV_slice hi7; have HV7 := hid hi7; have HD7 := hid (dAt_below HD6.out hb7); have HB7 := hid (below_step HB6.out hb7); clear hi7 ho7 hb7)
      | fail)
    rw [List.length_map] at HV7
    (try simp only [List.length_map])
    rw [← HM.out] at HV7 ⊢
    go_loopw [25, 8] (fun kv ov wr => ∃ k : Nat, kv = .int .i64 k ∧ k ≤ M ∧ ov = .int .u16 (C k : Nat) ∧ Hid (Below w7.heap.size w7 wr)) (fun kv _ _ => M - (intOf kv).toNat)
    case atStart => exact ⟨0, rfl, Nat.zero_le _, by rw [HC00.out], Below.refl _ _⟩
    case round =>
      obtain ⟨k, rfl, hk, rfl, HBr⟩ := hrel
      by_cases hlt : k < M
      · have hlp : k < d.pref.length := by rw [← HM.out]; exact hlt
        obtain ⟨g, rfl, -, c0⟩ := isV_at (isV_below HV7.out HBr.out) k (by rw [List.length_map]; exact hlp)
        rw [getD_map sv _ 0 k hlp] at c0
        change wr.cell? _ = some (.int .u16 ((d.pref.getD k 0 : Nat) : Int)) at c0
        have hs : d.pref.getD k 0 < 4096 := HPL.out _ (by rw [List.getD_eq_getElem?_getD, List.getElem?_eq_getElem hlp]; exact List.getElem_mem hlp)
        have HQ := hid (HCS.out k hlt)
        have hck := HCL.out k
        have hand := and16 (a := C k) (b := d.pref.getD k 0) (by omega) (by omega)
        generalize d.pref.getD k 0 = p at *
        generalize C k = o at *
        generalize o &&& p = q at *
        go_wp2_with fail
        go_roundw
        case rel => exact ⟨k + 1, by go_num, by omega, by rw [HQ.out], HBr⟩
        case measure => simp [intOf]; omega
      · have hke : k = M := by omega
        subst hke
        rw [HCE.out]
        have HS0 : Hid (sub d.ideal d.common = true) := d.ideal_sub
        have HS1 : Hid (sub d.common d.common = true) := sub_refl _
        clear HC00 HCE HCL HCS HPL HV7 HM
        have HD8 := hid (dAt_below HD7.out HBr.out)
        have HB8 := hid (below_step HB7.out HBr.out)
        clear HD7 HBr
        rename World => w8
        go_upto_region 10 with fail
        go_loopw [8] (fun ov wr => ∃ o : Nat, ov = .int .u16 (o : Nat) ∧ Hid (sub d.ideal o = true) ∧ Hid (sub o d.common = true) ∧ Hid (Below w8.heap.size w8 wr)) (fun ov _ => (intOf ov).toNat)
        case atStart => exact ⟨_, rfl, HS0, HS1, Below.refl _ _⟩
        case round =>
          clear HS0 HS1
          obtain ⟨o, rfl, HI, HO, HBr⟩ := hrel
          have hod : o < 2 ^ d.n := sub_full HO.out
          have ho : o < 4096 := lt12 (by omega) hod
          have hdf : d.dfd o < 4096 := lt12 (by omega) (d.dfd_lt o)
          have hdif := dif16 (a := o) (b := d.dfd o) (by omega) (by omega)
          have hand := and16 (a := o) (b := d.dfd o) (by omega) (by omega)
          have HX : Hid (∀ w', Below wr.heap.size wr w' → Calls Try.prog 65 #[.pointer (some ⟨D, 0, none⟩), .int .u16 (o : Int)] w' fun e w'' => e = .returned (.int .u16 ((d.dfd o : Nat) : Int)) ∧ Below w'.heap.size w' w'') := fun w' hb => HDF.out o w' D hod (dAt_below HD8.out (below_step HBr.out hb))
          by_cases hz : diff o (d.dfd o) = 0
          · have HE : Hid (o = d.ideal) := d.cut_end HI.out HO.out (sub_of_diff hz)
            rw [hz] at hdif
            clear hand
            generalize d.dfd o = q at *
            go_wp2_with (first
              | (go_at_call 65; refine (HX.out _ (Below.refl _ _)).mono ?_; rintro e w9 ⟨rfl, hb9⟩; have HB9 := hid (below_step HBr.out hb9); clear hb9)
              | (go_at_call 49; rw [HE.out]; refine (HL.out _).mono ?_; rintro e w10 ⟨v10, rfl, ho10, hb10⟩; have HO10 := hid ho10; have HB10 := hid (below_step HB9.out hb10); clear ho10 hb10)
              | fail)
            go_ret2
            exact ⟨below_step HB8.out HB10.out, .inr ⟨HVA.out, _, rfl, v10, rfl, ownV_mono HO10.out (below_step HB8.out HB9.out).size⟩⟩
          · have HLT := hid (cut_lt hod hz)
            have HI2 := hid (d.ideal_cut HI.out)
            have HO2 := hid (sub_trans (d.cut_sub o) HO.out)
            change Hid (o &&& d.dfd o < o) at HLT
            change Hid (sub d.ideal (o &&& d.dfd o) = true) at HI2
            change Hid (sub (o &&& d.dfd o) d.common = true) at HO2
            generalize diff o (d.dfd o) = z at *
            generalize o &&& d.dfd o = y at *
            generalize d.dfd o = q at *
            have hz2 : ¬ (z : Int) = 0 := by omega
            go_wp2_with (first
              | (go_at_call 65; refine (HX.out _ (Below.refl _ _)).mono ?_; rintro e w9 ⟨rfl, hb9⟩; have HB9 := hid hb9; clear hb9)
              | (go_at_call 65; refine (HX.out _ HB9.out).mono ?_; rintro e w10 ⟨rfl, hb10⟩; have HB10 := hid (below_step HBr.out (below_step HB9.out hb10)); clear hb10)
              | fail)
            go_roundw
            case rel => exact ⟨y, rfl, HI2, HO2, HB10⟩
            case measure => have := HLT.out; simp [intOf]; omega
end Go.Proofs.Ytaedbkdimpdngaa
