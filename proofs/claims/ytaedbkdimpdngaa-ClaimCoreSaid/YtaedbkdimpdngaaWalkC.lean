/-
  Walks over chapter 12: what a set attacks and defends; is it admissible.
-/
import Derived.Test.YtaedbkdimpdngaaWalkB
namespace Go.Proofs.Ytaedbkdimpdngaa
open Go.RowKit
theorem dAt_facts {w : World} {D : Nat} {d : Dsp} (h : DAt w D d) : ∃ b1 b2 c1 c2, ∀ w', Below w.heap.size w w' → (w'.cell? ⟨D, 0, none⟩ = some (.int .i64 (d.n : Int)) ∧ w'.cell? ⟨D, 1, none⟩ = some (.slice (some ⟨b1, 0, none⟩) d.n c1) ∧ w'.cell? ⟨D, 2, none⟩ = some (.slice (some ⟨b2, 0, none⟩) d.n c2)) ∧
    (∀ i, i < d.n → w'.cell? ⟨b1, i, none⟩ = some (.int .u16 (((byL d).getD i 0 : Nat) : Int))) ∧ (∀ i, i < d.n → w'.cell? ⟨b2, i, none⟩ = some (.int .u16 (((fromL d).getD i 0 : Nat) : Int))) := by
  obtain ⟨b1, b2, c1, c2, h1, h2, h3⟩ := h
  refine ⟨b1, b2, c1, c2, fun w' hb => ⟨cells3_of ((hb.block D (heap_lt h1)).trans h1), fun i hi => ?_, fun i hi => ?_⟩⟩
  · obtain ⟨g, hg, _, hc⟩ := isV_at (isV_below h2 hb) i (by rw [List.length_map, byL_len]; exact hi)
    cases hg
    rw [getD_map sv _ 0 i (by rw [byL_len]; exact hi)] at hc
    exact hc
  · obtain ⟨g, hg, _, hc⟩ := isV_at (isV_below h3 hb) i (by rw [List.length_map, fromL_len]; exact hi)
    cases hg
    rw [getD_map sv _ 0 i (by rw [fromL_len]; exact hi)] at hc
    exact hc
theorem foldl_take {α : Type} (f : Nat → α → Nat) (b : Nat) (xs : List α) (z : α) (i : Nat) (h : i < xs.length) : (xs.take (i + 1)).foldl f b = f ((xs.take i).foldl f b) (xs.getD i z) := by
  rw [List.take_succ_eq_append_getElem h, List.foldl_append, List.getD_eq_getElem?_getD, List.getElem?_eq_getElem h]; rfl
theorem hit_small (d : Dsp) (hn : d.n ≤ 12) : ∀ (l : List Nat) (o : Nat), o < 4096 → l.foldl (fun o i => o ||| (byL d).getD i 0) o < 4096
  | [], _, h => h
  | i :: l, o, h => hit_small d hn l _ (or_lt (n := 12) h (byL_lt d hn i))
theorem lt12 {d : Dsp} (hn : d.n ≤ 12) {s : Nat} (hs : s < 2 ^ d.n) : s < 4096 := Nat.lt_of_lt_of_le hs (pow_small (n := 12) hn)
theorem natb (r : Nat) : ((r : Int) == 0) = (r == 0) := by
  rw [Bool.eq_iff_iff, beq_iff_eq, beq_iff_eq]; omega
theorem elems_len (s : Nat) : (elems s).length ≤ 16 := by
  unfold elems
  have := List.length_filter_le (fun i => s.testBit i) (List.range 16)
  rwa [List.length_range] at this
set_option maxRecDepth 100000 in
theorem attacked_any (D : Nat) (d : Dsp) (s : Nat) (w : World) (hd : DAt w D d) (hn : d.n ≤ 12) (hs : s < 2 ^ d.n) :
    Calls Try.prog 64 #[.pointer (some ⟨D, 0, none⟩), sv s] w fun e w' => e = .returned (sv (d.hit s)) ∧ Below w.heap.size w w' := by
  have HL : Hid (∀ w : World, Calls Try.prog 49 #[.int .u16 (s : Int)] w fun e w' => ∃ v, e = .returned v ∧ OwnV w' w.heap.size 3 v ((elems s).map iv) ∧ Below w.heap.size w w') := fun w => list_any s w (lt12 hn hs)
  have HF := hid (hit_list d s hs (by omega))
  have HS := hid (hit_small d hn)
  have HM : Hid (∀ i, i ∈ elems s → i < d.n) := fun i hi => bit_lt hs ((mem_elems s i).1 hi).2
  have hlen := elems_len s
  obtain ⟨b1, b2, c1, c2, hfa⟩ := dAt_facts hd
  have HD := hid hfa
  clear hd hfa
  unfold sv
  obtain ⟨x0, x1, x2⟩ := (HD.out w (Below.refl _ _)).1
  go_enter Try.func64, Try.ntmps64
  go_upto_region 3 with (first | (go_at_call 49; refine (HL.out _).mono ?_; rintro e w6 ⟨v6, rfl, ho6, hb6⟩; obtain ⟨a6, c6, rfl⟩ := ownV_slice ho6; have HI6 := hid (ownV_isV ho6 (by rw [List.length_map]; omega)); have HB6 := hid hb6; clear ho6 hb6) | fail)
  clear x0 x1 x2
  rw [List.length_map] at HI6
  obtain ⟨n6, hn6⟩ : ∃ n, n = (elems s).length := ⟨_, rfl⟩
  have HN6 := hid hn6
  rw [← hn6] at hlen HI6 ⊢
  clear hn6
  go_wp2_with fail
  go_loopw [11, 5] (fun iv ov wr => ∃ (j o : Nat), iv = .int .i64 j ∧ j ≤ n6 ∧ ov = .int .u16 o ∧ Hid (o = ((elems s).take j).foldl (fun o i => o ||| (byL d).getD i 0) 0) ∧ Hid (Below w.heap.size w wr) ∧ Hid (Below w6.heap.size w6 wr)) (fun iv _ _ => n6 - (intOf iv).toNat)
  case atStart => exact ⟨0, 0, rfl, Nat.zero_le _, rfl, rfl, HB6, Below.refl _ _⟩
  case round =>
    obtain ⟨j, o, rfl, hj, rfl, HO, HBr, HBs⟩ := hrel
    by_cases hlt : j < n6
    · have hlj : j < (elems s).length := by rw [← HN6.out]; exact hlt
      obtain ⟨g, rfl, -, hc⟩ := isV_at (isV_below HI6.out HBs.out) j (by rw [List.length_map]; exact hlj)
      rw [getD_map iv _ 0 j hlj] at hc
      have HTK := hid (foldl_take (fun o i => o ||| (byL d).getD i 0) 0 (elems s) 0 j hlj)
      have hm : (elems s).getD j 0 < d.n := HM.out _ (by rw [List.getD_eq_getElem?_getD, List.getElem?_eq_getElem hlj]; exact List.getElem_mem hlj)
      change wr.cell? _ = some (.int .i64 (((elems s).getD j 0 : Nat) : Int)) at hc
      generalize (elems s).getD j 0 = m at *
      have hbm := ((HD.out wr HBr.out).2.1 m hm)
      obtain ⟨x0, x1, x2⟩ := (HD.out wr HBr.out).1
      have ho : o < 4096 := by rw [HO.out]; exact HS.out _ 0 (by decide)
      have hy := byL_lt d hn m
      have hor := or16 (a := o) (b := (byL d).getD m 0) (by omega) (by omega)
      change Hid (_ = _ ||| (byL d).getD m 0) at HTK
      generalize (byL d).getD m 0 = y at *
      generalize hq : o ||| y = q at *
      have HQ := hid hq
      clear hq
      go_wp2_with fail
      go_roundw
      case rel => exact ⟨j + 1, q, by go_num, by omega, rfl, by rw [HTK.out, ← HO.out, HQ.out]; rfl, HBr, HBs⟩
      case measure => simp [intOf]; omega
    · obtain rfl : j = n6 := by omega
      have hq : o = d.hit s := by rw [HO.out, HN6.out, List.take_length]; exact HF.out
      subst hq
      go_wp2_with fail
      go_ret
      exact ⟨rfl, HBr.out⟩
set_option maxRecDepth 100000 in
theorem defended_any (D : Nat) (d : Dsp) (s : Nat) (w : World) (hd : DAt w D d) (hn : d.n ≤ 12) (hs : s < 2 ^ d.n) :
    Calls Try.prog 65 #[.pointer (some ⟨D, 0, none⟩), sv s] w fun e w' => e = .returned (sv (d.dfd s)) ∧ Below w.heap.size w w' := by
  have HA : Hid (∀ w', Below w.heap.size w w' → Calls Try.prog 64 #[.pointer (some ⟨D, 0, none⟩), .int .u16 (s : Int)] w' fun e w'' => e = .returned (.int .u16 ((d.hit s : Nat) : Int)) ∧ Below w'.heap.size w' w'') := fun w' hb => attacked_any D d s w' (dAt_below hd hb) hn hs
  have ON : Hid (∀ (i : Nat) (w : World), i < 16 → Calls Try.prog 52 #[.int .i64 i] w fun e w' => e = .returned (.int .u16 ((2 ^ i : Nat) : Int)) ∧ Below w.heap.size w w') := fun i w hi => one_any i w hi
  have HT := hid (dfd_test d s)
  have HALL := hid (dfd_all d s)
  have hhit := lt12 hn (d.hit_lt s)
  have HML : Hid (∀ k, k ≤ d.n → mask (fun i => (d.dfd s).testBit i) k < 4096) := fun k hk => Nat.lt_of_lt_of_le (mask_lt _ _) (pow_small (n := 12) (by omega))
  have HMS : Hid (∀ k, mask (fun i => (d.dfd s).testBit i) (k + 1) = if (d.dfd s).testBit k then mask (fun i => (d.dfd s).testBit i) k ||| 2 ^ k else mask (fun i => (d.dfd s).testBit i) k) := fun k => rfl
  obtain ⟨b1, b2, c1, c2, hfa⟩ := dAt_facts hd
  have HD := hid hfa
  clear hd hfa
  generalize d.hit s = h at *
  generalize d.dfd s = f at *
  unfold sv
  go_enter Try.func65, Try.ntmps65
  go_upto_region 3 with (first | (go_at_call 64; refine (HA.out _ (Below.refl _ _)).mono ?_; rintro e w6 ⟨rfl, hb6⟩; have HB6 := hid hb6; clear hb6) | fail)
  obtain ⟨x0, x1, x2⟩ := (HD.out w6 HB6.out).1
  go_wp2_with fail
  clear x0 x1 x2
  go_loopw [17, 6] (fun iv ov wr => ∃ (i o : Nat), iv = .int .i64 i ∧ i ≤ d.n ∧ ov = .int .u16 o ∧ Hid (o = mask (fun i => f.testBit i) i) ∧ Hid (Below w.heap.size w wr)) (fun iv _ _ => d.n - (intOf iv).toNat)
  case atStart => exact ⟨0, 0, rfl, Nat.zero_le _, rfl, rfl, HB6⟩
  case round =>
    obtain ⟨i, o, rfl, hi, rfl, HO, HBr⟩ := hrel
    by_cases hlt : i < d.n
    · have hbm := ((HD.out wr HBr.out).2.2 i hlt)
      have hy := fromL_lt d hn i
      have ht := HT.out i hlt
      have hd := dif16 (a := (fromL d).getD i 0) (b := h) (by omega) (by omega)
      have HSU := hid (HMS.out i)
      have ho : o < 4096 := by rw [HO.out]; exact HML.out i hi
      have HC := hid (ON.out i wr (by omega))
      have hp : 2 ^ i < 65536 := Nat.lt_of_le_of_lt (pow_small (show i ≤ 12 by omega)) (by decide)
      generalize (fromL d).getD i 0 = y at *
      generalize diff y h = q at *
      cases hb : f.testBit i with
      | false =>
        have h0 : ¬ q = 0 := fun h0 => by rw [h0, hb] at ht; simp at ht
        rw [hb] at HSU
        clear ht hb HC
        go_wp2_with fail
        go_roundw
        case rel => exact ⟨i + 1, o, by go_num, by omega, rfl, by rw [HSU.out]; exact HO.out, HBr⟩
        case measure => simp [intOf]; omega
      | true =>
        have h0 : q = 0 := by rw [hb] at ht; simpa using ht.symm
        subst h0
        rw [hb] at HSU
        have hor := or16 (a := o) (b := 2 ^ i) (by omega) hp
        have HSU2 : Hid (mask (fun i => f.testBit i) (i + 1) = o ||| 2 ^ i) := by rw [HO.out]; exact HSU.out
        generalize 2 ^ i = p at *
        generalize hq : o ||| p = q at *
        clear ht hb hq HSU
        go_wp2_with (first | (go_at_call 52; refine HC.out.mono ?_; rintro e w7 ⟨rfl, hb7⟩; have HB7 := hid (below_step HBr.out hb7); clear hb7) | fail)
        go_roundw
        case rel => exact ⟨i + 1, q, by go_num, by omega, rfl, HSU2.out.symm, HB7⟩
        case measure => simp [intOf]; omega
    · obtain rfl : i = d.n := by omega
      have hq : o = f := by rw [HO.out]; exact HALL.out
      subst hq
      go_wp2_with fail
      go_ret
      exact ⟨rfl, HBr.out⟩
set_option maxRecDepth 100000 in
theorem admissible_any (D : Nat) (d : Dsp) (s : Nat) (w : World) (hd : DAt w D d) (hn : d.n ≤ 12) (hs : s < 2 ^ d.n) :
    Calls Try.prog 75 #[.pointer (some ⟨D, 0, none⟩), sv s] w fun e w' => e = .returned (.bool (d.adm s)) ∧ Below w.heap.size w w' := by
  have HA : Hid (∀ w', Below w.heap.size w w' → Calls Try.prog 64 #[.pointer (some ⟨D, 0, none⟩), .int .u16 (s : Int)] w' fun e w'' => e = .returned (.int .u16 ((d.hit s : Nat) : Int)) ∧ Below w'.heap.size w' w'') := fun w' hb => attacked_any D d s w' (dAt_below hd hb) hn hs
  have HF : Hid (∀ w', Below w.heap.size w w' → Calls Try.prog 65 #[.pointer (some ⟨D, 0, none⟩), .int .u16 (s : Int)] w' fun e w'' => e = .returned (.int .u16 ((d.dfd s : Nat) : Int)) ∧ Below w'.heap.size w' w'') := fun w' hb => defended_any D d s w' (dAt_below hd hb) hn hs
  have hadm : d.adm s = (d.hit s &&& s == 0 && diff s (d.dfd s) == 0) := rfl
  have h1 := lt12 hn (d.hit_lt s)
  have h2 := lt12 hn (d.dfd_lt s)
  have h3 := lt12 hn hs
  have ha := and16 (a := d.hit s) (b := s) (by omega) (by omega)
  have hdf := dif16 (a := s) (b := d.dfd s) (by omega) (by omega)
  rw [hadm]
  generalize d.hit s = h at *
  generalize d.dfd s = f at *
  generalize h &&& s = q at *
  generalize diff s f = r at *
  clear hd hadm
  unfold sv
  by_cases hq : q = 0
  · subst hq
    by_cases hr : r = 0
    · subst hr
      go_enter Try.func75, Try.ntmps75
      go_wp2_with (first | (go_at_call 64; refine (HA.out _ (Below.refl _ _)).mono ?_; rintro e w6 ⟨rfl, hb6⟩; have HB6 := hid hb6; clear hb6) | (go_at_call 65; refine (HF.out _ HB6.out).mono ?_; rintro e w7 ⟨rfl, hb7⟩; have HB7 := hid (below_step HB6.out hb7); clear hb7) | fail)
      go_ret
      exact ⟨rfl, HB7.out⟩
    · go_enter Try.func75, Try.ntmps75
      go_wp2_with (first | (go_at_call 64; refine (HA.out _ (Below.refl _ _)).mono ?_; rintro e w6 ⟨rfl, hb6⟩; have HB6 := hid hb6; clear hb6) | (go_at_call 65; refine (HF.out _ HB6.out).mono ?_; rintro e w7 ⟨rfl, hb7⟩; have HB7 := hid (below_step HB6.out hb7); clear hb7) | fail)
      go_ret
      exact ⟨by simp [natb], HB7.out⟩
  · go_enter Try.func75, Try.ntmps75
    go_wp2_with (first | (go_at_call 64; refine (HA.out _ (Below.refl _ _)).mono ?_; rintro e w6 ⟨rfl, hb6⟩; have HB6 := hid hb6; clear hb6) | fail)
    go_ret
    exact ⟨by simp [hq], HB6.out⟩
end Go.Proofs.Ytaedbkdimpdngaa
