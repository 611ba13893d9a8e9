/-
  The mean (18); numbers are told (16) and read (29).
-/
import Derived.Test.YtlhmidecjiihcaaDoorWalkW
namespace Go.Proofs.YtlhmidecjiihcaaDoor
open Go.RowKit
set_option maxRecDepth 100000 in
set_option maxHeartbeats 4000000 in
theorem mean_any (v : Value) (zs : List Int) (w : World) (hv : RatR w v zs) (hb : ∀ i, i ≤ zs.length → (psum 1 (fun j => - zs.getD j 0) i).natAbs < 2147483648) (he : ∀ i, i < zs.length → (zs.getD i 0).natAbs < 2147483648)
    (h2 : ∀ i, i ≤ zs.length → (psum 0 (fun j => ((List.range zs.length).map (psum 1 (fun j => - zs.getD j 0))).getD j 0) i).natAbs < 2147483648) :
    Calls Tryd.prog 18 #[v] w fun e w' => ∃ x, e = .returned x ∧ RatZ w' x (psum 0 (fun j => ((List.range zs.length).map (psum 1 (fun j => - zs.getD j 0))).getD j 0) zs.length) ∧ Below w.heap.size w w' := by
  have hl : zs.length ≤ 1000 := by obtain ⟨_, _, _, h, _⟩ := hv; exact h
  obtain ⟨L, hL⟩ : ∃ L, L = ((List.range zs.length).map (psum 1 (fun j => - zs.getD j 0))) := ⟨_, rfl⟩
  have hLl : L.length = zs.length := by rw [hL]; simp
  have HLL : Hid (L.length ≤ 1000) := hid (by omega)
  have HR1 := hid (heap_alloc_new w (.cells #[.bool false, .slice none 0 0, .bool false, .slice none 0 0] 54))
  have HB1 := hid (ba w (.cells #[.bool false, .slice none 0 0, .bool false, .slice none 0 0] 54))
  have AB := hid (above_any v zs _ (hv.below HB1.out) hb he)
  rw [← hL] at h2 ⊢ AB
  have SM : Hid (∀ w' x, RatR w' x L → Calls Tryd.prog 30 #[x] w' fun e w'' => ∃ x, e = .returned x ∧ RatZ w'' x (psum 0 (fun j => L.getD j 0) zs.length) ∧ Below w'.heap.size w' w'') := fun w' x h => by
    rw [← hLl]
    refine sum_any x L w' h (fun i hi => h2 i (by omega)) (fun i hi => ?_)
    rw [hL, List.getD_eq_getElem?_getD, List.getElem?_map, List.getElem?_range (by omega)]
    exact hb i (by omega)
  obtain ⟨s, k, rfl⟩ := hv.sh
  obtain ⟨z, hz⟩ : ∃ z, z = psum 0 (fun j => L.getD j 0) zs.length := ⟨_, rfl⟩
  rw [← hz] at SM ⊢
  clear hv hb he h2 hL hLl hz
  generalize zs.length = m at *
  go_enter Tryd.func18, Tryd.ntmps18
  go_upto_region 1 with fail
  generalize w.alloc (.cells #[.bool false, .slice none 0 0, .bool false, .slice none 0 0] 54) = w1 at *
  go_wp2_with fail
  go_at_call 35
  refine AB.out.mono ?_
  rintro e w2 ⟨x2, rfl, hl2, hb2⟩
  have HB2 := hid (below_step HB1.out hb2)
  have HR2 := hid (cells_box HR1.out hb2)
  have SM2 := hid (SM.out w2 _ (hl2.R HLL.out))
  obtain ⟨s2, n2, k2, rfl⟩ := hl2.sh3
  clear hl2 hb2
  go_wp2_with fail
  go_at_call 30
  refine SM2.out.mono ?_
  rintro e w3 ⟨x3, rfl, hz3, hb3⟩
  have HB3 := hid (below_step HB2.out hb3)
  have HR3 := hid (cells_box HR2.out hb3)
  have HZ3 := hid hz3
  obtain ⟨a3, n3, c3, g3, d3, hx3, _, _⟩ := hz3
  obtain ⟨b3, hb3e⟩ : ∃ b3 : Bool, b3 = decide (z < 0) := ⟨_, rfl⟩
  rw [← hb3e] at hx3
  subst hx3
  clear hb3 hb3e
  obtain ⟨r0, r1, r2, r3⟩ := cells4_of HR3.out
  have f0 := free_box HR3.out 0
  have f1 := free_box HR3.out 1
  have f2 := free_box HR3.out 2
  have f3 := free_box HR3.out 3
  go_wp2_with fail
  exact bodyPost_ret (v := .agg #[.bool b3, .slice a3 n3 c3, .bool false, .slice (some ⟨g3, 0, none⟩) 1 d3]) (by simp [results, Tryd.results18, go_sem, r0, r1, r2, r3]) rfl
    ⟨_, rfl, HZ3.out.off (off_bool r0) (put4_off (b := b3) (p := a3) (n := n3) (c := c3) (e := false) (q := some ⟨g3, 0, none⟩) (m := 1) (d := d3)), put4_below (b := b3) (p := a3) (n := n3) (c := c3) (e := false) (q := some ⟨g3, 0, none⟩) (m := 1) (d := d3) HB3.out (Nat.le_refl _)⟩
/-- a number as a string -/
def sd (k : Nat) : Value := .string ⟨(dec k).toArray⟩
theorem info23 : (Tryd.prog.info? 23).map (fun i => (i.zero, i.size, i.bytes)) = some (some (.string ⟨#[]⟩), 1, 16) := by kernel_rfl
theorem getD_nat (ks : List Nat) (i : Nat) (h : i < ks.length) : (ks.map (fun k : Nat => (k : Int))).getD i 0 = ((ks.getD i 0 : Nat) : Int) := by
  rw [List.getD_eq_getElem?_getD, List.getElem?_map, List.getElem?_eq_getElem h, List.getD_eq_getElem?_getD, List.getElem?_eq_getElem h]; rfl
set_option maxRecDepth 100000 in
set_option maxHeartbeats 4000000 in
theorem told_any (v : Value) (ks : List Nat) (w : World) (hv : RatR w v (ks.map (fun k : Nat => (k : Int)))) (hk : ∀ k ∈ ks, k < 1000000000) :
    Calls Tryd.prog 16 #[v] w fun e w' => ∃ x, e = .returned (.tuple #[x, .int .i64 0]) ∧ OwnV w' w.heap.size 23 x (ks.map sd) ∧ Below w.heap.size w w' := by
  obtain ⟨s, k, rfl⟩ := hv.sh
  rw [List.length_map] at hv ⊢
  have HV : Hid (∀ w', Below w.heap.size w w' → RatR w' (.slice s ks.length k) (ks.map (fun k : Nat => (k : Int)))) := fun w' h => hv.below h
  obtain ⟨m, hm⟩ : ∃ m, m = ks.length := ⟨_, rfl⟩
  have hm1 : m ≤ 1000 := by obtain ⟨_, _, _, h, _⟩ := hv; rw [List.length_map] at h; omega
  have HM := hid hm
  rw [← hm] at HV ⊢
  clear hm hv
  go_enter Tryd.func16, Tryd.ntmps16
  go_wp2_with fail
  go_loopw [4, 11] (fun ov iv wr => ∃ i : Nat, iv = .int .i64 i ∧ i ≤ m ∧ Hid (Below w.heap.size w wr) ∧ (∃ s l k, ov = .slice s l k) ∧ Hid (OwnV wr w.heap.size 23 ov ((ks.take i).map sd))) (fun _ iv _ => m - (intOf iv).toNat)
  case atStart => exact ⟨0, rfl, Nat.zero_le _, Below.refl _ _, ⟨_, _, _, rfl⟩, ownV_nil _ _ _⟩
  case round =>
    obtain ⟨i, rfl, hi, HBr, ⟨os, ol, ok, rfl⟩, HOr⟩ := hrel
    by_cases hlt : i < m
    · obtain ⟨G, b5, a5, n5, c5, g5, d5, rfl, e0, e1, e2, e3, hz5⟩ := (HV.out wr HBr.out).at i (by rw [List.length_map, ← HM.out]; exact hlt)
      rw [getD_nat _ _ (by rw [← HM.out]; exact hlt)] at hz5
      have hkk : ks.getD i 0 < 1000000000 := hk _ (by rw [List.getD_eq_getElem?_getD, List.getElem?_eq_getElem (by rw [← HM.out]; exact hlt)]; exact List.getElem_mem _)
      obtain ⟨q, hq⟩ : ∃ q, q = ks.getD i 0 := ⟨_, rfl⟩
      rw [← hq] at hz5 hkk
      have HQ := hid hq
      have HZ5 := hid hz5
      have HB5 := hid (ba wr (.cells #[.bool b5, .slice a5 n5 c5, .bool false, .slice (some ⟨g5, 0, none⟩) 1 d5] 54))
      have NC := hid (rnum_any _ q _ (hz5.below HB5.out) hkk)
      obtain ⟨y0, y1, y2, y3⟩ := cells4_of (heap_alloc_new wr (.cells #[.bool b5, .slice a5 n5 c5, .bool false, .slice (some ⟨g5, 0, none⟩) 1 d5] 54))
      have HBr5 := hid (below_step HBr.out HB5.out)
      have HO5 := hid (ownV_below HOr.out HB5.out)
      have HLn : Hid (((ks.take i).map sd).length < 1000000) := by show _ < _; rw [List.length_map, List.length_take]; omega
      clear hz5 hq hkk
      go_upto_region 5 with fail
      clear e0 e1 e2 e3
      generalize wr.alloc (.cells #[.bool b5, .slice a5 n5 c5, .bool false, .slice (some ⟨g5, 0, none⟩) 1 d5] 54) = w5 at *
      go_wp2_with fail
      go_at_call 19
      refine NC.out.mono ?_
      rintro e w6 ⟨rfl, hb6⟩
      have HBr6 := hid (below_step HBr5.out hb6)
      have HO6 := hid (ownV_below HO5.out hb6)
      have HSZ : Hid (w.heap.size ≤ w6.heap.size) := HBr6.out.size
      clear hb6 y0 y1 y2 y3 HBr5 HO5 NC HBr HOr HB5 HZ5
      go_wp2_with (first
        | (at_builtin; refine wpl_app_v 22 23 (.string ⟨#[]⟩) 16 info23 rfl (by kernel_rfl) (by decide) (.string ⟨(dec q).toArray⟩) rfl _ _ (.slice os ol ok) w.heap.size ((ks.take i).map sd) (by rfl) (by rfl) (by rfl) (by rfl) HO6.out HLn.out HSZ.out ?_; intro v' w7 ho7 hb7 hg7; have HO7 := hid ho7; have HB7 := hid (HBr6.out.trans hb7); obtain ⟨sa, sn, sc, rfl⟩ := ownV_sh ho7; clear ho7 hb7 hg7)
        | fail)
      go_roundw
      case rel =>
        refine ⟨i + 1, by go_num, by omega, HB7, ⟨_, _, _, rfl⟩, ?_⟩
        show OwnV _ _ _ _ _
        rw [take_snoc _ 0 _ (by rw [← HM.out]; exact hlt), List.map_append, List.map_cons, List.map_nil, ← HQ.out]
        exact HO7.out
      case measure => simp [intOf]; omega
    · obtain rfl : i = m := by omega
      go_wp2_with fail
      go_ret2
      exact ⟨_, rfl, by have h := HOr.out; rwa [List.take_of_length_le (by rw [← HM.out]; exact Nat.le_refl _)] at h, HBr.out⟩
theorem parse_any (k : Nat) (hk : k < 2) (w : World) : Calls Tryd.prog 44 #[sd k] w fun e w' => ∃ x, e = .returned (.tuple #[x, .bool true]) ∧ RatZ w' x k ∧ Below w.heap.size w w' := by
  rcases (by omega : k = 0 ∨ k = 1) with rfl | rfl
  · exact parse_0 w
  · exact parse_1 w
set_option maxRecDepth 100000 in
set_option maxHeartbeats 4000000 in
theorem numbers_any (v : Value) (ks : List Nat) (w : World) (hv : IsV w v (ks.map sd)) (hk : ∀ k ∈ ks, k < 2) (hl : ks.length ≤ 900) :
    Calls Tryd.prog 29 #[v] w fun e w' => ∃ x, e = .returned (.tuple #[x, .bool true]) ∧ RatL w' w.heap.size x (ks.map (fun k : Nat => (k : Int))) ∧ Below w.heap.size w w' := by
  obtain ⟨s, k, rfl⟩ := isV_slice hv
  rw [List.length_map] at hv ⊢
  have HV : Hid (∀ w', Below w.heap.size w w' → IsV w' (.slice s ks.length k) (ks.map sd)) := fun w' h => isV_below hv h
  obtain ⟨m, hm⟩ : ∃ m, m = ks.length := ⟨_, rfl⟩
  have HM := hid hm
  rw [← hm] at HV hl ⊢
  clear hm hv
  go_enter Tryd.func29, Tryd.ntmps29
  go_wp2_with fail
  go_loopw [4, 11] (fun ov iv wr => ∃ i : Nat, iv = .int .i64 i ∧ i ≤ m ∧ Hid (Below w.heap.size w wr) ∧ (∃ s l k, ov = .slice s l k) ∧ Hid (RatL wr w.heap.size ov ((ks.take i).map (fun k : Nat => (k : Int))))) (fun _ iv _ => m - (intOf iv).toNat)
  case atStart => exact ⟨0, rfl, Nat.zero_le _, Below.refl _ _, ⟨_, _, _, rfl⟩, RatL.nil _ _⟩
  case round =>
    obtain ⟨i, rfl, hi, HBr, ⟨os, ol, ok, rfl⟩, HOr⟩ := hrel
    by_cases hlt : i < m
    · obtain ⟨G, rfl, -, e0⟩ := isV_at (HV.out wr HBr.out) i (by rw [List.length_map, ← HM.out]; exact hlt)
      rw [getD_map sd ks 0 i (by rw [← HM.out]; exact hlt)] at e0
      have hkk : ks.getD i 0 < 2 := hk _ (by rw [List.getD_eq_getElem?_getD, List.getElem?_eq_getElem (by rw [← HM.out]; exact hlt)]; exact List.getElem_mem _)
      obtain ⟨q, hq⟩ : ∃ q, q = ks.getD i 0 := ⟨_, rfl⟩
      rw [← hq] at e0 hkk
      have HQ := hid hq
      have PC := hid (parse_any q hkk wr)
      have HLn : Hid (((ks.take i).map (fun k : Nat => (k : Int))).length < 1000) := by show _ < _; rw [List.length_map, List.length_take]; omega
      obtain ⟨sq, hsq⟩ : ∃ b, b = (⟨(dec q).toArray⟩ : ByteArray) := ⟨_, rfl⟩
      have hsd : sd q = .string sq := by rw [hsq]; rfl
      rw [hsd] at PC e0
      clear hq hkk hsq hsd
      go_wp2_with fail
      go_at_call 44
      refine PC.out.mono ?_
      rintro e w5 ⟨x5, rfl, hz5, hb5⟩
      have HZ5 := hid hz5
      have HBr5 := hid (below_step HBr.out hb5)
      have HO5 := hid (HOr.out.below hb5)
      obtain ⟨a5, n5, c5, g5, d5, hx5, _, _⟩ := hz5
      obtain ⟨b5, hb5e⟩ : ∃ b5 : Bool, b5 = decide ((q : Int) < 0) := ⟨_, rfl⟩
      rw [← hb5e] at hx5
      subst hx5
      clear hb5 hb5e e0
      have HB6 := ba w5 (.cells #[.bool b5, .slice a5 n5 c5, .bool false, .slice (some ⟨g5, 0, none⟩) 1 d5] 54)
      have HBr6 := hid (below_step HBr5.out HB6)
      have HO6 := hid (HO5.out.below HB6)
      have HZ6 := hid (HZ5.out.below HB6)
      obtain ⟨y0, y1, y2, y3⟩ := cells4_of (heap_alloc_new w5 (.cells #[.bool b5, .slice a5 n5 c5, .bool false, .slice (some ⟨g5, 0, none⟩) 1 d5] 54))
      have HSZ : Hid (w.heap.size ≤ (w5.alloc (.cells #[.bool b5, .slice a5 n5 c5, .bool false, .slice (some ⟨g5, 0, none⟩) 1 d5] 54)).heap.size) := HBr6.out.size
      clear HB6 HBr5 HO5 HZ5 HBr HOr PC
      go_upto_region 6 with fail
      generalize w5.alloc (.cells #[.bool b5, .slice a5 n5 c5, .bool false, .slice (some ⟨g5, 0, none⟩) 1 d5] 54) = w6 at *
      go_wp2_with (first
        | (at_builtin; refine wpl_app_r b5 a5 n5 c5 g5 d5 (q : Int) _ _ (.slice os ol ok) w.heap.size ((ks.take i).map (fun k : Nat => (k : Int))) (by rfl) (by rfl) (by rfl) (by rfl) HO6.out HZ6.out HLn.out HSZ.out ?_; intro v' w7 HO7 HB7 _ _; clear y0 y1 y2 y3; obtain ⟨sa, sn, sc, rfl⟩ := HO7.out.sh3)
        | fail)
      go_roundw
      case rel =>
        refine ⟨i + 1, by go_num, by omega, HBr6.out.trans HB7.out, ⟨_, _, _, rfl⟩, ?_⟩
        show RatL _ _ _ _
        rw [take_snoc _ 0 _ (by rw [← HM.out]; exact hlt), List.map_append, List.map_cons, List.map_nil, ← HQ.out]
        exact HO7.out
      case measure => simp [intOf]; omega
    · obtain rfl : i = m := by omega
      go_wp2_with fail
      go_ret2
      exact ⟨_, rfl, by have h := HOr.out; rwa [List.take_of_length_le (by rw [← HM.out]; exact Nat.le_refl _)] at h, HBr.out⟩
end Go.Proofs.YtlhmidecjiihcaaDoor
