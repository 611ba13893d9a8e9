/-
  Concat (20), Reverse (18), Compare (21).
-/
import Derived.Test.YtppkgilpmmhpoaaDoorWalkO
import Derived.Test.YtppkgilpmmhpoaaDoorShelf
import Derived.Sort.OwnSortedInts
namespace Go.Proofs.YtppkgilpmmhpoaaDoor
open Go.RowKit
/-- a rotation of numbers -/
def rotL (m i : Nat) (z : Nat → Int) : List Value := (List.range (m - i)).map (fun j => .int .i64 (z (i + j))) ++ (List.range i).map (fun j => .int .i64 (z j))
theorem rotL_len {m i : Nat} {z : Nat → Int} (h : i ≤ m) : (rotL m i z).length = m := by simp [rotL]; omega
theorem rotL_at {m i j : Nat} {z : Nat → Int} (hi : i < m) (hj : j < m) : (rotL m i z).getD j undef = .int .i64 (z ((j + i) % m)) := by
  unfold rotL
  rw [List.getD_eq_getElem?_getD]
  by_cases h : j < m - i
  · rw [List.getElem?_append_left (by simpa using h), List.getElem?_map, List.getElem?_range h]
    rw [Nat.mod_eq_of_lt (by omega), Nat.add_comm j i]; rfl
  · rw [List.getElem?_append_right (by simp; omega), List.getElem?_map, List.length_map, List.length_range, List.getElem?_range (by omega)]
    have e : (j + i) % m = j - (m - i) := by
      rw [Nat.mod_eq_sub_mod (by omega), Nat.mod_eq_of_lt (by omega)]; omega
    rw [e]; rfl
set_option maxRecDepth 100000 in
set_option maxHeartbeats 4000000 in
theorem concat_any (m b i c1 c2 sb sc : Nat) (z : Nat → Int) (w : World) (hm : 1 ≤ m ∧ m ≤ 20) (hi : i < m) (h0 : w.cell? ⟨sb, 0, none⟩ = some (.slice (some ⟨b, i, none⟩) (m - i) c1)) (h1 : w.cell? ⟨sb, 1, none⟩ = some (.slice (some ⟨b, 0, none⟩) i c2)) (hz : ∀ j, j < m → w.cell? ⟨b, j, none⟩ = some (.int .i64 (z j))) :
    Calls Tryd.prog 20 #[.slice (some ⟨sb, 0, none⟩) 2 sc] w fun e w' => ∃ v, e = .returned v ∧ OwnV w' w.heap.size 3 v (rotL m i z) ∧ Below w.heap.size w w' := by
  obtain ⟨hm1, hm2⟩ := hm
  have HK : Hid (∀ w', Below w.heap.size w w' → w'.cell? ⟨sb, 0, none⟩ = some (.slice (some ⟨b, i, none⟩) (m - i) c1) ∧ w'.cell? ⟨sb, 1, none⟩ = some (.slice (some ⟨b, 0, none⟩) i c2)) := fun w' hb => ⟨(hb.cell (World.block_lt_of_cell? w _ h0)).trans h0, (hb.cell (World.block_lt_of_cell? w _ h1)).trans h1⟩
  have HR1 : Hid (∀ w', Below w.heap.size w w' → Rd w' (.slice (some ⟨b, i, none⟩) (m - i) c1) (m - i) 1 ((List.range (m - i)).map (fun j => .int .i64 (z (i + j))))) := fun w' hb => by
    refine ⟨by simp, fun u hu => ?_, .inr ⟨_, _, rfl, fun _ => ?_, fun j u hj => ?_⟩⟩
    · rw [List.mem_map] at hu
      obtain ⟨_, _, rfl⟩ := hu; rfl
    · exact Nat.lt_of_lt_of_le (World.block_lt_of_cell? w _ (hz i hi)) hb.size
    · have hj2 : j < m - i := by have := (List.getElem?_eq_some_iff.1 hj).1; simpa using this
      have hadd : (⟨b, i, none⟩ : Addr).add j = ⟨b, i + j, none⟩ := by unfold Addr.add; split <;> simp_all
      rw [List.getElem?_map, List.getElem?_range hj2] at hj
      cases hj
      rw [hadd]
      exact (hb.cell (World.block_lt_of_cell? w _ (hz _ (by omega)))).trans (hz _ (by omega))
  have HR2 : Hid (∀ w', Below w.heap.size w w' → Rd w' (.slice (some ⟨b, 0, none⟩) i c2) i 1 ((List.range i).map (fun j => .int .i64 (z j)))) := fun w' hb => by
    refine ⟨by simp, fun u hu => ?_, .inr ⟨_, _, rfl, fun _ => ?_, fun j u hj => ?_⟩⟩
    · rw [List.mem_map] at hu
      obtain ⟨_, _, rfl⟩ := hu; rfl
    · exact Nat.lt_of_lt_of_le (World.block_lt_of_cell? w _ (hz 0 (by omega))) hb.size
    · have hj2 : j < i := by have := (List.getElem?_eq_some_iff.1 hj).1; simpa using this
      have hadd : (⟨b, 0, none⟩ : Addr).add j = ⟨b, j, none⟩ := by unfold Addr.add; split <;> simp_all
      rw [List.getElem?_map, List.getElem?_range hj2] at hj
      cases hj
      rw [hadd]
      exact (hb.cell (World.block_lt_of_cell? w _ (hz _ (by omega)))).trans (hz _ (by omega))
  have HL1 : Hid (((List.range (m - i)).map (fun j => (Value.int .i64 (z (i + j))))).length ≤ 1000000 ∧ i ≤ 1000000) := by
    refine ⟨?_, by omega⟩
    rw [List.length_map, List.length_range]; omega
  have HL0 : Hid (([] : List Value).length ≤ 1000000 ∧ m - i ≤ 1000000) := ⟨by simp, by omega⟩
  have GR := hid (grow_any m w ⟨hm1, by omega⟩)
  have k01 := HK.out w (Below.refl _ _)
  obtain ⟨k0, k1⟩ := k01
  obtain ⟨d, hd⟩ : ∃ d, d = m - i := ⟨_, rfl⟩
  have HDM : Hid (d + i = m) := by show _ = _; omega
  have hdm : (d : Int) + (i : Int) = (m : Int) := by omega
  have hd20 : d ≤ 20 := by omega
  have hd0 : (0 : Int) ≤ (d : Int) := by omega
  have HDE := hid hd
  rw [← hd] at HK HR1 HL0 k0
  clear h0 h1 hz hd
  go_enter Tryd.func20, Tryd.ntmps20
  go_wp2_with fail
  have HDA := hid hdm
  clear hdm
  go_loop [3, 11] (fun sv kv => (kv = .int .i64 0 ∧ sv = .int .i64 0) ∨ (kv = .int .i64 1 ∧ sv = .int .i64 (d : Int)) ∨ (kv = .int .i64 2 ∧ sv = .int .i64 (m : Int))) (fun _ kv => 2 - (intOf kv).toNat)
  case atStart => exact .inl ⟨rfl, rfl⟩
  case round =>
    rcases hrel with ⟨rfl, rfl⟩ | ⟨rfl, rfl⟩ | ⟨rfl, rfl⟩
    · have e0 : decide ((d : Int) < 0) = false := decide_eq_false (by omega)
      go_wp2_with fail
      go_round
      case rel => exact .inr (.inl ⟨rfl, rfl⟩)
      case measure => simp [intOf]
    · have e0 : decide ((m : Int) < 0) = false := decide_eq_false (by omega)
      have e1 : IntKind.i64.wrap ((d : Int) + (i : Int)) = (m : Int) := by rw [HDA.out, IntKind.wrap_i64]; omega
      go_wp2_with fail
      go_round
      case rel => exact .inr (.inr ⟨rfl, rfl⟩)
      case measure => simp [intOf]
    · clear k0 k1
      go_upto_region 10 with (first | (go_at_call 29; refine GR.out.mono ?_; rintro e w1 ⟨v, rfl, ho1, hb1⟩; obtain ⟨va, vn, vc, rfl⟩ := ownV_sh ho1; have HO1 := hid ho1; have HB1 := hid hb1; clear ho1 hb1) | fail)
      have k01 := HK.out w1 HB1.out
      obtain ⟨k0, k1⟩ := k01
      go_wp2_with fail
      clear k0 k1
      go_loopw [6, 27] (fun v kv wr => Hid (Below w.heap.size w wr) ∧ ((kv = .int .i64 0 ∧ Hid (OwnV wr w.heap.size 3 v [])) ∨ (kv = .int .i64 1 ∧ Hid (OwnV wr w.heap.size 3 v ((List.range (m - i)).map (fun j => .int .i64 (z (i + j)))))) ∨ (kv = .int .i64 2 ∧ Hid (OwnV wr w.heap.size 3 v (rotL m i z))))) (fun _ kv _ => 2 - (intOf kv).toNat)
      case atStart => exact ⟨HB1, .inl ⟨rfl, HO1⟩⟩
      case round =>
        obtain ⟨HBr, hr⟩ := hrel
        rename World => wr
        have k01 := HK.out wr HBr.out
        obtain ⟨k0, k1⟩ := k01
        rcases hr with ⟨rfl, HO⟩ | ⟨rfl, HO⟩ | ⟨rfl, HO⟩
        · obtain ⟨oa, on, oc, rfl⟩ := ownV_sh HO.out
          have HRR := hid (HR1.out wr HBr.out)
          rw [HDE.out] at HRR
          go_wp2_with (first
            | (at_builtin; refine wpl_app_rd _ _ (.slice oa on oc) w.heap.size [] _ _ _ (by rfl) (by rfl) (by rfl) (by rfl) HO.out (HR1.out wr HBr.out) HL0.out HBr.out.size ?_; intro v' w7 ho7 hg7; have HO7 := hid ho7; have HB7 := hid (Below.grown HBr.out hg7 HBr.out.size (fun b hb => (ownV_lt HO.out b hb).1)); obtain ⟨sa, sn, sc', rfl⟩ := ownV_sh ho7; clear ho7 hg7)
            | fail)
          go_roundw
          case rel => exact ⟨HB7, .inr (.inl ⟨rfl, by have h := HO7.out; rw [List.nil_append, HDE.out] at h; exact h⟩)⟩
          case measure => simp [intOf]
        · obtain ⟨oa, on, oc, rfl⟩ := ownV_sh HO.out
          go_wp2_with (first
            | (at_builtin; refine wpl_app_rd _ _ (.slice oa on oc) w.heap.size _ _ _ _ (by rfl) (by rfl) (by rfl) (by rfl) HO.out (HR2.out wr HBr.out) HL1.out HBr.out.size ?_; intro v' w7 ho7 hg7; have HO7 := hid ho7; have HB7 := hid (Below.grown HBr.out hg7 HBr.out.size (fun b hb => (ownV_lt HO.out b hb).1)); obtain ⟨sa, sn, sc', rfl⟩ := ownV_sh ho7; clear ho7 hg7)
            | fail)
          go_roundw
          case rel => exact ⟨HB7, .inr (.inr ⟨rfl, HO7⟩)⟩
          case measure => simp [intOf]
        · go_wp2_with fail
          go_ret
          exact ⟨_, rfl, HO.out, HBr.out⟩
open Go.Sort in
/-- an own slice of numbers, turned round -/
theorem reverse_any (B g c : Nat) (zs : List Int) (w : World) (ho : OwnV w B 3 (.slice (some ⟨g, 0, none⟩) zs.length c) (zs.map (.int .i64))) :
    Calls Tryd.prog 18 #[.slice (some ⟨g, 0, none⟩) zs.length c] w fun e w' => e = .returned (.tuple #[]) ∧ OwnV w' B 3 (.slice (some ⟨g, 0, none⟩) zs.length c) (zs.reverse.map (.int .i64)) ∧ w.grownBy w' (some g) := by
  unfold OwnV at ho ⊢
  rw [List.length_map] at ho ⊢
  obtain ⟨h1, ⟨h2, _⟩ | ⟨g', cap, cur, hv, hB, hh, hn, hm, hs, ht⟩⟩ := ho
  · cases h2
  · cases hv
    rw [Nat.mul_one] at ht
    have hH : Holds (Value.int .i64) w g 0 zs.toArray := holds_of_blockI hh ht
    refine (Tryd.slices_Reverse_int g 0 c zs w hH (by unfold maxLen at hm; omega)).mono ?_
    rintro e w' ⟨rfl, n, rfl⟩
    have e1 : putRow (Value.int .i64) (Sort.ahead w n) g 0 zs.reverse.toArray = grow (putRow (Value.int .i64) (Sort.ahead w n) g 0 zs.reverse.toArray) #[] := (grow_empty _).symm
    refine ⟨rfl, ?_, ?_⟩
    · rw [e1, List.length_reverse]
      exact ownsRow_sortedI (ss := zs) (ts := zs.reverse) (by simp) hB hh hn hm hs
    · rw [e1]
      exact grownBy_sortedI _
set_option maxRecDepth 100000 in
set_option maxHeartbeats 4000000 in
/-- two slices that read as the same numbers -/
theorem compare_any (m g1 c1 g2 c2 : Nat) (z : Nat → Int) (w : World) (hm : m ≤ 20) (h1 : ∀ j, j < m → w.cell? ⟨g1, j, none⟩ = some (.int .i64 (z j))) (h2 : ∀ j, j < m → w.cell? ⟨g2, j, none⟩ = some (.int .i64 (z j))) :
    Calls Tryd.prog 21 #[.slice (some ⟨g1, 0, none⟩) m c1, .slice (some ⟨g2, 0, none⟩) m c2] w fun e w' => e = .returned (.int .i64 0) ∧ Below w.heap.size w w' := by
  have H1 : Hid (∀ w' j, Below w.heap.size w w' → j < m → w'.cell? ⟨g1, j, none⟩ = some (.int .i64 (z j))) := fun w' j hb hj => (hb.cell (World.block_lt_of_cell? w _ (h1 j hj))).trans (h1 j hj)
  have H2 : Hid (∀ w' j, Below w.heap.size w w' → j < m → w'.cell? ⟨g2, j, none⟩ = some (.int .i64 (z j))) := fun w' j hb hj => (hb.cell (World.block_lt_of_cell? w _ (h2 j hj))).trans (h2 j hj)
  clear h1 h2
  go_enter Tryd.func21, Tryd.ntmps21
  go_wp2_with fail
  go_loopw [11] (fun iv wr => ∃ i : Nat, iv = .int .i64 i ∧ i ≤ m ∧ Hid (Below w.heap.size w wr)) (fun iv _ => m - (intOf iv).toNat)
  case atStart => exact ⟨0, rfl, Nat.zero_le _, Below.refl _ _⟩
  case round =>
    obtain ⟨i, rfl, hi, HBr⟩ := hrel
    rename World => wr
    by_cases hlt : i < m
    · have q1 := H1.out wr i HBr.out hlt
      have q2 := H2.out wr i HBr.out hlt
      generalize z i = y at *
      have CC := hid (Tryd.cmp_Compare_int y y wr)
      rw [show Lib.compareInt y y = 0 by simp [Lib.compareInt]] at CC
      go_wp2_with (first | (go_at_call 30; refine CC.out.mono ?_; rintro e w3 hw3; obtain ⟨rfl, hw⟩ := hw3; have HB3 : Hid (Below w.heap.size w w3) := (by first | (subst hw; exact HBr.out) | (rw [hw]; exact HBr.out) | (rw [← hw]; exact HBr.out)); clear hw) | fail)
      go_roundw
      case rel => exact ⟨i + 1, by go_num, by omega, HB3⟩
      case measure => simp [intOf]; omega
    · obtain rfl : m = i := by omega
      go_wp2_with fail
      go_ret
      exact ⟨rfl, HBr.out⟩
end Go.Proofs.YtppkgilpmmhpoaaDoor
