/-
  Speeds (8).
-/
import Derived.Test.YtlhmidecjiihcaaDoorGearE
import Derived.Test.YtlhmidecjiihcaaDoorNums
namespace Go.Proofs.YtlhmidecjiihcaaDoor
open Go.RowKit
/-- the powers of m -/
def pws (m n : Nat) : List Nat := (List.range n).map fun j => m ^ j
theorem pws_len (m n : Nat) : (pws m n).length = n := by unfold pws; simp
theorem pws_at {m n j : Nat} (h : j < n) : (pws m n).getD j 0 = m ^ j := by
  unfold pws
  rw [List.getD_eq_getElem?_getD, List.getElem?_map, List.getElem?_range h]
  rfl
theorem pow_lt {m j : Nat} (hm : m ≤ 12) (hj : j ≤ 5) : m ^ j < 1000000 := by
  have h1 : m ^ j ≤ 12 ^ j := Nat.pow_le_pow_left hm _
  have h2 : 12 ^ j ≤ 12 ^ 5 := Nat.pow_le_pow_right (by decide) hj
  have h3 : (12 : Nat) ^ 5 < 1000000 := by decide
  exact Nat.lt_of_le_of_lt (Nat.le_trans h1 h2) h3
theorem SpL.R {w : World} {G n m : Nat} (h : SpL w G n n m) (hn : n ≤ 1000) : RatR w (.slice (some ⟨G, 0, none⟩) n n) ((pws m n).map (fun k : Nat => (k : Int))) := by
  refine ⟨some ⟨G, 0, none⟩, n, by rw [List.length_map, pws_len], by rw [List.length_map, pws_len]; exact hn, fun i hi => ?_⟩
  rw [List.length_map, pws_len] at hi
  obtain ⟨b, a, c, e, g, d, h0, h1, h2, h3, hz⟩ := h.at i hi
  exact ⟨G, b, a, c, e, g, d, rfl, h0, h1, h2, h3, by rw [getD_nat _ _ (by rw [pws_len]; exact hi), pws_at hi]; exact hz⟩
set_option maxRecDepth 100000 in
set_option maxHeartbeats 4000000 in
theorem gspeeds_any (v : Value) (m b : Nat) (w : World) (n : Nat) (hn : n = b + 1) (hv : IsB w v m b) (hm : 1 ≤ m) (hm2 : m ≤ 12) (hb1 : 1 ≤ b) (hb : b ≤ 5) :
    Calls Tryd.prog 8 #[.int .i64 (n : Int), v] w fun e w' => ∃ x, e = .returned (.tuple #[x, .int .i64 0]) ∧ OwnV w' w.heap.size 23 x ((pws m n).map sd) ∧ Below w.heap.size w w' := by
  have RC := hid (gread_any v m b w hv hm hm2 (by omega))
  rw [← hn] at RC
  obtain ⟨bs, bk, rfl⟩ := hv.sh
  have HV : Hid (∀ w', Below w.heap.size w w' → IsB w' (.slice bs b bk) m b) := fun w' h => hv.below h
  have HN := hid hn
  clear hv hn
  go_enter Tryd.func8, Tryd.ntmps8
  go_wp2_with fail
  go_at_call 23
  refine RC.out.mono ?_
  rintro e w1 ⟨X, rfl, HX, HXW, hb1'⟩
  have HB1 := hid hb1'
  have TC := hid (turns_any m b X bs bk w1 n HN.out HX.out (HV.out w1 hb1') hm hm2 hb1 hb)
  clear hb1' RC
  go_wp2_with fail
  go_at_call 24
  refine TC.out.mono ?_
  rintro e w2 ⟨rfl, hb2⟩
  have HB2 := hid (below_step HB1.out hb2)
  have SC := hid (speeds_any m b X bs bk w2 n HN.out (cells_box HX.out hb2) (HV.out w2 HB2.out) hm hm2 hb1 hb)
  clear hb2 TC
  go_wp2_with fail
  go_at_call 26
  refine SC.out.mono ?_
  rintro e w3 ⟨Gs, Gp, rfl, hsp, -, hb3⟩
  have HB3 := hid (below_step HB2.out hb3)
  have NC := hid (nums_any _ (pws m n) w3 (hsp.R (by have := HN.out; omega)) (fun q hq => by
    unfold pws at hq
    obtain ⟨j, hj, rfl⟩ := List.mem_map.1 hq
    have hj2 := List.mem_range.1 hj
    exact Nat.lt_trans (pow_lt hm2 (by have := HN.out; omega)) (by decide)))
  have HSZ : Hid (w.heap.size ≤ w3.heap.size) := hid HB3.out.size
  clear hsp hb3 SC
  go_wp2_with fail
  go_at_call 27
  refine NC.out.mono ?_
  rintro e w4 ⟨x4, rfl, ho4, hb4⟩
  have HO4 := hid ho4
  have HB4 := hid (below_step HB3.out hb4)
  obtain ⟨s4, n4, k4, rfl⟩ := ownV_sh ho4
  clear ho4 hb4 NC
  go_wp2_with fail
  go_ret2
  exact ⟨_, rfl, ownV_mono HO4.out HSZ.out, HB4.out⟩
end Go.Proofs.YtlhmidecjiihcaaDoor
