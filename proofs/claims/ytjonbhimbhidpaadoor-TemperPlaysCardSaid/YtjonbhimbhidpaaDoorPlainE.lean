/-
  Plain facts of chapter 6: what the statements cut.
-/
import Derived.Test.YtjonbhimbhidpaaDoorBaseG
import Derived.Test.YtjonbhimbhidpaaDoorWalkW
namespace Go.Proofs.YtjonbhimbhidpaaDoor
open Go.RowKit
/-- what the statements cut of an oven -/
def cutOv (o : Ov) : Ov := ⟨(o.safe.take 5).map cutStrs, o.moves.take 17, o.jolts.take 5⟩
theorem cutStr_len (s : Str) : (cutStr s).length ≤ 17 := by
  unfold cutStr
  split <;> rw [List.length_take] <;> omega
theorem short_cutStrs (xs : List Str) : ∀ s ∈ cutStrs xs, s.length ≤ 17 := by
  intro s hs
  unfold cutStrs at hs
  rw [List.mem_map] at hs
  obtain ⟨t, _, rfl⟩ := hs
  exact cutStr_len t
theorem short_cutG (g : Grid) (n : Nat) : ShortG ((g.take n).map cutStrs) := by
  intro p hp s hs
  rw [List.mem_map] at hp
  obtain ⟨q, _, rfl⟩ := hp
  have := short_cutStrs q s hs
  omega
theorem num_cut {o : Ov} (h : o.Big) : (cutOv o).Num :=
  ⟨fun m hm => h.mv m (List.mem_of_mem_take hm), fun j hj => h.jl j (List.mem_of_mem_take hj), short_cutG o.safe 5⟩
/-- arguments that lie below -/
theorem argMv_below {w w' : World} {v : Value} {ms : List Mv} (h : ArgMv w v ms) (hb : Below w.heap.size w w') : ArgMv w' v ms := by
  obtain ⟨hl, a, c, rfl, h1, h2, h3⟩ := h
  refine ⟨hl, a, c, rfl, h1, h2, ?_⟩
  rcases h3 with h3 | ⟨ad, rfl, hlt, hc⟩
  · exact .inl h3
  · refine .inr ⟨ad, rfl, fun h0 => Nat.lt_of_lt_of_le (hlt h0) hb.size, fun j u hj => ?_⟩
    have h0 : 0 < ms.length := by
      rcases Nat.eq_zero_or_pos ms.length with h | h
      · rw [List.length_eq_zero_iff.1 h] at hj; simp [mcells] at hj
      · exact h
    exact (hb.cell (by rw [add_block]; exact hlt h0)).trans (hc j u hj)
theorem argJl_below {w w' : World} {v : Value} {ms : List (Int × Int)} (h : ArgJl w v ms) (hb : Below w.heap.size w w') : ArgJl w' v ms := by
  obtain ⟨hl, a, c, rfl, h1, h2, h3⟩ := h
  refine ⟨hl, a, c, rfl, h1, h2, ?_⟩
  rcases h3 with h3 | ⟨ad, rfl, hlt, hc⟩
  · exact .inl h3
  · refine .inr ⟨ad, rfl, fun h0 => Nat.lt_of_lt_of_le (hlt h0) hb.size, fun j u hj => ?_⟩
    have h0 : 0 < ms.length := by
      rcases Nat.eq_zero_or_pos ms.length with h | h
      · rw [List.length_eq_zero_iff.1 h] at hj; simp [jcells] at hj
      · exact h
    exact (hb.cell (by rw [add_block]; exact hlt h0)).trans (hc j u hj)
theorem argGrid_below {w w' : World} {v : Value} {g : Grid} (h : ArgGrid w v g) (hb : Below w.heap.size w w') : ArgGrid w' v g := by
  obtain ⟨a, c, rfl, hl, hc⟩ := h
  refine ⟨a, c, rfl, hl, fun i hi => ?_⟩
  obtain ⟨ad, u, ha, hlt, h1, h2⟩ := hc i hi
  exact ⟨ad, u, ha, Nat.lt_of_lt_of_le hlt hb.size, (hb.cell (by rw [add_block]; exact hlt)).trans h1, argStrs_below h2 hb⟩
theorem argOv_below {w w' : World} {vs vm vj : Value} {o : Ov} (h : ArgOv w vs vm vj o) (hb : Below w.heap.size w w') : ArgOv w' vs vm vj o :=
  ⟨argGrid_below h.safe hb, argMv_below h.moves hb, argJl_below h.jolts hb⟩
end Go.Proofs.YtjonbhimbhidpaaDoor
