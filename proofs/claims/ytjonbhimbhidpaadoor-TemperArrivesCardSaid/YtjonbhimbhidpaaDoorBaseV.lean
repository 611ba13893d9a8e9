/-
  Words for the laws of chapter 6 that make sets: rows and strings read by their places; bytes that came in; Holds of a set that holds.
-/
import Derived.Test.YtjonbhimbhidpaaDoorBaseU
import Derived.Test.YtjonbhimbhidpaaDoorPlainJ
namespace Go.Proofs.YtjonbhimbhidpaaDoor
open Go.RowKit
theorem grid_at {w : World} {a : Option Addr} {n c : Nat} {g : Grid} (h : IsGrid w (.slice a n c) g) (i : Nat) (hi : i < g.length) : ∃ gb ua uc, a = some ⟨gb, 0, none⟩ ∧ w.cell? ⟨gb, i, none⟩ = some (.slice ua (g.getD i []).length uc) ∧ IsStrs w (.slice ua (g.getD i []).length uc) (g.getD i []) := by
  obtain ⟨a', c', hv, _, hc⟩ := h
  cases hv
  obtain ⟨gb, u, h1, h2, h3⟩ := hc i hi
  obtain ⟨ua, uc, rfl, h4⟩ := id h3
  exact ⟨gb, ua, uc, h1, h2, h3⟩
theorem strs_at {w : World} {a : Option Addr} {n c : Nat} {xs : List Str} (h : IsStrs w (.slice a n c) xs) (i : Nat) (hi : i < xs.length) : ∃ gb, a = some ⟨gb, 0, none⟩ ∧ w.cell? ⟨gb, i, none⟩ = some (.string (strB (xs.getD i []))) := by
  obtain ⟨a', c', hv, _, hc⟩ := h
  cases hv
  exact hc i hi
/-- bytes that came in -/
def ArgB8 (w : World) (ca : Option Addr) (cn : Nat) : Prop := cn ≤ maxLen ∧ ∀ i, i < cn → ∃ ad z, ca = some ad ∧ ad.block < w.heap.size ∧ w.cell? (ad.add i) = some (.int .u8 z) ∧ 0 ≤ z ∧ z < 256
theorem argB8_below {w w' : World} {ca : Option Addr} {cn : Nat} (h : ArgB8 w ca cn) (hb : Below w.heap.size w w') : ArgB8 w' ca cn := by
  refine ⟨h.1, fun i hi => ?_⟩
  obtain ⟨ad, z, h1, h2, h3, h4⟩ := h.2 i hi
  exact ⟨ad, z, h1, Nat.lt_of_lt_of_le h2 hb.size, (hb.cell (p := ad.add i) (by rw [add_block]; exact h2)).trans h3, h4⟩
theorem holds_call {w : World} {vs vm vj v : Value} {o : Ov} {g : Grid} (ho : IsOv w vs vm vj o) (hok : o.Ok) (hg : IsGrid w v g) (hf : formB o.P o.R o.C g = true) (hh : o.holds g = true) :
    Calls Tryd.prog 36 #[.agg #[vs, vm, vj], v] w fun e w' => e = .returned (.tuple #[.bool true, .int .i64 0]) ∧ Below w.heap.size w w' := by
  have h := holdsP_any vs vm vj v o g w ho (num_ok hok) hg (short_form hf hok.c.2)
  unfold holdsV at h
  rw [if_pos (valid_ok hok), if_pos hf, hh] at h
  exact h
theorem form_call {w : World} {vs vm vj u : Value} {o : Ov} {g : Grid} (ho : IsOv w vs vm vj o) (hok : o.Ok) (hg : IsGrid w u g) (hf : formB o.P o.R o.C g = true) :
    Calls Tryd.prog 27 #[.agg #[vs, vm, vj], u] w fun e w' => e = .returned (.bool true) ∧ Below w.heap.size w w' := by
  have h := formL_any vs vm vj u o _ w ho (dim_of_ok hok) hg (short_form hf hok.c.2)
  rwa [hf] at h
theorem cells_small {o : Ov} (h : o.Ok) : o.cells.length ≤ 1024 := by
  rw [cells_len]
  have h1 := h.p.2
  have h2 := h.r.2
  have h3 := h.c.2
  have h4 : o.P * o.R * o.C ≤ 4 * 16 * 16 := Nat.mul_le_mul (Nat.mul_le_mul h1 h2) h3
  have h5 : o.N = o.P * o.R * o.C := by first | rfl | (unfold Ov.N; simp [Nat.mul_assoc])
  omega
theorem cells_ex (o : Ov) (i : Nat) (hi : i < o.cells.length) : o.ex (sAt o.cells i) = true := by
  rw [cells_len] at hi
  rw [sAt_cells o i hi]
  exact cellAt_ex o i hi
theorem set0 {W : World} {g : Nat} {a b c x : Value} {t : TypeId} (h : W.heap[g]? = some (.cells #[a, b, c] t)) : (W.setCell ⟨g, 0, none⟩ x).heap[g]? = some (.cells #[x, b, c] t) := by
  simp [World.setCell, Array.getElem?_modify, h]
theorem rowAt_getD (g : Grid) (p y : Nat) : (g.getD p []).getD y [] = rowAt g p y := rfl
end Go.Proofs.YtjonbhimbhidpaaDoor
