/-
  Words on memory for chapter 6: own slices; lists of strings, grids, moves, jolts; an oven as an argument, and behind a pointer.
-/
import Derived.Test.YtjonbhimbhidpaaDoorBaseA
namespace Go.Proofs.YtjonbhimbhidpaaDoor
open Go.RowKit

def strB (l : Str) : ByteArray := ⟨l.toArray⟩
theorem strB_data (s : ByteArray) : strB s.data.toList = s := by
  obtain ⟨⟨l⟩⟩ := s
  rfl
theorem strB_list (l : Str) : (strB l).data.toList = l := rfl
theorem strB_size (l : Str) : (strB l).size = l.length := by
  show (strB l).data.size = _
  simp [strB]

/-- the value v reads, in the world w, as the list xs of strings -/
def IsStrs (w : World) (v : Value) (xs : List Str) : Prop :=
  ∃ a c, v = .slice a xs.length c ∧ xs.length ≤ 1000000 ∧ ∀ i, i < xs.length → ∃ g, a = some ⟨g, 0, none⟩ ∧ w.cell? ⟨g, i, none⟩ = some (.string (strB (xs.getD i [])))
theorem isStrs_below {w w' : World} {v : Value} {xs : List Str} (h : IsStrs w v xs) (hb : Below w.heap.size w w') : IsStrs w' v xs := by
  obtain ⟨a, c, rfl, hl, hc⟩ := h
  refine ⟨a, c, rfl, hl, fun i hi => ?_⟩
  obtain ⟨g, ha, hcell⟩ := hc i hi
  exact ⟨g, ha, by rw [hb.cell (World.block_lt_of_cell? w _ hcell)]; exact hcell⟩
/-- .. as a grid -/
def IsGrid (w : World) (v : Value) (xs : Grid) : Prop :=
  ∃ a c, v = .slice a xs.length c ∧ xs.length ≤ 1000000 ∧ ∀ i, i < xs.length → ∃ g u, a = some ⟨g, 0, none⟩ ∧ w.cell? ⟨g, i, none⟩ = some u ∧ IsStrs w u (xs.getD i [])
theorem isGrid_below {w w' : World} {v : Value} {xs : Grid} (h : IsGrid w v xs) (hb : Below w.heap.size w w') : IsGrid w' v xs := by
  obtain ⟨a, c, rfl, hl, hc⟩ := h
  refine ⟨a, c, rfl, hl, fun i hi => ?_⟩
  obtain ⟨g, u, ha, hcell, hs⟩ := hc i hi
  exact ⟨g, u, ha, by rw [hb.cell (World.block_lt_of_cell? w _ hcell)]; exact hcell, isStrs_below hs hb⟩
def mvAt (ms : List Mv) (i : Nat) : Mv := ms.getD i (0, 0, 0, 0)
def jlAt (js : List (Int × Int)) (i : Nat) : Int × Int := js.getD i (0, 0)
/-- .. as a list of moves -/
def IsMv (w : World) (v : Value) (xs : List Mv) : Prop :=
  ∃ a c, v = .slice a xs.length c ∧ xs.length ≤ 1000000 ∧ ∀ i, i < xs.length → ∃ g, a = some ⟨g, 0, none⟩ ∧
    w.cell? ⟨g, i * 4, none⟩ = some (.int .i64 (mvAt xs i).1) ∧ w.cell? ⟨g, i * 4 + 1, none⟩ = some (.int .i64 (mvAt xs i).2.1) ∧ w.cell? ⟨g, i * 4 + 2, none⟩ = some (.int .i64 (mvAt xs i).2.2.1) ∧ w.cell? ⟨g, i * 4 + 3, none⟩ = some (.int .i64 (mvAt xs i).2.2.2)
theorem isMv_below {w w' : World} {v : Value} {xs : List Mv} (h : IsMv w v xs) (hb : Below w.heap.size w w') : IsMv w' v xs := by
  obtain ⟨a, c, rfl, hl, hc⟩ := h
  refine ⟨a, c, rfl, hl, fun i hi => ?_⟩
  obtain ⟨g, ha, c0, c1, c2, c3⟩ := hc i hi
  have hlt := World.block_lt_of_cell? w _ c0
  exact ⟨g, ha, (hb.cell (p := ⟨g, i * 4, none⟩) hlt).trans c0, (hb.cell (p := ⟨g, i * 4 + 1, none⟩) hlt).trans c1, (hb.cell (p := ⟨g, i * 4 + 2, none⟩) hlt).trans c2, (hb.cell (p := ⟨g, i * 4 + 3, none⟩) hlt).trans c3⟩
/-- .. as a list of jolts -/
def IsJl (w : World) (v : Value) (xs : List (Int × Int)) : Prop :=
  ∃ a c, v = .slice a xs.length c ∧ xs.length ≤ 1000000 ∧ ∀ i, i < xs.length → ∃ g, a = some ⟨g, 0, none⟩ ∧
    w.cell? ⟨g, i * 2, none⟩ = some (.int .i64 (jlAt xs i).1) ∧ w.cell? ⟨g, i * 2 + 1, none⟩ = some (.int .i64 (jlAt xs i).2)
theorem isJl_below {w w' : World} {v : Value} {xs : List (Int × Int)} (h : IsJl w v xs) (hb : Below w.heap.size w w') : IsJl w' v xs := by
  obtain ⟨a, c, rfl, hl, hc⟩ := h
  refine ⟨a, c, rfl, hl, fun i hi => ?_⟩
  obtain ⟨g, ha, c0, c1⟩ := hc i hi
  have hlt := World.block_lt_of_cell? w _ c0
  exact ⟨g, ha, (hb.cell (p := ⟨g, i * 2, none⟩) hlt).trans c0, (hb.cell (p := ⟨g, i * 2 + 1, none⟩) hlt).trans c1⟩

/-- an oven as it is handed over: three slices -/
structure IsOv (w : World) (vs vm vj : Value) (o : Ov) : Prop where
  safe : IsGrid w vs o.safe
  moves : IsMv w vm o.moves
  jolts : IsJl w vj o.jolts
theorem isOv_below {w w' : World} {vs vm vj : Value} {o : Ov} (h : IsOv w vs vm vj o) (hb : Below w.heap.size w w') : IsOv w' vs vm vj o :=
  ⟨isGrid_below h.safe hb, isMv_below h.moves hb, isJl_below h.jolts hb⟩
/-- an oven as it is read: behind a pointer -/
structure OvAt (w : World) (b : Nat) (vs vm vj : Value) (o : Ov) : Prop where
  ov : IsOv w vs vm vj o
  c0 : w.cell? ⟨b, 0, none⟩ = some vs
  c1 : w.cell? ⟨b, 1, none⟩ = some vm
  c2 : w.cell? ⟨b, 2, none⟩ = some vj
  c3 : w.cell? ⟨b, 3, none⟩ = some (.int .i64 o.R)
  c4 : w.cell? ⟨b, 4, none⟩ = some (.int .i64 o.C)
theorem ovAt_below {w w' : World} {b : Nat} {vs vm vj : Value} {o : Ov} (h : OvAt w b vs vm vj o) (hb : Below w.heap.size w w') : OvAt w' b vs vm vj o := by
  have hlt := World.block_lt_of_cell? w _ h.c0
  exact ⟨isOv_below h.ov hb, (hb.cell (p := ⟨b, 0, none⟩) hlt).trans h.c0, (hb.cell (p := ⟨b, 1, none⟩) hlt).trans h.c1, (hb.cell (p := ⟨b, 2, none⟩) hlt).trans h.c2, (hb.cell (p := ⟨b, 3, none⟩) hlt).trans h.c3, (hb.cell (p := ⟨b, 4, none⟩) hlt).trans h.c4⟩
theorem ovAt_lt {w : World} {b : Nat} {vs vm vj : Value} {o : Ov} (h : OvAt w b vs vm vj o) : b < w.heap.size := World.block_lt_of_cell? w _ h.c0
end Go.Proofs.YtjonbhimbhidpaaDoor
