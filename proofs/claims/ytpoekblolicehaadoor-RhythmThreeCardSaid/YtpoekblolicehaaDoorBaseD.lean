/-
  A row of bools that the call has made itself.
-/
import Derived.Test.YtpoekblolicehaaDoorBaseC
import Derived.Deep.OwnRows
import Derived.Laws.World
namespace Go.Proofs.YtpoekblolicehaaDoor
open Go.RowKit

/-- block g holds n bools, of which none is frozen -/
def IsBools (w : World) (g n : Nat) (f : Nat → Bool) : Prop := g < w.heap.size ∧ ∀ k, k < n → w.cell? ⟨g, k, none⟩ = some (.bool (f k)) ∧ w.frozen? ⟨g, k, none⟩ = false
theorem isBools_new (w : World) (g n : Nat) (hg : g = w.heap.size) (e : TypeId) : IsBools (w.alloc (.cells (madeCells #[.bool false] n) e)) g n (fun _ => false) := by
  subst hg
  refine ⟨by simp, fun k hk => ?_⟩
  have hh : (w.alloc (.cells (madeCells #[.bool false] n) e)).heap[w.heap.size]? = some (.cells (madeCells #[.bool false] n) e (0, 0)) := heap_alloc_new w _
  constructor
  · rw [cell_of_row _ _ k _ e (0, 0) hh]
    simp [madeCells, hk, Nat.mod_one]
  · unfold World.frozen?
    rw [show (Addr.block ⟨w.heap.size, k, none⟩) = w.heap.size from rfl, hh]
    simp
theorem isBools_set {w : World} {g n : Nat} {f : Nat → Bool} (h : IsBools w g n f) (k : Nat) (hk : k < n) (b : Bool) : IsBools (w.setCell ⟨g, k, none⟩ (.bool b)) g n (fun j => if j = k then b else f j) := by
  refine ⟨by simpa [World.setCell] using h.1, fun j hj => ⟨?_, ?_⟩⟩
  · by_cases he : j = k
    · subst he
      rw [World.cell?_setCell_same _ _ _ (h.2 j hj).1]; simp
    · rw [World.cell?_setCell_other _ _ _ _ (fun h => he (by injection h with _ h; exact h.symm))]
      simp only [if_neg he]
      exact (h.2 j hj).1
  · rw [World.frozen?_setCell]
    exact (h.2 j hj).2
theorem isBools_below {w w' : World} {g n : Nat} {f : Nat → Bool} (h : IsBools w g n f) (hb : Below w.heap.size w w') : IsBools w' g n f := by
  refine ⟨Nat.lt_of_lt_of_le h.1 hb.size, fun j hj => ⟨?_, ?_⟩⟩
  · rw [hb.cell (p := ⟨g, j, none⟩) h.1]; exact (h.2 j hj).1
  · rw [hb.frozen (p := ⟨g, j, none⟩) h.1]; exact (h.2 j hj).2
theorem isBools_under {w w' : World} {g n B : Nat} {f : Nat → Bool} (h : IsBools w g n f) (hb : Below B w w') (hg : g < B) : IsBools w' g n f := by
  refine ⟨Nat.lt_of_lt_of_le h.1 hb.size, fun j hj => ⟨?_, ?_⟩⟩
  · rw [hb.cell (p := ⟨g, j, none⟩) hg]; exact (h.2 j hj).1
  · rw [hb.frozen (p := ⟨g, j, none⟩) hg]; exact (h.2 j hj).2
theorem isBools_congr {w : World} {g n : Nat} {f f' : Nat → Bool} (h : IsBools w g n f) (he : ∀ j, j < n → f j = f' j) : IsBools w g n f' :=
  ⟨h.1, fun j hj => by rw [← he j hj]; exact h.2 j hj⟩
theorem info4 : (Tryd.prog.info? 4).map (fun i => (i.zero, i.size, i.bytes)) = some (some (.bool false), 1, 1) := by kernel_rfl
theorem make_bools (n : Nat) (h : n ≤ 100000) (w : World) : (Instr.makeSlice 46 (.int .i64 (n : Int)) (.int .i64 (n : Int))).run Tryd.prog w = .ok (.slice (some ⟨w.heap.size, 0, none⟩) n n) (w.alloc (.cells (madeCells #[.bool false] n) 4)) :=
  run_make_row' 46 4 (.bool false) 1 Tryd.underlying46 info4 rfl .i64 .i64 n (by omega) (by omega) w
end Go.Proofs.YtpoekblolicehaaDoor
