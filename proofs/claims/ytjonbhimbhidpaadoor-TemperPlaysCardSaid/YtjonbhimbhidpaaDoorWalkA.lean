/-
  Walks over chapter 6: a step.
-/
import Derived.Test.YtjonbhimbhidpaaDoorBaseB
import Derived.Test.YtjonbhimbhidpaaDoorPlainB
import Derived.BigRegion
namespace Go.Proofs.YtjonbhimbhidpaaDoor
open Go.RowKit

theorem ret_eq {v u : Value} (h : v = u) : Ending.returned v = .returned u := by rw [h]
theorem ret_int {k : IntKind} {a b : Int} (h : a = b) : Ending.returned (.int k a) = .returned (.int k b) := by rw [h]
theorem ret_bool {a b : Bool} (h : a = b) : Ending.returned (.bool a) = .returned (.bool b) := by rw [h]

/-- a cell that is there stays while blocks are made -/
theorem cell_more {W : World} {p : Addr} {v : Value} (h : W.cell? p = some v) : (∀ A, (W.alloc A).cell? p = some v) ∧ (∀ A B, ((W.alloc A).alloc B).cell? p = some v) := by
  have hlt := World.block_lt_of_cell? W _ h
  have h1 : ∀ A, (W.alloc A).cell? p = some v := fun A => (World.cell?_alloc_lt W A p hlt).trans h
  refine ⟨h1, fun A B => ?_⟩
  exact (World.cell?_alloc_lt _ B p (by simp; omega)).trans (h1 A)
theorem cells3_of {W : World} {g : Nat} {a b c : Value} {t : TypeId} (h : W.heap[g]? = some (.cells #[a, b, c] t)) : W.cell? ⟨g, 0, none⟩ = some a ∧ W.cell? ⟨g, 1, none⟩ = some b ∧ W.cell? ⟨g, 2, none⟩ = some c := by
  refine ⟨?_, ?_, ?_⟩ <;> simp [World.cell?, h]

theorem free3_of {W : World} {g : Nat} {cs : Array Value} {t : TypeId} (h : W.heap[g]? = some (.cells cs t)) : W.frozen? ⟨g, 0, none⟩ = false ∧ W.frozen? ⟨g, 1, none⟩ = false ∧ W.frozen? ⟨g, 2, none⟩ = false := by
  refine ⟨?_, ?_, ?_⟩ <;> simp [World.frozen?, h]

set_option maxHeartbeats 1000000 in
theorem step_any (b : Nat) (vs vm vj : Value) (o : Ov) (c : Sp) (m j : Nat) (w : World) (ho : OvAt w b vs vm vj o) (hok : o.Ok) (hm : m < o.moves.length) (hj : j < o.jolts.length) (hc : InR c) :
    Calls Tryd.prog 58 #[.pointer (some ⟨b, 0, none⟩), spv c, .int .i64 m, .int .i64 j] w fun e w' => e = .returned (spv (stepOf c o.moves[m] o.jolts[j])) ∧ Below w.heap.size w w' := by
  obtain ⟨⟨hs, ⟨am, cm, rfl, hml, hmc⟩, ⟨aj, cj, rfl, hjl, hjc⟩⟩, c0, c1, c2, c3, c4⟩ := ho
  obtain ⟨gm, rfl, m0, m1, m2, m3⟩ := hmc m hm
  obtain ⟨gj, rfl, j0, j1⟩ := hjc j hj
  have bm := mv_ok hok m hm
  have bj := jl_ok hok j hj
  have em : mvAt o.moves m = o.moves[m] := by simp [mvAt, hm]
  have ej : jlAt o.jolts j = o.jolts[j] := by simp [jlAt, hj]
  rw [em] at m0 m1 m2 m3
  rw [ej] at j0 j1
  obtain ⟨p, x, y⟩ := c
  obtain ⟨hc1, hc2, hc3⟩ := hc
  generalize o.moves[m] = M at *
  generalize o.jolts[j] = J at *
  unfold spv
  simp only
  go_enter Tryd.func58, Tryd.ntmps58
  go_wp2
  have hb0 : Below w.heap.size w ((w.alloc (Obj.cells #[Value.int IntKind.i64 p, Value.int IntKind.i64 x, Value.int IntKind.i64 y] 87)).alloc (Obj.cells #[Value.int IntKind.i64 0, Value.int IntKind.i64 0, Value.int IntKind.i64 0] 87)) :=
    ((Below.refl _ _).alloc (Nat.le_refl _) _).alloc (by simp) _
  have hc0 : ((w.alloc (Obj.cells #[Value.int IntKind.i64 p, Value.int IntKind.i64 x, Value.int IntKind.i64 y] 87)).alloc (Obj.cells #[Value.int IntKind.i64 0, Value.int IntKind.i64 0, Value.int IntKind.i64 0] 87)).heap[w.heap.size]? = some (Obj.cells #[Value.int IntKind.i64 p, Value.int IntKind.i64 x, Value.int IntKind.i64 y] 87) := by
    rw [Below.heap_alloc _ _ _ (by simp)]; exact heap_alloc_new w _
  have hc1 : ((w.alloc (Obj.cells #[Value.int IntKind.i64 p, Value.int IntKind.i64 x, Value.int IntKind.i64 y] 87)).alloc (Obj.cells #[Value.int IntKind.i64 0, Value.int IntKind.i64 0, Value.int IntKind.i64 0] 87)).heap[w.heap.size + 1]? = some (Obj.cells #[Value.int IntKind.i64 0, Value.int IntKind.i64 0, Value.int IntKind.i64 0] 87) := by
    rw [show w.heap.size + 1 = (w.alloc (Obj.cells #[Value.int IntKind.i64 p, Value.int IntKind.i64 x, Value.int IntKind.i64 y] 87)).heap.size by simp]; exact heap_alloc_new _ _
  have hsz : ((w.alloc (Obj.cells #[Value.int IntKind.i64 p, Value.int IntKind.i64 x, Value.int IntKind.i64 y] 87)).alloc (Obj.cells #[Value.int IntKind.i64 0, Value.int IntKind.i64 0, Value.int IntKind.i64 0] 87)).heap.size = w.heap.size + 2 := by simp
  generalize ((w.alloc (Obj.cells #[Value.int IntKind.i64 p, Value.int IntKind.i64 x, Value.int IntKind.i64 y] 87)).alloc (Obj.cells #[Value.int IntKind.i64 0, Value.int IntKind.i64 0, Value.int IntKind.i64 0] 87)) = W at *
  have up : ∀ {a : Addr} {v : Value}, w.cell? a = some v → W.cell? a = some v := fun h => (hb0.cell (World.block_lt_of_cell? w _ h)).trans h
  obtain ⟨q0, q1, q2⟩ := cells3_of hc0
  obtain ⟨q3, q4, q5⟩ := cells3_of hc1
  obtain ⟨qf0, qf1, qf2⟩ := free3_of hc1
  have d1 := cell_more (up c1)
  have d2 := cell_more (up c2)
  have dm0 := cell_more (up m0)
  have dm1 := cell_more (up m1)
  have dm2 := cell_more (up m2)
  have dm3 := cell_more (up m3)
  have dj0 := cell_more (up j0)
  have dj1 := cell_more (up j1)
  have e1 := up c1
  have e2 := up c2
  have em0 := up m0
  have em1 := up m1
  have em2 := up m2
  have em3 := up m3
  have ej0 := up j0
  have ej1 := up j1
  obtain ⟨d11, d12⟩ := d1
  obtain ⟨d21, d22⟩ := d2
  obtain ⟨dm01, dm02⟩ := dm0
  obtain ⟨dm11, dm12⟩ := dm1
  obtain ⟨dm21, dm22⟩ := dm2
  obtain ⟨dm31, dm32⟩ := dm3
  obtain ⟨dj01, dj02⟩ := dj0
  obtain ⟨dj11, dj12⟩ := dj1
  clear hc0 hc1 up m0 m1 m2 m3 j0 j1 c0 c1 c2 c3 c4 hmc hjc
  go_region
  all_goals go_wp2
  all_goals
    refine bodyPost_ret (v := .agg #[.int .i64 M.2.1, .int .i64 (x + M.2.2.1 + J.1), .int .i64 (y + M.2.2.2 + J.2)]) (by simp [results, Tryd.results58, go_sem, q3, q4, q5, hsz]) rfl ⟨rfl, ?_⟩
  all_goals
    refine (((((hb0.setCell (p := ⟨_, _, none⟩) ?_ _).setCell (p := ⟨_, _, none⟩) ?_ _).setCell (p := ⟨_, _, none⟩) ?_ _).alloc ?_ _).alloc ?_ _).drew
    · exact Nat.le_succ _
    · exact Nat.le_succ _
    · exact Nat.le_succ _
    · simp; omega
    · simp; omega
end Go.Proofs.YtjonbhimbhidpaaDoor
