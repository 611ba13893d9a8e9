/-
  Words for the last law of chapter 6: two numbers of sixteen bits that came in; a step by Reach's move leads nearer.
-/
import Derived.Test.YtjonbhimbhidpaaDoorWalkAI
import Derived.Test.YtjonbhimbhidpaaDoorBaseY
namespace Go.Proofs.YtjonbhimbhidpaaDoor
open Go.RowKit Go.ChangeShapes Go.WideShapes Go.Deep Go.Joins
section
variable {H : Type} {enc : TypeId × Value → H} {w : World} {base : Nat} {held : Bool}
theorem trod_u16 {n : Nat} {v : Value} {y : DataW H × List MemPlace} (h : DataW.trod enc Tryd.prog w base (fun _ => true) held n 76 [v] = some y) : ∃ z, v = .int .u16 z ∧ 0 ≤ z ∧ z < 65536 := by
  obtain ⟨z, hz, _, g⟩ := DataW.trod_int Tryd.underlying76 h
  simp only [List.cons.injEq, and_true] at hz
  exact ⟨z, hz, wf_u16 g⟩
theorem trod_arrw {n : Nat} {cs : List Value} {y : DataW H × List MemPlace} (h : DataW.trod enc Tryd.prog w base (fun _ => true) held n 82 cs = some y) :
    ∃ z0 z1, cs = [.int .u16 z0, .int .u16 z1] ∧ (0 ≤ z0 ∧ z0 < 65536) ∧ (0 ≤ z1 ∧ z1 < 65536) := by
  have hl : cs.length = 2 := array_len Tryd.underlying82 (by kernel_rfl) h
  match cs, hl with
  | [c0, c1], _ =>
    obtain ⟨k, y0, y1, h0, h1⟩ := trod_array2 Tryd.underlying82 (by kernel_rfl) h
    obtain ⟨z0, rfl, g0⟩ := trod_u16 h0
    obtain ⟨z1, rfl, g1⟩ := trod_u16 h1
    exact ⟨z0, z1, rfl, g0, g1⟩
set_option maxRecDepth 100000 in
theorem read_arrw {b0 : Nat} {v : Value} {d : DataW H} {p : List MemPlace} (hv : Value.okWide Tryd.prog w .any b0 82 v) (h : DataW.Trod enc Tryd.prog w base (fun _ => true) held 82 v d p) :
    ∃ z0 z1, v = .agg #[.int .u16 z0, .int .u16 z1] ∧ (0 ≤ z0 ∧ z0 < 65536) ∧ (0 ≤ z1 ∧ z1 < 65536) := by
  simp only [Value.okWide, Tryd.underlying82] at hv
  obtain ⟨cs, rfl, hsz, _⟩ := hv
  obtain ⟨fuel, hf⟩ := h
  obtain ⟨z0, z1, hz, g⟩ := trod_arrw hf
  obtain ⟨cs⟩ := cs
  simp [Value.cells] at hz
  subst hz
  exact ⟨z0, z1, rfl, g⟩
end
/-- the move that Reach returns: a number of a move, from the cell's own phase, by which each jolt leads nearer; the cell is safe -/
theorem reach_step {o : Ov} {g : Grid} {c : Sp} {k : Nat} (hx : o.ex c = true) (h : o.NN g c = some (k + 1)) :
    ∃ i, ∃ hi : i < o.moves.length, o.move (o.G g k) c = (i : Int) ∧ o.moves[i].1 = c.1 ∧ inG o.safe c = true ∧ ∀ j ∈ o.jolts, o.G g k (stepOf c o.moves[i] j) = true := by
  obtain ⟨h1, h2⟩ := (NN_some o g c (k + 1)).1 h
  have h3 := h2 k (by omega)
  rw [G_new o g k c hx, h3, Bool.false_or] at h1
  unfold Ov.newF at h1
  simp only [Bool.and_eq_true] at h1
  obtain ⟨i, hi, e1, e2⟩ := move_specK o (o.G g k) c h1.2.2
  unfold Ov.leads at e2
  rw [Bool.and_eq_true, beq_iff_eq, List.all_eq_true] at e2
  exact ⟨i, hi, e1, e2.1, h1.2.1, e2.2⟩
theorem near_of_G {o : Ov} {g : Grid} {k : Nat} : ∀ {d : Sp}, o.G g k d = true → ∃ j, j ≤ k ∧ o.NN g d = some j := by
  intro d hd
  have hex : ∃ j, j ≤ k ∧ o.G g j d = true ∧ ∀ i, i < j → o.G g i d = false := by
    induction k with
    | zero => exact ⟨0, Nat.le_refl _, hd, fun i hi => by omega⟩
    | succ k ih =>
      cases e : o.G g k d with
      | true =>
        obtain ⟨j, h1, h2⟩ := ih e
        exact ⟨j, by omega, h2⟩
      | false =>
        refine ⟨k + 1, Nat.le_refl _, hd, fun i hi => ?_⟩
        cases e2 : o.G g i d with
        | false => rfl
        | true => rw [G_le o g (by omega : i ≤ k) d e2] at e; cases e
  obtain ⟨j, h1, h2⟩ := hex
  exact ⟨j, h1, (NN_some o g d j).2 h2⟩
theorem near_zero_in {o : Ov} {g : Grid} {d : Sp} (h : o.NN g d = some 0) : inG g d = true ∧ inG o.safe d = true ∧ o.ex d = true := by
  have h1 := ((NN_some o g d 0).1 h).1
  simp only [Ov.G, Bool.and_eq_true] at h1
  exact ⟨h1.2, h1.1.2, h1.1.1⟩
end Go.Proofs.YtjonbhimbhidpaaDoor
