/-
  What the frame tells of rows of pairs of small numbers, of numbers, of attacks.
-/
import Derived.Test.YtaedbkdimpdngaaWalkP
import Derived.Laws.IdiomArrays
import Derived.Deep.Slices
import Derived.SliceStrings
import Derived.Lib.SmallJoins
import Derived.OpenShut
namespace Go.Proofs.Ytaedbkdimpdngaa
open Go.RowKit Go.ChangeShapes Go.WideShapes Go.Deep Go.Joins
theorem add_succ (a : Addr) (n k : Nat) : a.add (n + (k + 1)) = { block := (a.add n).block, off := (a.add n).off + (k + 1) } := by
  unfold Addr.add
  rw [if_neg (by omega)]
  split
  · subst_vars; simp
  · simp [Nat.add_assoc]
/-- a row of pairs of small numbers that came in -/
def ArgAr (w : World) (ja : Option Addr) (jn : Nat) : Prop := jn ≤ maxLen ∧ ∀ i, i < jn → ∃ ad z0 z1, ja = some ad ∧ ad.block < w.heap.size ∧ w.cell? (ad.add (i * 2)) = some (.int .u8 z0) ∧ w.cell? (ad.add (i * 2 + 1)) = some (.int .u8 z1) ∧ (0 ≤ z0 ∧ z0 < 256) ∧ (0 ≤ z1 ∧ z1 < 256)
section
variable {H : Type} {enc : TypeId × Value → H} {P : Program} {w : World} {base : Nat} {spare : Nat → Bool} {held : Bool}
theorem trod_array2 {t e : TypeId} {fuel : Nat} {c0 c1 : Value} {x : DataW H × List MemPlace} (ht : P.underlying t = some (.array 2 e)) (hce : P.cellsOf e = 1)
    (h : DataW.trod enc P w base spare held fuel t [c0, c1] = some x) : ∃ n y0 y1, DataW.trod enc P w base spare held n e [c0] = some y0 ∧ DataW.trod enc P w base spare held n e [c1] = some y1 := by
  obtain ⟨xs, m, _, _, _, hn, hi⟩ := DataW.trod_array ht h
  rw [hce] at hi
  match xs, hn with
  | [x0, x1], _ => exact ⟨m, x0, x1, by simpa using hi 0 (by decide), by simpa using hi 1 (by decide)⟩
theorem array_len {t e : TypeId} {n k fuel : Nat} {cs : List Value} {x : DataW H × List MemPlace} (ht : P.underlying t = some (.array n e)) (hc : P.cellsOf t = k) (h : DataW.trod enc P w base spare held fuel t cs = some x) : cs.length = k := by
  obtain ⟨xs, m, _, _, h1, _⟩ := DataW.trod_array ht h
  rw [h1, hc]
theorem wf_u8 {z : Int} (h : (Lit.int .u8 z).wf = true) : 0 ≤ z ∧ z < 256 := by
  unfold Lit.wf at h
  rw [Bool.and_eq_true, decide_eq_true_eq, decide_eq_true_eq] at h
  have h1 : IntKind.u8.min = 0 := by decide
  have h2 : IntKind.u8.max = 255 := by decide
  omega
end
section
variable {H : Type} {enc : TypeId × Value → H} {w : World} {base : Nat} {held : Bool}
theorem trod_u8 {n : Nat} {v : Value} {y : DataW H × List MemPlace} (h : DataW.trod enc Try.prog w base (fun _ => true) held n 5 [v] = some y) : ∃ z, v = .int .u8 z ∧ 0 ≤ z ∧ z < 256 := by
  obtain ⟨z, hz, _, g⟩ := DataW.trod_int Try.underlying5 h
  simp only [List.cons.injEq, and_true] at hz
  exact ⟨z, hz, wf_u8 g⟩
theorem trod_arr2 {n : Nat} {cs : List Value} {y : DataW H × List MemPlace} (h : DataW.trod enc Try.prog w base (fun _ => true) held n 85 cs = some y) :
    ∃ z0 z1, cs = [.int .u8 z0, .int .u8 z1] ∧ (0 ≤ z0 ∧ z0 < 256) ∧ (0 ≤ z1 ∧ z1 < 256) := by
  have hl : cs.length = 2 := array_len Try.underlying85 (by kernel_rfl) h
  match cs, hl with
  | [c0, c1], _ =>
    obtain ⟨k, y0, y1, h0, h1⟩ := trod_array2 Try.underlying85 (by kernel_rfl) h
    obtain ⟨z0, rfl, g0⟩ := trod_u8 h0
    obtain ⟨z1, rfl, g1⟩ := trod_u8 h1
    exact ⟨z0, z1, rfl, g0, g1⟩
theorem read_row2 {n : Nat} {v : Value} {y : DataW H × List MemPlace} (h : DataW.trod enc Try.prog w base (fun _ => true) held n 41 [v] = some y) :
    ∃ ja jn jc, v = .slice ja jn jc ∧ jn ≤ maxLen ∧ ∀ i, i < jn → ∃ ad z0 z1, ja = some ad ∧ ad.block < w.heap.size ∧ w.cell? (ad.add (i * 2)) = some (.int .u8 z0) ∧ w.cell? (ad.add (i * 2 + 1)) = some (.int .u8 z1) ∧ (0 ≤ z0 ∧ z0 < 256) ∧ (0 ≤ z1 ∧ z1 < 256) := by
  have c85 : Try.prog.cellsOf 85 = 2 := by kernel_rfl
  rcases open_slice Try.underlying41 h with ⟨hcs, _⟩ | ⟨a, len, cap, m, n', D, Pl, hcs, _, hl, hm, hmm, _, hc⟩
  · simp only [List.cons.injEq, and_true] at hcs
    exact ⟨none, 0, 0, hcs, by decide, fun i hi => by omega⟩
  · simp only [List.cons.injEq, and_true] at hcs
    simp only [if_true] at hmm
    refine ⟨some a, len, cap, hcs, by omega, fun i hi => ?_⟩
    obtain ⟨cs', hcs', ht⟩ := hc i (by omega)
    rw [c85] at hcs'
    obtain ⟨_, hlen, hat⟩ := World.cells?_some hcs'
    obtain ⟨z0, z1, rfl, g0, g1⟩ := trod_arr2 ht
    have k0 := hat 0 (by decide)
    have k1 := hat 1 (by decide)
    rw [add_add] at k0 k1
    have := World.block_lt_of_cell? w _ k0
    rw [add_block] at this
    exact ⟨a, z0, z1, rfl, this, k0, k1, g0, g1⟩
end
end Go.Proofs.Ytaedbkdimpdngaa
