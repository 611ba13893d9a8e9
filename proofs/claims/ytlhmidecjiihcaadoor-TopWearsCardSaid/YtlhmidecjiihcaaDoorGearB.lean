/-
  Speeds and parts in memory.
-/
import Derived.Test.YtlhmidecjiihcaaDoorGearA
import Derived.Test.YtlhmidecjiihcaaDoorRep
namespace Go.Proofs.YtlhmidecjiihcaaDoor
open Go.RowKit
theorem modify_at {w : World} {G off : Nat} {cs : Array Value} {t : TypeId} {v : Value} (h : w.heap[G]? = some (.cells cs t)) : (w.setCell ⟨G, off, none⟩ v).heap[G]? = some (.cells (cs.setIfInBounds off v) t) := by
  unfold World.setCell
  simp [Array.getElem?_modify, h]
/-- a rational is stored in a list -/
def putAt (w : World) (G off : Nat) (b : Bool) (p : Option Addr) (n c : Nat) (e : Bool) (q : Option Addr) (m d : Nat) : World := (((w.setCell ⟨G, off, none⟩ (.bool b)).setCell ⟨G, off + 1, none⟩ (.slice p n c)).setCell ⟨G, off + 2, none⟩ (.bool e)).setCell ⟨G, off + 3, none⟩ (.slice q m d)
theorem putAt_off {w : World} {G off : Nat} {b : Bool} {p : Option Addr} {n c : Nat} {e : Bool} {q : Option Addr} {m d : Nat} : ∀ k, k ≠ G → (putAt w G off b p n c e q m d).heap[k]? = w.heap[k]? := fun k hk => (set_other hk).trans ((set_other hk).trans ((set_other hk).trans (set_other hk)))
theorem putAt_below {B : Nat} {w0 w : World} {G off : Nat} {b : Bool} {p : Option Addr} {n c : Nat} {e : Bool} {q : Option Addr} {m d : Nat} (h : Below B w0 w) (hX : B ≤ G) : Below B w0 (putAt w G off b p n c e q m d) := below_set (below_set (below_set (below_set h hX) hX) hX) hX
theorem putAt_at {w : World} {G off : Nat} {cs : Array Value} {b : Bool} {p : Option Addr} {n c : Nat} {e : Bool} {q : Option Addr} {m d : Nat} (h : w.heap[G]? = some (.cells cs 54)) : (putAt w G off b p n c e q m d).heap[G]? = some (.cells ((((cs.setIfInBounds off (.bool b)).setIfInBounds (off + 1) (.slice p n c)).setIfInBounds (off + 2) (.bool e)).setIfInBounds (off + 3) (.slice q m d)) 54) :=
  modify_at (modify_at (modify_at (modify_at h)))
/-- speeds: the first k are powers of m -/
def SpL (w : World) (G n k m : Nat) : Prop := ∃ cs : Array Value, w.heap[G]? = some (.cells cs 54) ∧ cs.size = 4 * n ∧ (∃ b, cs[0]? = some (.bool b)) ∧ ∀ j, j < k → ∃ b a c e g d, cs[j * 4]? = some (.bool b) ∧ cs[j * 4 + 1]? = some (.slice a c e) ∧ cs[j * 4 + 2]? = some (.bool false) ∧ cs[j * 4 + 3]? = some (.slice (some ⟨g, 0, none⟩) 1 d) ∧ RatZ w (.agg #[.bool b, .slice a c e, .bool false, .slice (some ⟨g, 0, none⟩) 1 d]) ((m ^ j : Nat) : Int)
theorem SpL.below {w w' : World} {G n k m : Nat} (h : SpL w G n k m) (hb : Below w.heap.size w w') : SpL w' G n k m := by
  obtain ⟨cs, h1, h2, h3, h4⟩ := h
  refine ⟨cs, cells_box h1 hb, h2, h3, fun j hj => ?_⟩
  obtain ⟨b, a, c, e, g, d, k0, k1, k2, k3, hz⟩ := h4 j hj
  exact ⟨b, a, c, e, g, d, k0, k1, k2, k3, hz.below hb⟩
theorem cell_of_heap {w : World} {G off : Nat} {cs : Array Value} {t : TypeId} (h : w.heap[G]? = some (.cells cs t)) : w.cell? ⟨G, off, none⟩ = cs[off]? := by
  simp [World.cell?, h]
theorem SpL.lt {w : World} {G n k m : Nat} (h : SpL w G n k m) : G < w.heap.size := by
  obtain ⟨cs, h1, _⟩ := h
  exact heap_lt h1
theorem SpL.at {w : World} {G n k m : Nat} (h : SpL w G n k m) (j : Nat) (hj : j < k) : ∃ b a c e g d, w.cell? ⟨G, j * 4, none⟩ = some (.bool b) ∧ w.cell? ⟨G, j * 4 + 1, none⟩ = some (.slice a c e) ∧ w.cell? ⟨G, j * 4 + 2, none⟩ = some (.bool false) ∧ w.cell? ⟨G, j * 4 + 3, none⟩ = some (.slice (some ⟨g, 0, none⟩) 1 d) ∧ RatZ w (.agg #[.bool b, .slice a c e, .bool false, .slice (some ⟨g, 0, none⟩) 1 d]) ((m ^ j : Nat) : Int) := by
  obtain ⟨cs, h1, h2, h3, h4⟩ := h
  obtain ⟨b, a, c, e, g, d, k0, k1, k2, k3, hz⟩ := h4 j hj
  exact ⟨b, a, c, e, g, d, (cell_of_heap h1).trans k0, (cell_of_heap h1).trans k1, (cell_of_heap h1).trans k2, (cell_of_heap h1).trans k3, hz⟩
theorem SpL.has {w : World} {G n k m : Nat} (h : SpL w G n k m) (j : Nat) (hj : j < n) : ∃ x0 x1 x2 x3, w.cell? ⟨G, j * 4, none⟩ = some x0 ∧ w.cell? ⟨G, j * 4 + 1, none⟩ = some x1 ∧ w.cell? ⟨G, j * 4 + 2, none⟩ = some x2 ∧ w.cell? ⟨G, j * 4 + 3, none⟩ = some x3 ∧ (∀ i, w.frozen? ⟨G, i, none⟩ = false) := by
  obtain ⟨cs, h1, h2, h3, h4⟩ := h
  have f : ∀ i, i < 4 * n → ∃ x, w.cell? ⟨G, i, none⟩ = some x := fun i hi => ⟨cs[i]'(by omega), (cell_of_heap h1).trans (Array.getElem?_eq_getElem (by omega))⟩
  obtain ⟨x0, e0⟩ := f (j * 4) (by omega)
  obtain ⟨x1, e1⟩ := f (j * 4 + 1) (by omega)
  obtain ⟨x2, e2⟩ := f (j * 4 + 2) (by omega)
  obtain ⟨x3, e3⟩ := f (j * 4 + 3) (by omega)
  exact ⟨x0, x1, x2, x3, e0, e1, e2, e3, fun i => free_box h1 i⟩
theorem SpL.free {w : World} {G n k m : Nat} (h : SpL w G n k m) : ∀ z, w.cell? ⟨G, 0, none⟩ ≠ some (.int .u32 z) := by
  obtain ⟨cs, h1, h2, ⟨b, h3⟩, h4⟩ := h
  intro z e
  rw [cell_of_heap h1, h3] at e
  cases e
theorem SpL.set {w : World} {G n k m : Nat} {b : Bool} {a : Option Addr} {c e g d : Nat} (h : SpL w G n k m) (hk : k < n) (hz : RatZ w (.agg #[.bool b, .slice a c e, .bool false, .slice (some ⟨g, 0, none⟩) 1 d]) ((m ^ k : Nat) : Int)) : SpL (putAt w G (k * 4) b a c e false (some ⟨g, 0, none⟩) 1 d) G n (k + 1) m := by
  have hfree := h.free
  obtain ⟨cs, h1, h2, ⟨b0, h3⟩, h4⟩ := h
  refine ⟨_, putAt_at h1, by simp [h2], ?_, fun j hj => ?_⟩
  · by_cases k0 : k = 0
    · have K0 : ((((cs.setIfInBounds (k * 4) (.bool b)).setIfInBounds (k * 4 + 1) (.slice a c e)).setIfInBounds (k * 4 + 2) (.bool false)).setIfInBounds (k * 4 + 3) (.slice (some ⟨g, 0, none⟩) 1 d))[k * 4]? = some (.bool b) := by
        simp only [Array.getElem?_setIfInBounds, Array.size_setIfInBounds]
        rw [if_neg (by omega), if_neg (by omega), if_neg (by omega), if_pos trivial, if_pos (by omega)]
      subst k0
      exact ⟨b, K0⟩
    · refine ⟨b0, ?_⟩
      simp only [Array.getElem?_setIfInBounds, Array.size_setIfInBounds]
      rw [if_neg (by omega), if_neg (by omega), if_neg (by omega), if_neg (by omega)]
      exact h3
  · by_cases hjk : j = k
    · subst hjk
      refine ⟨b, a, c, e, g, d, ?_, ?_, ?_, ?_, hz.off hfree putAt_off⟩
      · simp only [Array.getElem?_setIfInBounds, Array.size_setIfInBounds]
        rw [if_neg (by omega), if_neg (by omega), if_neg (by omega), if_pos trivial, if_pos (by omega)]
      · simp only [Array.getElem?_setIfInBounds, Array.size_setIfInBounds]
        rw [if_neg (by omega), if_neg (by omega), if_pos trivial, if_pos (by omega)]
      · simp only [Array.getElem?_setIfInBounds, Array.size_setIfInBounds]
        rw [if_neg (by omega), if_pos trivial, if_pos (by omega)]
      · simp only [Array.getElem?_setIfInBounds, Array.size_setIfInBounds]
        rw [if_pos trivial, if_pos (by omega)]
    · obtain ⟨b', a', c', e', g', d', k0, k1, k2, k3, hz'⟩ := h4 j (by omega)
      refine ⟨b', a', c', e', g', d', ?_, ?_, ?_, ?_, hz'.off hfree putAt_off⟩
      · simp only [Array.getElem?_setIfInBounds, Array.size_setIfInBounds]
        rw [if_neg (by omega), if_neg (by omega), if_neg (by omega), if_neg (by omega)]
        exact k0
      · simp only [Array.getElem?_setIfInBounds, Array.size_setIfInBounds]
        rw [if_neg (by omega), if_neg (by omega), if_neg (by omega), if_neg (by omega)]
        exact k1
      · simp only [Array.getElem?_setIfInBounds, Array.size_setIfInBounds]
        rw [if_neg (by omega), if_neg (by omega), if_neg (by omega), if_neg (by omega)]
        exact k2
      · simp only [Array.getElem?_setIfInBounds, Array.size_setIfInBounds]
        rw [if_neg (by omega), if_neg (by omega), if_neg (by omega), if_neg (by omega)]
        exact k3
theorem SpL.off {w w' : World} {G n k m X : Nat} (h : SpL w G n k m) (hX : X ≠ G) (hx : ∀ z, w.cell? ⟨X, 0, none⟩ ≠ some (.int .u32 z)) (hb : ∀ j, j ≠ X → w'.heap[j]? = w.heap[j]?) : SpL w' G n k m := by
  obtain ⟨cs, h1, h2, h3, h4⟩ := h
  refine ⟨cs, (hb G (Ne.symm hX)).trans h1, h2, h3, fun j hj => ?_⟩
  obtain ⟨b, a, c, e, g, d, k0, k1, k2, k3, hz⟩ := h4 j hj
  exact ⟨b, a, c, e, g, d, k0, k1, k2, k3, hz.off hx hb⟩
/-- parts: the first k wheels belong to the first one, the others to none yet -/
def ptc (n k : Nat) : List Value := List.replicate k (.int .i64 0) ++ List.replicate (n - k) (.int .i64 (-1))
def PtL (w : World) (G n k : Nat) : Prop := w.heap[G]? = some (.cells (ptc n k).toArray 3)
theorem PtL.below {w w' : World} {G n k : Nat} (h : PtL w G n k) (hb : Below w.heap.size w w') : PtL w' G n k := cells_box h hb
theorem PtL.lo {w : World} {G n k : Nat} (h : PtL w G n k) (j : Nat) (hj : j < k) : w.cell? ⟨G, j, none⟩ = some (.int .i64 0) := by
  rw [cell_of_heap h]
  unfold ptc
  simp [List.getElem?_append, hj]
theorem PtL.hi {w : World} {G n k : Nat} (h : PtL w G n k) (j : Nat) (hk : k ≤ j) (hj : j < n) : w.cell? ⟨G, j, none⟩ = some (.int .i64 (-1)) := by
  rw [cell_of_heap h]
  unfold ptc
  simp [List.getElem?_append, List.getElem?_replicate]
  rw [if_neg (by omega), if_pos (by omega)]
theorem PtL.free {w : World} {G n k : Nat} (h : PtL w G n k) : ∀ z, w.cell? ⟨G, 0, none⟩ ≠ some (.int .u32 z) := by
  intro z e
  rw [cell_of_heap h] at e
  have h2 := List.mem_of_getElem? (by simpa using e : (ptc n k)[0]? = some (.int .u32 z))
  unfold ptc at h2
  rcases List.mem_append.1 h2 with h2 | h2 <;> (have := List.eq_of_mem_replicate h2; cases this)
theorem PtL.set {w : World} {G n k : Nat} (h : PtL w G n k) (hk : k < n) : PtL (w.setCell ⟨G, k, none⟩ (.int .i64 0)) G n (k + 1) := by
  have h2 := modify_at (off := k) (v := .int .i64 0) h
  have e : (ptc n k).toArray.setIfInBounds k (.int .i64 0) = (ptc n (k + 1)).toArray := by
    rw [List.setIfInBounds_toArray]
    congr 1
    unfold ptc
    apply List.ext_getElem?
    intro j
    grind
  rw [e] at h2
  exact h2
theorem PtL.init {w : World} {G n : Nat} (h : w.heap[G]? = some (.cells (List.replicate n (Value.int .i64 (-1))).toArray 3)) : PtL w G n 0 := by
  unfold PtL ptc
  simpa using h
theorem made_at (z : Array Value) (n : Nat) (h : 0 < n) : (madeCells z n)[0]? = some (z[0 % z.size]!) := by
  unfold madeCells
  rw [Array.getElem?_map]
  have e : (Array.range n)[0]? = some 0 := by
    rw [Array.getElem?_eq_getElem (by simp; omega)]
    simp
  rw [e]
  rfl
theorem make_rats (n : Nat) (hn : 1 ≤ n) (hn2 : n ≤ 100) : ∃ cs : Array Value, cs.size = 4 * n ∧ (∃ b, cs[0]? = some (.bool b)) ∧ ∀ w : World, (Instr.makeSlice 46 (.int .i64 (n : Int)) (.int .i64 (n : Int))).run Tryd.prog w = .ok (.slice (some ⟨w.heap.size, 0, none⟩) n n) (w.alloc (.cells cs 54)) := by
  refine ⟨madeCells (Value.agg #[.bool false, .slice none 0 0, .bool false, .slice none 0 0]).cells (n * 4), ?_, ⟨false, ?_⟩, ?_⟩
  · unfold madeCells
    simp; omega
  · exact made_at _ _ (by omega)
  · cases hi0 : Tryd.prog.info? 54 with
    | none => have := info54; rw [hi0] at this; cases this
    | some i =>
      have h := info54
      rw [hi0] at h
      simp only [Option.map_some, Option.some.injEq, Prod.mk.injEq] at h
      obtain ⟨h1, h2, h3⟩ := h
      intro w
      have := run_make (P := Tryd.prog) (w := w) 46 54 i (.agg #[.bool false, .slice none 0 0, .bool false, .slice none 0 0]) (by kernel_rfl) hi0 h1 .i64 .i64 (n : Int) (n : Int) (by omega) (by omega) (by rw [h3]; omega) (by omega)
      rw [this, h2]
      simp only [Int.toNat_natCast]
end Go.Proofs.YtlhmidecjiihcaaDoor
