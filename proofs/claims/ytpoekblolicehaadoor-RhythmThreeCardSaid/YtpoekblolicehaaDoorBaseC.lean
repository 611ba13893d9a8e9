/-
  Slices of runs (structs of three numbers), and a range over a string: what the walks over chapter 1 say of them.
-/
import Derived.Test.YtpoekblolicehaaDoorWalkF
import Derived.Test.YtpoekblolicehaaDoorPlainB
import Derived.Lib.OthersKept
namespace Go.Proofs.YtpoekblolicehaaDoor
open Go.RowKit

/-- the cells of a list of runs -/
def rcells (xs : List Rn) : List Value := xs.flatMap fun r => [.int .i64 r.1, .int .i64 r.2.1, .int .i64 r.2.2]
theorem rcells_append (xs : List Rn) (r : Rn) : rcells (xs ++ [r]) = rcells xs ++ [.int .i64 r.1, .int .i64 r.2.1, .int .i64 r.2.2] := by simp [rcells]
theorem rcells_length (xs : List Rn) : (rcells xs).length = xs.length * 3 := by
  induction xs with
  | nil => rfl
  | cons a xs ih => simp only [rcells, List.flatMap_cons, List.length_append, List.length_cons, List.length_nil] at *; omega
theorem rcells_at (xs : List Rn) : ∀ i, i < xs.length → (rcells xs)[i * 3]? = some (.int .i64 (rx xs i).1) ∧ (rcells xs)[i * 3 + 1]? = some (.int .i64 (rx xs i).2.1) ∧ (rcells xs)[i * 3 + 2]? = some (.int .i64 (rx xs i).2.2) := by
  induction xs with
  | nil => intro i h; simp at h
  | cons a xs ih =>
    intro i h
    cases i with
    | zero => simp [rcells, rx]
    | succ i =>
      have := ih i (by simpa using h)
      have e1 : (i + 1) * 3 = i * 3 + 3 := by omega
      rw [e1]
      have h2 : rx (a :: xs) (i + 1) = rx xs i := by simp [rx]
      rw [h2]
      simpa [rcells] using this

def OwnR (w : World) (B : Nat) (v : Value) (xs : List Rn) : Prop := w.ownsRow B 62 3 v xs.length (rcells xs)
/-- the value v reads as the list xs of runs -/
def IsRuns (w : World) (v : Value) (xs : List Rn) : Prop :=
  ∃ a c, v = .slice a xs.length c ∧ xs.length ≤ maxLen ∧ ∀ i, i < xs.length → ∃ g, a = some ⟨g, 0, none⟩ ∧
    w.cell? ⟨g, i * 3, none⟩ = some (.int .i64 (rx xs i).1) ∧ w.cell? ⟨g, i * 3 + 1, none⟩ = some (.int .i64 (rx xs i).2.1) ∧ w.cell? ⟨g, i * 3 + 2, none⟩ = some (.int .i64 (rx xs i).2.2)
theorem ownR_nil (w : World) (B : Nat) : OwnR w B (.slice none 0 0) [] := World.ownsRow_nil _ _ _ _
theorem ownR_made0 (w : World) (B : Nat) (hB : B ≤ w.heap.size) : OwnR (w.alloc (.cells #[] 62)) B (.slice (some ⟨w.heap.size, 0, none⟩) 0 0) [] :=
  World.ownsRow_made w #[] 0 hB (by decide) rfl
theorem ownR_below {w w' : World} {B : Nat} {v : Value} {xs : List Rn} (h : OwnR w B v xs) (hb : Below w.heap.size w w') : OwnR w' B v xs := by
  have hlt := h.lt
  obtain ⟨h1, h2⟩ := h
  refine ⟨h1, h2.imp_right ?_⟩
  rintro ⟨g, cap, cur, rfl, hB, hh, r⟩
  exact ⟨g, cap, cur, rfl, hB, by rw [hb.block g (hlt g rfl).2]; exact hh, r⟩
theorem ownR_mono {w : World} {B B' : Nat} {v : Value} {xs : List Rn} (h : OwnR w B v xs) (hb : B' ≤ B) : OwnR w B' v xs := by
  obtain ⟨h1, h2⟩ := h
  refine ⟨h1, h2.imp_right ?_⟩
  rintro ⟨g, cap, cur, rfl, hB, r⟩
  exact ⟨g, cap, cur, rfl, by omega, r⟩
theorem ownR_isRuns {w : World} {B : Nat} {v : Value} {xs : List Rn} (h : OwnR w B v xs) : IsRuns w v xs := by
  obtain ⟨h1, h2 | ⟨g, cap, cur, rfl, hB, hh, hn, hm, hs, ht⟩⟩ := h
  · obtain ⟨rfl, h0⟩ := h2
    refine ⟨none, 0, by rw [h0], by omega, fun i hi => by omega⟩
  · refine ⟨_, cap, rfl, by omega, fun i hi => ⟨g, rfl, ?_⟩⟩
    obtain ⟨c0, c1, c2⟩ := rcells_at xs i hi
    have hc : ∀ j, j < xs.length * 3 → w.cell? ⟨g, j, none⟩ = (rcells xs)[j]? := by
      intro j hj
      rw [← ht, List.getElem?_take, if_pos hj, World.cell?, hh]
      simp
    exact ⟨by rw [hc _ (by omega)]; exact c0, by rw [hc _ (by omega)]; exact c1, by rw [hc _ (by omega)]; exact c2⟩
theorem isRuns_below {w w' : World} {v : Value} {xs : List Rn} (h : IsRuns w v xs) (hb : Below w.heap.size w w') : IsRuns w' v xs := by
  obtain ⟨a, c, rfl, hl, hc⟩ := h
  refine ⟨a, c, rfl, hl, fun i hi => ?_⟩
  obtain ⟨g, ha, c0, c1, c2⟩ := hc i hi
  have hlt := World.block_lt_of_cell? w _ c0
  exact ⟨g, ha, (hb.cell (p := ⟨g, i * 3, none⟩) hlt).trans c0, (hb.cell (p := ⟨g, i * 3 + 1, none⟩) hlt).trans c1, (hb.cell (p := ⟨g, i * 3 + 2, none⟩) hlt).trans c2⟩

theorem info62 : (Tryd.prog.info? 62).map (fun i => (i.zero, i.size, i.bytes)) = some (some (.agg #[.int .i64 0, .int .i64 0, .int .i64 0]), 3, 24) := by kernel_rfl
/-- append of one run -/
theorem wpl_app_run {ops : Array Oper} {rest : List Oper} {o : Oper} {a : Act} {Q : Exit → Act → World → Prop} {W : World} (x1 x2 x3 : Int) (r : Rn) (hr1 : x1 = r.1) (hr2 : x2 = r.2.1) (hr3 : x3 = r.2.2)
    (s x : Operand) (v : Value) (B : Nat) (xs : List Rn)
    (hgd : o.guard = none) (ho : o.op = .call { callee := .builtin .append, args := #[s, x], argTypes := #[32, 32] })
    (hs : a.eval s = v) (hx : a.eval x = .slice (some ⟨W.heap.size, 0, none⟩) 1 1)
    (hown : OwnR W B v xs) (hlen : xs.length < 100000000) (hB : B ≤ W.heap.size)
    (h : ∀ v' w', OwnR w' B v' (xs ++ [r]) → AppTo (W.alloc (.cells #[.int .i64 x1, .int .i64 x2, .int .i64 x3] 62)) v w' v' → wpList Tryd.prog ops Q rest (a.put o.dst v') w') :
    wpList Tryd.prog ops Q (o :: rest) a (W.alloc (.cells #[.int .i64 x1, .int .i64 x2, .int .i64 x3] 62)) := by
  subst hr1 hr2 hr3
  exact wpl_appn hgd s x 32 62 ho (.agg #[.int .i64 0, .int .i64 0, .int .i64 0]) 3 24 info62 rfl (by decide) Tryd.underlying32 v B xs.length (rcells xs) hs hown [.int .i64 r.1, .int .i64 r.2.1, .int .i64 r.2.2] rfl (by simp [Value.oneCell']) hx
    (by omega) (by unfold maxLen; omega) hB
    (fun v' w' h1 h2 => h v' w' (by unfold OwnR; rw [rcells_append, List.length_append]; exact h1) h2)

/-- a string's iterator moves on by a letter -/
theorem iter_next {P : Program} {w : World} {k pos : Nat} {s : ByteArray} (hk : w.heap[k]? = some (.stringIter s pos)) (h : pos < s.size) (ha : (s.data.toList.all letter) = true) :
    ∃ w2 c, (∀ ty, (Instr.next (.pointer (some ⟨k, 0, none⟩)) true ty).run P w = .ok (.tuple #[.bool true, .int .i64 pos, .int .i32 c]) w2) ∧
      w2.heap[k]? = some (.stringIter s (pos + 1)) ∧ (∀ j, j ≠ k → w2.heap[j]? = w.heap[j]?) ∧ Below k w w2 ∧ w2.heap.size = w.heap.size := by
  have hl : letter (s[pos]'h) = true := by
    rw [List.all_eq_true] at ha
    exact ha _ (by show s.data[pos] ∈ _; exact Array.getElem_mem_toList (xs := s.data) h)
  have h128 : (s[pos]'h).toNat < 128 := by
    unfold letter at hl
    simp at hl
    omega
  exact ⟨_, _, fun ty => Lib.run_next_ascii_at w k s pos ty hk h h128, Lib.iterAt_heap w k s pos (pos + 1) hk, fun j hj => Lib.iterAt_other w k j s (pos + 1) hj,
    Lib.below_iterAt (Below.refl _ _) (Nat.le_refl _) s (pos + 1), Lib.iterAt_size w k s (pos + 1)⟩
theorem ownR_other {w w2 : World} {B k : Nat} {v : Value} {xs : List Rn} (h : OwnR w B v xs) (hk : k < B) (ho : ∀ j, j ≠ k → w2.heap[j]? = w.heap[j]?) : OwnR w2 B v xs := by
  obtain ⟨h1, h2⟩ := h
  refine ⟨h1, h2.imp_right ?_⟩
  rintro ⟨g, cap, cur, rfl, hB, hh, r⟩
  exact ⟨g, cap, cur, rfl, hB, by rw [ho g (by omega)]; exact hh, r⟩
end Go.Proofs.YtpoekblolicehaaDoor
