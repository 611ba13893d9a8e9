/-
  Chapter 6 in plain words: the grid of a set; the lists of losses, round by round, cell by cell.
  Walks over chapter 6: an oven and a cell are read.
  Walks over chapter 6: Choose and Lost.
  Own slices of strings, and own slices of those; own slices of numbers.
  Walks over chapter 6: Kernel.
-/
import Derived.Test.YtjonbhimbhidpaaDoorZ4
namespace Go.Proofs.YtjonbhimbhidpaaDoor

def letterB (b : Bool) : UInt8 := if b then 46 else 35
def Ov.rowG (o : Ov) (S : Sp → Bool) (p y : Nat) : Str := (List.range o.C).map fun x : Nat => letterB (S ((p : Int), (x : Int), (y : Int)))
def Ov.phG (o : Ov) (S : Sp → Bool) (p : Nat) : List Str := (List.range o.R).map (o.rowG S p)
def Ov.gridOf (o : Ov) (S : Sp → Bool) : Grid := (List.range o.P).map (o.phG S)
theorem letterB_eq (b : Bool) : (letterB b == 46) = b := by cases b <;> rfl
theorem dotx_letterB (b : Bool) : dotx (letterB b) = true := by cases b <;> rfl
theorem rowAt_gridOf (o : Ov) (S : Sp → Bool) (p y : Nat) (hp : p < o.P) (hy : y < o.R) : rowAt (o.gridOf S) p y = o.rowG S p y := by
  simp [rowAt, Ov.gridOf, Ov.phG, List.getD, hp, hy]
theorem chAt_gridOf (o : Ov) (S : Sp → Bool) (p y x : Nat) (hp : p < o.P) (hy : y < o.R) (hx : x < o.C) : chAt (o.gridOf S) p y x = letterB (S ((p : Int), (x : Int), (y : Int))) := by
  unfold chAt
  rw [rowAt_gridOf o S p y hp hy]
  simp [Ov.rowG, List.getD, hx]
theorem inG_gridOf (o : Ov) (S : Sp → Bool) (c : Sp) (h : o.ex c = true) : inG (o.gridOf S) c = S c := by
  obtain ⟨p, x, y, rfl, hp, hx, hy⟩ := ex_cell o c h
  unfold inG
  simp only [Int.toNat_natCast]
  rw [chAt_gridOf o S p y x hp hy hx, letterB_eq]
theorem form_gridOf (o : Ov) (S : Sp → Bool) : formB o.P o.R o.C (o.gridOf S) = true := by
  unfold formB Ov.gridOf phaseOk rowsOk rowOk Ov.phG Ov.rowG
  simp only [List.length_map, List.length_range, decide_true, Bool.true_and, List.all_map, List.all_eq_true, Function.comp, Bool.and_eq_true, List.all_eq_true]
  intro p hp y hy x hx
  exact dotx_letterB _
theorem gridOf_ext (o : Ov) (S T : Sp → Bool) (h : ∀ c, o.ex c = true → S c = T c) : o.gridOf S = o.gridOf T := by
  unfold Ov.gridOf Ov.phG Ov.rowG
  refine List.map_congr_left fun p hp => List.map_congr_left fun y hy => List.map_congr_left fun x hx => ?_
  rw [List.mem_range] at hp hy hx
  rw [h]
  unfold Ov.ex
  simp only [decide_eq_true_eq]
  omega
theorem dotx_letter (c : UInt8) (h : dotx c = true) : letterB (c == 46) = c := by
  unfold dotx at h
  by_cases e : c = 46
  · subst e; rfl
  · simp [e] at h
    subst h; rfl
theorem grid_eq (o : Ov) (g : Grid) (h : formB o.P o.R o.C g = true) : o.gridOf (inG g) = g := by
  have hl := form_len h
  refine List.ext_getElem (by simp [Ov.gridOf, hl]) fun p hp1 hp2 => ?_
  have hp : p < o.P := by simpa [Ov.gridOf] using hp1
  have hpl : g[p].length = o.R := by
    unfold formB at h
    simp only [Bool.and_eq_true, decide_eq_true_eq, List.all_eq_true] at h
    have := h.2 g[p] (List.getElem_mem hp2)
    unfold phaseOk at this
    simp only [Bool.and_eq_true, decide_eq_true_eq] at this
    exact this.1
  refine List.ext_getElem (by simp [Ov.gridOf, Ov.phG, hpl]) fun y hy1 hy2 => ?_
  have hy : y < o.R := by omega
  obtain ⟨h1, h2, h3, h4⟩ := form_row h p y hp hy
  have e1 : rowAt g p y = g[p][y] := by simp [rowAt, List.getD, hp2, hy2]
  rw [e1] at h1 h2
  refine List.ext_getElem (by simp [Ov.gridOf, Ov.phG, Ov.rowG, h1]) fun x hx1 hx2 => ?_
  have hx : x < o.C := by omega
  have e2 : chAt g p y x = g[p][y][x] := by unfold chAt; rw [e1]; simp [List.getD, hx2]
  have e3 : (o.gridOf (inG g))[p][y][x] = chAt (o.gridOf (inG g)) p y x := by
    simp [chAt, rowAt, List.getD, hp1, hy1, hx1]
  rw [e3, chAt_gridOf o _ p y x hp hy hx]
  unfold inG
  simp only [Int.toNat_natCast]
  rw [e2]
  exact dotx_letter _ (List.all_eq_true.1 h2 _ (List.getElem_mem hx2))

/-- the places of the cells -/
def Ov.pos (o : Ov) (c : Sp) : Nat := o.at' c.1.toNat c.2.1.toNat c.2.2.toNat
theorem pos_lt (o : Ov) (c : Sp) (h : o.ex c = true) : o.pos c < o.N ∧ o.cellAt (o.pos c) = c := by
  obtain ⟨p, x, y, rfl, hp, hx, hy⟩ := ex_cell o c h
  unfold Ov.pos
  simp only [Int.toNat_natCast]
  exact ⟨at_lt o p x y hp hx hy, cellAt_at o p x y hx hy⟩
theorem pos_cellAt (o : Ov) (i : Nat) : o.pos (o.cellAt i) = i := by
  unfold Ov.pos Ov.cellAt
  simp only [Int.toNat_natCast]
  exact at_cellAt o i
/-- the set of the cells whose numbers are at least a least one -/
def Ov.whereS (o : Ov) (l : List Int) (least : Int) (c : Sp) : Bool := decide (least ≤ l.getD (o.pos c) 0)
def Ov.listOf (o : Ov) (f : Sp → Int) : List Int := o.cells.map f
theorem listOf_len (o : Ov) (f : Sp → Int) : (o.listOf f).length = o.N := by simp [Ov.listOf, Ov.cells]
theorem listOf_at (o : Ov) (f : Sp → Int) (i : Nat) (h : i < o.N) : (o.listOf f)[i]'(by rw [listOf_len]; exact h) = f (o.cellAt i) := by simp [Ov.listOf, Ov.cells]
theorem listOf_pos (o : Ov) (f : Sp → Int) (c : Sp) (h : o.ex c = true) : (o.listOf f).getD (o.pos c) 0 = f c := by
  obtain ⟨h1, h2⟩ := pos_lt o c h
  rw [List.getD_eq_getElem?_getD, List.getElem?_eq_getElem (by rw [listOf_len]; exact h1), listOf_at o f _ h1, h2]
  rfl
theorem listOf_set (o : Ov) (f : Sp → Int) (i : Nat) (h : i < o.N) (v : Int) : (o.listOf f).set i v = o.listOf (fun c => if c = o.cellAt i then v else f c) := by
  refine List.ext_getElem (by rw [List.length_set, listOf_len, listOf_len]) fun j h1 h2 => ?_
  rw [listOf_len] at h2
  rw [List.getElem_set, listOf_at o f j h2, listOf_at o _ j h2]
  by_cases e : i = j
  · subst e; simp
  · rw [if_neg e, if_neg (fun e2 => e (cellAt_inj o e2).symm)]
theorem listOf_ext (o : Ov) (f g : Sp → Int) (h : ∀ c, o.ex c = true → f c = g c) : o.listOf f = o.listOf g := by
  refine List.map_congr_left fun c hc => h c ?_
  exact (mem_cells o c).1 hc
/-- the first numbers, one by one -/
theorem listOf_take (o : Ov) (f : Sp → Int) (i : Nat) (h : i < o.N) : (o.listOf f).take (i + 1) = (o.listOf f).take i ++ [f (o.cellAt i)] := by
  rw [List.take_add_one]
  have : (o.listOf f)[i]? = some (f (o.cellAt i)) := by
    rw [List.getElem?_eq_getElem (by rw [listOf_len]; exact h), listOf_at o f i h]
  rw [this]; rfl

def lossN : Option Nat → Int
  | some j => j
  | none => 1000000
def Ov.lossF (o : Ov) (k : Nat) (c : Sp) : Int := lossN (o.lost k c)
/-- within a round: the first i cells have been looked at -/
def Ov.lossI (o : Ov) (k i : Nat) (c : Sp) : Int := if c ∈ o.cells.take i then o.lossF (k + 1) c else o.lossF k c
theorem loss_where (o : Ov) (k : Nat) (hk : k < 1000000) (c : Sp) (h : o.ex c = true) : o.whereS (o.listOf (o.lossF k)) 1000000 c = o.K k c := by
  unfold Ov.whereS
  rw [listOf_pos o _ c h]
  unfold Ov.lossF
  cases e : o.lost k c with
  | none => rw [(lost_none o k c).1 e]; rfl
  | some j =>
    have h1 := (lost_some o k c j).1 e
    have h2 : o.K k c = false := by
      cases e2 : o.K k c
      · rfl
      · rw [(lost_none o k c).2 e2] at e; cases e
    rw [h2]
    simp only [lossN]
    exact decide_eq_false (by omega)
theorem lossI_zero (o : Ov) (k : Nat) : o.lossI k 0 = o.lossF k := by funext c; simp [Ov.lossI]
theorem lossI_end (o : Ov) (k : Nat) : o.listOf (o.lossI k o.N) = o.listOf (o.lossF (k + 1)) := by
  refine listOf_ext o _ _ fun c hc => ?_
  unfold Ov.lossI
  rw [List.take_of_length_le (by simp [Ov.cells]), if_pos ((mem_cells o c).2 hc)]
theorem lossI_at (o : Ov) (k i : Nat) (h : i < o.N) : o.lossI k i (o.cellAt i) = o.lossF k (o.cellAt i) := by
  unfold Ov.lossI
  have h2 : (o.cells.take (i + 1)).Nodup := (nodup_cells o).sublist (List.take_sublist _ _)
  rw [take_cells' o i h, List.nodup_append] at h2
  rw [if_neg]
  intro hm
  exact h2.2.2 _ hm _ (by simp) rfl
theorem lossF_never (o : Ov) (k : Nat) (hk : k < 1000000) (c : Sp) : (o.lossF k c == 1000000) = o.K k c := by
  unfold Ov.lossF
  cases e : o.lost k c with
  | none => rw [(lost_none o k c).1 e]; rfl
  | some j =>
    have h1 := (lost_some o k c j).1 e
    have h2 : o.K k c = false := by
      cases e2 : o.K k c
      · rfl
      · rw [(lost_none o k c).2 e2] at e; cases e
    rw [h2]
    simp only [lossN]
    exact beq_false_of_ne (by omega)
/-- a cell that is lost now -/
theorem lossI_out (o : Ov) (k i : Nat) (h : i < o.N) (hf : o.outF k (o.cellAt i) = true) : (fun c => if c = o.cellAt i then ((k : Int) + 1) else o.lossI k i c) = o.lossI k (i + 1) := by
  funext c
  unfold Ov.lossI
  rw [take_cells' o i h]
  by_cases e : c = o.cellAt i
  · subst e
    rw [if_pos rfl, if_pos (by simp)]
    unfold Ov.outF at hf
    simp only [Bool.and_eq_true, Bool.not_eq_true'] at hf
    have h0 := (lost_none o k (o.cellAt i)).2 hf.1
    simp [Ov.lossF, Ov.lost, h0, Ov.K, hf.2, lossN]
  · simp [e]
theorem lossI_in (o : Ov) (k i : Nat) (h : i < o.N) (hf : o.outF k (o.cellAt i) = false) : o.lossI k i = o.lossI k (i + 1) := by
  funext c
  unfold Ov.lossI
  rw [take_cells' o i h]
  by_cases e : c = o.cellAt i
  · subst e
    have : o.lossF (k + 1) (o.cellAt i) = o.lossF k (o.cellAt i) := by
      unfold Ov.lossF
      simp only [Ov.lost]
      cases e2 : o.lost k (o.cellAt i) with
      | some j => rfl
      | none =>
        have h1 := (lost_none o k _).1 e2
        unfold Ov.outF at hf
        simp only [h1, Bool.true_and, Bool.not_eq_false'] at hf
        simp [Ov.K, h1, hf]
    rw [this]; simp
  · simp [e]
theorem outL_nil_of (o : Ov) (k : Nat) (h : o.cells.any (o.outF k) = false) : o.outL k = [] := by
  unfold Ov.outL
  rw [List.filter_eq_nil_iff]
  rw [List.any_eq_false] at h
  exact h
theorem move_congr (o : Ov) (S T : Sp → Bool) (c : Sp) (h : ∀ m ∈ o.moves, ∀ j ∈ o.jolts, S (stepOf c m j) = T (stepOf c m j)) : o.move S c = o.move T c := by
  unfold Ov.move
  have hl : ∀ m ∈ o.moves, o.leads S c m = o.leads T c m := by
    intro m hm
    unfold Ov.leads
    congr 1
    rw [Bool.eq_iff_iff, List.all_eq_true, List.all_eq_true]
    exact ⟨fun g j hj => by rw [← h m hm j hj]; exact g j hj, fun g j hj => by rw [h m hm j hj]; exact g j hj⟩
  have gen : ∀ (ms : List Mv) (k : Nat), (∀ m ∈ ms, o.leads S c m = o.leads T c m) → firstMove o S c k ms = firstMove o T c k ms := by
    intro ms
    induction ms with
    | nil => intro k _; rfl
    | cons m ms ih =>
      intro k hm
      unfold firstMove
      rw [hm m (by simp), ih (k + 1) fun m' hm' => hm m' (by simp [hm'])]
  exact gen o.moves 0 hl
/-- a test by a grid is the set's own -/
theorem exIn_gridOf (o : Ov) (S : Sp → Bool) (h : ∀ c, S c = true → o.ex c = true) : (fun d => o.ex d && inG (o.gridOf S) d) = S := by
  funext d
  cases e : o.ex d
  · cases e2 : S d
    · rfl
    · rw [h d e2] at e; cases e
  · rw [inG_gridOf o S d e]; rfl
/-! ### After as many rounds as there are cells nothing changes any more -/
theorem count_or (o : Ov) : ∀ k, (∃ j, j ≤ k ∧ o.still j) ∨ (o.ker k).length + k ≤ o.N
  | 0 => .inr (ker_le o 0)
  | k + 1 => by
    rcases count_or o k with ⟨j, h, hj⟩ | h
    · exact .inl ⟨j, by omega, hj⟩
    · by_cases hs : o.outL k = []
      · exact .inl ⟨k, by omega, still_of_out o k hs⟩
      · right
        have h1 := count_out o k
        have h2 : (o.outL k).length ≠ 0 := fun e => hs (List.length_eq_zero_iff.1 e)
        omega
theorem still_N (o : Ov) : o.still o.N := by
  rcases count_or o o.N with ⟨j, h, hj⟩ | h
  · intro c
    rw [still_up o hj o.N h, still_up o hj (o.N + 1) (by omega)]
  · have h0 : o.ker o.N = [] := List.length_eq_zero_iff.1 (by omega)
    intro c
    have h1 : o.K o.N c = false := by
      cases e : o.K o.N c
      · rfl
      · have := (mem_ker o o.N c).2 e
        rw [h0] at this; simp at this
    have h2 : o.K (o.N + 1) c = false := by
      cases e : o.K (o.N + 1) c
      · rfl
      · rw [K_succ_le o _ c e] at h1; cases h1
    rw [h1, h2]
/-- the kernel -/
def Ov.KK (o : Ov) : Sp → Bool := o.K o.N
/-- in how many steps a cell is lost -/
def Ov.LL (o : Ov) : Sp → Option Nat := o.lost o.N
theorem KK_of (o : Ov) {k : Nat} (h : o.still k) : o.K k = o.KK := still_eq o h (still_N o)
theorem LL_of (o : Ov) {k : Nat} (h : o.still k) : o.lost k = o.LL := lost_still o h (still_N o)
theorem LL_none (o : Ov) (c : Sp) : o.LL c = none ↔ o.KK c = true := lost_none o o.N c
theorem KK_ex (o : Ov) (c : Sp) (h : o.KK c = true) : o.ex c = true := K_ex o o.N c h
theorem KK_move (o : Ov) (c : Sp) (h : o.KK c = true) : o.canM o.KK c = true := by
  have h1 := still_N o c
  unfold Ov.KK at h ⊢
  rw [h] at h1
  simp only [Ov.K, Bool.and_eq_true] at h1
  exact h1.2
theorem KK_safe (o : Ov) (c : Sp) (h : o.KK c = true) : inG o.safe c = true := K_safe o o.N c h
end Go.Proofs.YtjonbhimbhidpaaDoor

namespace Go.Proofs.YtjonbhimbhidpaaDoor
open Go.RowKit

/-- what 'at' returns -/
def AtR (w : World) (vs vm vj : Value) (o : Ov) (c : Sp) (e : Ending) (w' : World) : Prop :=
  Below w.heap.size w w' ∧ if (o.valid && o.ex c) = true then ∃ x, e = .returned (.tuple #[.pointer (some ⟨x, 0, none⟩), spv c, .int .i64 0]) ∧ OvAt w' x vs vm vj o else e = .returned (.tuple #[.pointer none, spv (0, 0, 0), .int .i64 1])
theorem atR_no {w w' : World} {vs vm vj : Value} {o : Ov} {c : Sp} {e : Ending} (hv : (o.valid && o.ex c) = false) (he : e = .returned (.tuple #[.pointer none, spv (0, 0, 0), .int .i64 1])) (hb : Below w.heap.size w w') : AtR w vs vm vj o c e w' := ⟨hb, by rw [if_neg (by rw [hv]; decide)]; exact he⟩
theorem atR_yes {w w' : World} {vs vm vj : Value} {o : Ov} {c : Sp} {x : Nat} {e : Ending} (hv : (o.valid && o.ex c) = true) (he : e = .returned (.tuple #[.pointer (some ⟨x, 0, none⟩), spv c, .int .i64 0])) (hb : Below w.heap.size w w') (ho : OvAt w' x vs vm vj o) : AtR w vs vm vj o c e w' := ⟨hb, by rw [if_pos hv]; exact ⟨x, he, ho⟩⟩

theorem store3 {W : World} {g : Nat} {a b c x y z : Value} {t : TypeId} (h : W.heap[g]? = some (.cells #[a, b, c] t)) :
    (((W.setCell ⟨g, 0, none⟩ x).setCell ⟨g, 1, none⟩ y).setCell ⟨g, 2, none⟩ z).heap[g]? = some (.cells #[x, y, z] t) := by
  simp [World.setCell, Array.getElem?_modify, h]
theorem below_store3 {B g : Nat} {w W : World} {x y z : Value} (h : Below B w W) (hg : B ≤ g) : Below B w (((W.setCell ⟨g, 0, none⟩ x).setCell ⟨g, 1, none⟩ y).setCell ⟨g, 2, none⟩ z) :=
  ((h.setCell (p := ⟨g, 0, none⟩) hg _).setCell (p := ⟨g, 1, none⟩) hg _).setCell (p := ⟨g, 2, none⟩) hg _

theorem heap_store3 {W : World} {b g : Nat} (hne : b ≠ g) (n : Nat) (x y z : Value) : ((((W.drewN n).setCell ⟨g, 0, none⟩ x).setCell ⟨g, 1, none⟩ y).setCell ⟨g, 2, none⟩ z).heap[b]? = W.heap[b]? := by
  show ((((W.drewN n).setCell ⟨g, 0, none⟩ x).setCell ⟨g, 1, none⟩ y).setCell ⟨g, 2, none⟩ z).heap[b]? = _
  rw [Below.heap_setCell _ _ _ _ hne, Below.heap_setCell _ _ _ _ hne, Below.heap_setCell _ _ _ _ hne]
  rfl
theorem ovAt_store3 {w0 w : World} {b g : Nat} {vs vm vj : Value} {o : Ov} (h : OvAt w b vs vm vj o) (n : Nat) {a : Option Addr} {l c : Nat} (hs : vs = .slice a l c) {k : Int} (hq : w.cell? ⟨g, 0, none⟩ = some (.int .i64 k)) (x y z : Value) (h0 : IsOv w0 vs vm vj o)
    (hb : Below w0.heap.size w0 ((((w.drewN n).setCell ⟨g, 0, none⟩ x).setCell ⟨g, 1, none⟩ y).setCell ⟨g, 2, none⟩ z)) : OvAt ((((w.drewN n).setCell ⟨g, 0, none⟩ x).setCell ⟨g, 1, none⟩ y).setCell ⟨g, 2, none⟩ z) b vs vm vj o := by
  have hne : b ≠ g := by
    rintro rfl
    have := h.c0
    rw [hq, hs] at this
    cases this
  have e := heap_store3 (W := w) hne n x y z
  exact ⟨isOv_below h0 hb, (cell_of_heap e 0).trans h.c0, (cell_of_heap e 1).trans h.c1, (cell_of_heap e 2).trans h.c2, (cell_of_heap e 3).trans h.c3, (cell_of_heap e 4).trans h.c4⟩

set_option maxHeartbeats 10000000 in
set_option maxRecDepth 100000 in
theorem at_any (vs vm vj : Value) (o : Ov) (c : Sp) (w : World) (ho : IsOv w vs vm vj o) (hn : o.Num) :
    Calls Tryd.prog 44 #[.agg #[vs, vm, vj], spv c] w (AtR w vs vm vj o c) := by
  obtain ⟨p, x, y⟩ := c
  have HO := hid ho
  obtain ⟨⟨a1, c1, rfl, _, _⟩, ⟨a2, c2, rfl, _, _⟩, ⟨a3, c3, rfl, _, _⟩⟩ := ho
  obtain ⟨hb3, hz3, k0, k1, k2⟩ := alloc3 w (.cells #[.slice a1 o.safe.length c1, .slice a2 o.moves.length c2, .slice a3 o.jolts.length c3] 26) (.cells #[.int .i64 p, .int .i64 x, .int .i64 y] 28) (.cells #[.int .i64 0, .int .i64 0, .int .i64 0] 87)
  obtain ⟨W, hW⟩ : ∃ W, W = (((w.alloc (.cells #[.slice a1 o.safe.length c1, .slice a2 o.moves.length c2, .slice a3 o.jolts.length c3] 26)).alloc (.cells #[.int .i64 p, .int .i64 x, .int .i64 y] 28)).alloc (.cells #[.int .i64 0, .int .i64 0, .int .i64 0] 87)) := ⟨_, rfl⟩
  rw [← hW] at hb3 hz3 k0 k1 k2
  have cr := hid (read_any _ _ _ o W (isOv_below HO.out hb3) hn)
  obtain ⟨P, hP⟩ : ∃ P, P = o.P := ⟨_, rfl⟩
  obtain ⟨M, hM⟩ : ∃ M, M = o.moves.length := ⟨_, rfl⟩
  obtain ⟨J, hJ⟩ : ∃ J, J = o.jolts.length := ⟨_, rfl⟩
  obtain ⟨R, hR⟩ : ∃ R, R = o.R := ⟨_, rfl⟩
  obtain ⟨C, hC⟩ : ∃ C, C = o.C := ⟨_, rfl⟩
  have hPl : o.safe.length = P := hP.symm
  rw [hPl, ← hM, ← hJ] at cr hW k0
  rw [hPl, ← hM, ← hJ]
  have HP := hid hP
  have HM := hid hM
  have HJ := hid hJ
  have HR := hid hR
  have HC := hid hC
  have K1 := hid k1
  have K2 := hid k2
  have HZ := hid hz3
  have HB := hid hb3
  have HW := hid hW
  unfold spv
  simp only
  clear hn hb3 hz3 k0 k1 k2 hW hP hM hJ hR hC hPl
  cases hv : o.valid
  · have HV : Hid ((o.valid && o.ex (p, x, y)) = false) := by rw [hv]; exact rfl
    have cr2 : Hid (Calls Tryd.prog 51 #[.agg #[.slice a1 P c1, .slice a2 M c2, .slice a3 J c3]] W (fun e w' => e = .returned (.tuple #[.pointer none, .bool false]) ∧ Below W.heap.size W w')) := (cr.out).mono (by
      rintro e w4 ⟨hb4, h4⟩
      rw [hv, if_neg (by decide)] at h4
      exact ⟨h4, hb4⟩)
    clear hv cr
    go_enter Tryd.func44, Tryd.ntmps44
    go_wp2_with (first | (go_at_call 51; rw [← HW.out]; refine (cr2.out).mono ?_; rintro e w4 ⟨rfl, hb4⟩; have k4 := (hb4.block (w.heap.size + 2) (by have := HZ.out; omega)).trans K2.out; have K4 := hid k4; have HB4 := hid hb4; obtain ⟨f0, f1, f2⟩ := free3_of k4; obtain ⟨q0, q1, q2⟩ := cells3_of k4; clear k4 hb4) | fail)
    go_quiet (fail)
    go_wp2
    obtain ⟨s0, s1, s2⟩ := cells3_of (store3 (W := w4.drewN nq) (x := .int .i64 0) (y := .int .i64 0) (z := .int .i64 0) K4.out)
    refine bodyPost_ret (v := .tuple #[.pointer none, .agg #[.int .i64 0, .int .i64 0, .int .i64 0], .int .i64 1]) (by simp [results, Tryd.results44, go_sem, s0, s1, s2]) rfl (atR_no HV.out rfl (below_store3 (below_drewN_r (HB.out.trans (HB4.out.mono HB.out.size)) nq) (by omega)))
  · have HVT := hid hv
    have cr2 : Hid (Calls Tryd.prog 51 #[.agg #[.slice a1 P c1, .slice a2 M c2, .slice a3 J c3]] W (fun e w' => ∃ xb, e = .returned (.tuple #[.pointer (some ⟨xb, 0, none⟩), .bool true]) ∧ OvAt w' xb (.slice a1 P c1) (.slice a2 M c2) (.slice a3 J c3) o ∧ Below W.heap.size W w')) := (cr.out).mono (by
      rintro e w4 ⟨hb4, h4⟩
      rw [hv, if_pos rfl] at h4
      obtain ⟨xb, h5, h6⟩ := h4
      exact ⟨xb, h5, h6, hb4⟩)
    clear hv cr
    by_cases e0 : p < 0
    · have HV : Hid ((o.valid && o.ex (p, x, y)) = false) := by
        rw [Bool.and_eq_false_iff]; right; unfold Ov.ex; rw [← HP.out, ← HR.out, ← HC.out]; exact decide_eq_false (by simp only; omega)
      have D0 : Hid (decide (p < 0) = true) := decide_eq_true e0
      go_enter Tryd.func44, Tryd.ntmps44
      go_wp2_with (first | (go_at_call 51; rw [← HW.out]; refine (cr2.out).mono ?_; rintro e w4 ⟨xb, rfl, hov, hb4⟩; have k4 := (hb4.block (w.heap.size + 2) (by have := HZ.out; omega)).trans K2.out; have k3 := (hb4.block (w.heap.size + 1) (by have := HZ.out; omega)).trans K1.out; obtain ⟨f0, f1, f2⟩ := free3_of k4; obtain ⟨q0, q1, q2⟩ := cells3_of k4; obtain ⟨v0, v1, v2⟩ := cells3_of k3; have u0 := hov.c0; have u3 := hov.c3; have u4 := hov.c4; rw [← HR.out] at u3; rw [← HC.out] at u4; have hl0 := ovAt_lt hov; rw [show o.safe.length = P from HP.out.symm, show o.moves.length = M from HM.out.symm, show o.jolts.length = J from HJ.out.symm] at HO; have HF4 : Hid (∀ n, AtR w (.slice a1 P c1) (.slice a2 M c2) (.slice a3 J c3) o (p, x, y) (.returned (.tuple #[.pointer none, .agg #[.int .i64 0, .int .i64 0, .int .i64 0], .int .i64 1])) ((((w4.drewN n).setCell ⟨w.heap.size + 1 + 1, 0, none⟩ (.int .i64 0)).setCell ⟨w.heap.size + 1 + 1, 1, none⟩ (.int .i64 0)).setCell ⟨w.heap.size + 1 + 1, 2, none⟩ (.int .i64 0))) := (fun n => atR_no HV.out rfl (below_store3 (below_drewN_r (HB.out.trans (hb4.mono HB.out.size)) n) (by omega))); have K4 : Hid (∀ n, ((((w4.drewN n).setCell ⟨w.heap.size + 1 + 1, 0, none⟩ (.int .i64 0)).setCell ⟨w.heap.size + 1 + 1, 1, none⟩ (.int .i64 0)).setCell ⟨w.heap.size + 1 + 1, 2, none⟩ (.int .i64 0)).heap[w.heap.size + 1 + 1]? = some (.cells #[.int .i64 0, .int .i64 0, .int .i64 0] 87)) := (fun n => store3 (W := w4.drewN n) k4); clear k3 k4 hb4 hov HV HB HR HC HP HM HJ K1 K2 HZ HW cr2 HO HVT) | fail)
      clear e0
      have d0 := D0.out
      go_quiet (fail)
      go_wp2
      obtain ⟨s0, s1, s2⟩ := cells3_of (K4.out nq)
      refine bodyPost_ret (v := .tuple #[.pointer none, .agg #[.int .i64 0, .int .i64 0, .int .i64 0], .int .i64 1]) (by simp [results, Tryd.results44, go_sem, s0, s1, s2]) rfl ?_
      exact HF4.out nq
    · skip
      by_cases e1 : (P : Int) ≤ p
      · have HV : Hid ((o.valid && o.ex (p, x, y)) = false) := by
          rw [Bool.and_eq_false_iff]; right; unfold Ov.ex; rw [← HP.out, ← HR.out, ← HC.out]; exact decide_eq_false (by simp only; omega)
        have D0 : Hid (decide (p < 0) = false) := decide_eq_false e0
        have D1 : Hid (decide ((P : Int) ≤ p) = true) := decide_eq_true e1
        go_enter Tryd.func44, Tryd.ntmps44
        go_wp2_with (first | (go_at_call 51; rw [← HW.out]; refine (cr2.out).mono ?_; rintro e w4 ⟨xb, rfl, hov, hb4⟩; have k4 := (hb4.block (w.heap.size + 2) (by have := HZ.out; omega)).trans K2.out; have k3 := (hb4.block (w.heap.size + 1) (by have := HZ.out; omega)).trans K1.out; obtain ⟨f0, f1, f2⟩ := free3_of k4; obtain ⟨q0, q1, q2⟩ := cells3_of k4; obtain ⟨v0, v1, v2⟩ := cells3_of k3; have u0 := hov.c0; have u3 := hov.c3; have u4 := hov.c4; rw [← HR.out] at u3; rw [← HC.out] at u4; have hl0 := ovAt_lt hov; rw [show o.safe.length = P from HP.out.symm, show o.moves.length = M from HM.out.symm, show o.jolts.length = J from HJ.out.symm] at HO; have HF4 : Hid (∀ n, AtR w (.slice a1 P c1) (.slice a2 M c2) (.slice a3 J c3) o (p, x, y) (.returned (.tuple #[.pointer none, .agg #[.int .i64 0, .int .i64 0, .int .i64 0], .int .i64 1])) ((((w4.drewN n).setCell ⟨w.heap.size + 1 + 1, 0, none⟩ (.int .i64 0)).setCell ⟨w.heap.size + 1 + 1, 1, none⟩ (.int .i64 0)).setCell ⟨w.heap.size + 1 + 1, 2, none⟩ (.int .i64 0))) := (fun n => atR_no HV.out rfl (below_store3 (below_drewN_r (HB.out.trans (hb4.mono HB.out.size)) n) (by omega))); have K4 : Hid (∀ n, ((((w4.drewN n).setCell ⟨w.heap.size + 1 + 1, 0, none⟩ (.int .i64 0)).setCell ⟨w.heap.size + 1 + 1, 1, none⟩ (.int .i64 0)).setCell ⟨w.heap.size + 1 + 1, 2, none⟩ (.int .i64 0)).heap[w.heap.size + 1 + 1]? = some (.cells #[.int .i64 0, .int .i64 0, .int .i64 0] 87)) := (fun n => store3 (W := w4.drewN n) k4); clear k3 k4 hb4 hov HV HB HR HC HP HM HJ K1 K2 HZ HW cr2 HO HVT) | fail)
        clear e0 e1
        have d0 := D0.out
        have d1 := D1.out
        go_quiet (fail)
        go_wp2
        obtain ⟨s0, s1, s2⟩ := cells3_of (K4.out nq)
        refine bodyPost_ret (v := .tuple #[.pointer none, .agg #[.int .i64 0, .int .i64 0, .int .i64 0], .int .i64 1]) (by simp [results, Tryd.results44, go_sem, s0, s1, s2]) rfl ?_
        exact HF4.out nq
      · skip
        by_cases e2 : x < 0
        · have HV : Hid ((o.valid && o.ex (p, x, y)) = false) := by
            rw [Bool.and_eq_false_iff]; right; unfold Ov.ex; rw [← HP.out, ← HR.out, ← HC.out]; exact decide_eq_false (by simp only; omega)
          have D0 : Hid (decide (p < 0) = false) := decide_eq_false e0
          have D1 : Hid (decide ((P : Int) ≤ p) = false) := decide_eq_false e1
          have D2 : Hid (decide (x < 0) = true) := decide_eq_true e2
          go_enter Tryd.func44, Tryd.ntmps44
          go_wp2_with (first | (go_at_call 51; rw [← HW.out]; refine (cr2.out).mono ?_; rintro e w4 ⟨xb, rfl, hov, hb4⟩; have k4 := (hb4.block (w.heap.size + 2) (by have := HZ.out; omega)).trans K2.out; have k3 := (hb4.block (w.heap.size + 1) (by have := HZ.out; omega)).trans K1.out; obtain ⟨f0, f1, f2⟩ := free3_of k4; obtain ⟨q0, q1, q2⟩ := cells3_of k4; obtain ⟨v0, v1, v2⟩ := cells3_of k3; have u0 := hov.c0; have u3 := hov.c3; have u4 := hov.c4; rw [← HR.out] at u3; rw [← HC.out] at u4; have hl0 := ovAt_lt hov; rw [show o.safe.length = P from HP.out.symm, show o.moves.length = M from HM.out.symm, show o.jolts.length = J from HJ.out.symm] at HO; have HF4 : Hid (∀ n, AtR w (.slice a1 P c1) (.slice a2 M c2) (.slice a3 J c3) o (p, x, y) (.returned (.tuple #[.pointer none, .agg #[.int .i64 0, .int .i64 0, .int .i64 0], .int .i64 1])) ((((w4.drewN n).setCell ⟨w.heap.size + 1 + 1, 0, none⟩ (.int .i64 0)).setCell ⟨w.heap.size + 1 + 1, 1, none⟩ (.int .i64 0)).setCell ⟨w.heap.size + 1 + 1, 2, none⟩ (.int .i64 0))) := (fun n => atR_no HV.out rfl (below_store3 (below_drewN_r (HB.out.trans (hb4.mono HB.out.size)) n) (by omega))); have K4 : Hid (∀ n, ((((w4.drewN n).setCell ⟨w.heap.size + 1 + 1, 0, none⟩ (.int .i64 0)).setCell ⟨w.heap.size + 1 + 1, 1, none⟩ (.int .i64 0)).setCell ⟨w.heap.size + 1 + 1, 2, none⟩ (.int .i64 0)).heap[w.heap.size + 1 + 1]? = some (.cells #[.int .i64 0, .int .i64 0, .int .i64 0] 87)) := (fun n => store3 (W := w4.drewN n) k4); clear k3 k4 hb4 hov HV HB HR HC HP HM HJ K1 K2 HZ HW cr2 HO HVT) | fail)
          clear e0 e1 e2
          have d0 := D0.out
          have d1 := D1.out
          have d2 := D2.out
          go_quiet (fail)
          go_wp2
          obtain ⟨s0, s1, s2⟩ := cells3_of (K4.out nq)
          refine bodyPost_ret (v := .tuple #[.pointer none, .agg #[.int .i64 0, .int .i64 0, .int .i64 0], .int .i64 1]) (by simp [results, Tryd.results44, go_sem, s0, s1, s2]) rfl ?_
          exact HF4.out nq
        · skip
          by_cases e3 : (C : Int) ≤ x
          · have HV : Hid ((o.valid && o.ex (p, x, y)) = false) := by
              rw [Bool.and_eq_false_iff]; right; unfold Ov.ex; rw [← HP.out, ← HR.out, ← HC.out]; exact decide_eq_false (by simp only; omega)
            have D0 : Hid (decide (p < 0) = false) := decide_eq_false e0
            have D1 : Hid (decide ((P : Int) ≤ p) = false) := decide_eq_false e1
            have D2 : Hid (decide (x < 0) = false) := decide_eq_false e2
            have D3 : Hid (decide ((C : Int) ≤ x) = true) := decide_eq_true e3
            go_enter Tryd.func44, Tryd.ntmps44
            go_wp2_with (first | (go_at_call 51; rw [← HW.out]; refine (cr2.out).mono ?_; rintro e w4 ⟨xb, rfl, hov, hb4⟩; have k4 := (hb4.block (w.heap.size + 2) (by have := HZ.out; omega)).trans K2.out; have k3 := (hb4.block (w.heap.size + 1) (by have := HZ.out; omega)).trans K1.out; obtain ⟨f0, f1, f2⟩ := free3_of k4; obtain ⟨q0, q1, q2⟩ := cells3_of k4; obtain ⟨v0, v1, v2⟩ := cells3_of k3; have u0 := hov.c0; have u3 := hov.c3; have u4 := hov.c4; rw [← HR.out] at u3; rw [← HC.out] at u4; have hl0 := ovAt_lt hov; rw [show o.safe.length = P from HP.out.symm, show o.moves.length = M from HM.out.symm, show o.jolts.length = J from HJ.out.symm] at HO; have HF4 : Hid (∀ n, AtR w (.slice a1 P c1) (.slice a2 M c2) (.slice a3 J c3) o (p, x, y) (.returned (.tuple #[.pointer none, .agg #[.int .i64 0, .int .i64 0, .int .i64 0], .int .i64 1])) ((((w4.drewN n).setCell ⟨w.heap.size + 1 + 1, 0, none⟩ (.int .i64 0)).setCell ⟨w.heap.size + 1 + 1, 1, none⟩ (.int .i64 0)).setCell ⟨w.heap.size + 1 + 1, 2, none⟩ (.int .i64 0))) := (fun n => atR_no HV.out rfl (below_store3 (below_drewN_r (HB.out.trans (hb4.mono HB.out.size)) n) (by omega))); have K4 : Hid (∀ n, ((((w4.drewN n).setCell ⟨w.heap.size + 1 + 1, 0, none⟩ (.int .i64 0)).setCell ⟨w.heap.size + 1 + 1, 1, none⟩ (.int .i64 0)).setCell ⟨w.heap.size + 1 + 1, 2, none⟩ (.int .i64 0)).heap[w.heap.size + 1 + 1]? = some (.cells #[.int .i64 0, .int .i64 0, .int .i64 0] 87)) := (fun n => store3 (W := w4.drewN n) k4); clear k3 k4 hb4 hov HV HB HR HC HP HM HJ K1 K2 HZ HW cr2 HO HVT) | fail)
            clear e0 e1 e2 e3
            have d0 := D0.out
            have d1 := D1.out
            have d2 := D2.out
            have d3 := D3.out
            go_quiet (fail)
            go_wp2
            obtain ⟨s0, s1, s2⟩ := cells3_of (K4.out nq)
            refine bodyPost_ret (v := .tuple #[.pointer none, .agg #[.int .i64 0, .int .i64 0, .int .i64 0], .int .i64 1]) (by simp [results, Tryd.results44, go_sem, s0, s1, s2]) rfl ?_
            exact HF4.out nq
          · skip
            by_cases e4 : y < 0
            · have HV : Hid ((o.valid && o.ex (p, x, y)) = false) := by
                rw [Bool.and_eq_false_iff]; right; unfold Ov.ex; rw [← HP.out, ← HR.out, ← HC.out]; exact decide_eq_false (by simp only; omega)
              have D0 : Hid (decide (p < 0) = false) := decide_eq_false e0
              have D1 : Hid (decide ((P : Int) ≤ p) = false) := decide_eq_false e1
              have D2 : Hid (decide (x < 0) = false) := decide_eq_false e2
              have D3 : Hid (decide ((C : Int) ≤ x) = false) := decide_eq_false e3
              have D4 : Hid (decide (y < 0) = true) := decide_eq_true e4
              go_enter Tryd.func44, Tryd.ntmps44
              go_wp2_with (first | (go_at_call 51; rw [← HW.out]; refine (cr2.out).mono ?_; rintro e w4 ⟨xb, rfl, hov, hb4⟩; have k4 := (hb4.block (w.heap.size + 2) (by have := HZ.out; omega)).trans K2.out; have k3 := (hb4.block (w.heap.size + 1) (by have := HZ.out; omega)).trans K1.out; obtain ⟨f0, f1, f2⟩ := free3_of k4; obtain ⟨q0, q1, q2⟩ := cells3_of k4; obtain ⟨v0, v1, v2⟩ := cells3_of k3; have u0 := hov.c0; have u3 := hov.c3; have u4 := hov.c4; rw [← HR.out] at u3; rw [← HC.out] at u4; have hl0 := ovAt_lt hov; rw [show o.safe.length = P from HP.out.symm, show o.moves.length = M from HM.out.symm, show o.jolts.length = J from HJ.out.symm] at HO; have HF4 : Hid (∀ n, AtR w (.slice a1 P c1) (.slice a2 M c2) (.slice a3 J c3) o (p, x, y) (.returned (.tuple #[.pointer none, .agg #[.int .i64 0, .int .i64 0, .int .i64 0], .int .i64 1])) ((((w4.drewN n).setCell ⟨w.heap.size + 1 + 1, 0, none⟩ (.int .i64 0)).setCell ⟨w.heap.size + 1 + 1, 1, none⟩ (.int .i64 0)).setCell ⟨w.heap.size + 1 + 1, 2, none⟩ (.int .i64 0))) := (fun n => atR_no HV.out rfl (below_store3 (below_drewN_r (HB.out.trans (hb4.mono HB.out.size)) n) (by omega))); have K4 : Hid (∀ n, ((((w4.drewN n).setCell ⟨w.heap.size + 1 + 1, 0, none⟩ (.int .i64 0)).setCell ⟨w.heap.size + 1 + 1, 1, none⟩ (.int .i64 0)).setCell ⟨w.heap.size + 1 + 1, 2, none⟩ (.int .i64 0)).heap[w.heap.size + 1 + 1]? = some (.cells #[.int .i64 0, .int .i64 0, .int .i64 0] 87)) := (fun n => store3 (W := w4.drewN n) k4); clear k3 k4 hb4 hov HV HB HR HC HP HM HJ K1 K2 HZ HW cr2 HO HVT) | fail)
              clear e0 e1 e2 e3 e4
              have d0 := D0.out
              have d1 := D1.out
              have d2 := D2.out
              have d3 := D3.out
              have d4 := D4.out
              go_quiet (fail)
              go_wp2
              obtain ⟨s0, s1, s2⟩ := cells3_of (K4.out nq)
              refine bodyPost_ret (v := .tuple #[.pointer none, .agg #[.int .i64 0, .int .i64 0, .int .i64 0], .int .i64 1]) (by simp [results, Tryd.results44, go_sem, s0, s1, s2]) rfl ?_
              exact HF4.out nq
            · skip
              by_cases e5 : (R : Int) ≤ y
              · have HV : Hid ((o.valid && o.ex (p, x, y)) = false) := by
                  rw [Bool.and_eq_false_iff]; right; unfold Ov.ex; rw [← HP.out, ← HR.out, ← HC.out]; exact decide_eq_false (by simp only; omega)
                have D0 : Hid (decide (p < 0) = false) := decide_eq_false e0
                have D1 : Hid (decide ((P : Int) ≤ p) = false) := decide_eq_false e1
                have D2 : Hid (decide (x < 0) = false) := decide_eq_false e2
                have D3 : Hid (decide ((C : Int) ≤ x) = false) := decide_eq_false e3
                have D4 : Hid (decide (y < 0) = false) := decide_eq_false e4
                have D5 : Hid (decide ((R : Int) ≤ y) = true) := decide_eq_true e5
                go_enter Tryd.func44, Tryd.ntmps44
                go_wp2_with (first | (go_at_call 51; rw [← HW.out]; refine (cr2.out).mono ?_; rintro e w4 ⟨xb, rfl, hov, hb4⟩; have k4 := (hb4.block (w.heap.size + 2) (by have := HZ.out; omega)).trans K2.out; have k3 := (hb4.block (w.heap.size + 1) (by have := HZ.out; omega)).trans K1.out; obtain ⟨f0, f1, f2⟩ := free3_of k4; obtain ⟨q0, q1, q2⟩ := cells3_of k4; obtain ⟨v0, v1, v2⟩ := cells3_of k3; have u0 := hov.c0; have u3 := hov.c3; have u4 := hov.c4; rw [← HR.out] at u3; rw [← HC.out] at u4; have hl0 := ovAt_lt hov; rw [show o.safe.length = P from HP.out.symm, show o.moves.length = M from HM.out.symm, show o.jolts.length = J from HJ.out.symm] at HO; have HF4 : Hid (∀ n, AtR w (.slice a1 P c1) (.slice a2 M c2) (.slice a3 J c3) o (p, x, y) (.returned (.tuple #[.pointer none, .agg #[.int .i64 0, .int .i64 0, .int .i64 0], .int .i64 1])) ((((w4.drewN n).setCell ⟨w.heap.size + 1 + 1, 0, none⟩ (.int .i64 0)).setCell ⟨w.heap.size + 1 + 1, 1, none⟩ (.int .i64 0)).setCell ⟨w.heap.size + 1 + 1, 2, none⟩ (.int .i64 0))) := (fun n => atR_no HV.out rfl (below_store3 (below_drewN_r (HB.out.trans (hb4.mono HB.out.size)) n) (by omega))); have K4 : Hid (∀ n, ((((w4.drewN n).setCell ⟨w.heap.size + 1 + 1, 0, none⟩ (.int .i64 0)).setCell ⟨w.heap.size + 1 + 1, 1, none⟩ (.int .i64 0)).setCell ⟨w.heap.size + 1 + 1, 2, none⟩ (.int .i64 0)).heap[w.heap.size + 1 + 1]? = some (.cells #[.int .i64 0, .int .i64 0, .int .i64 0] 87)) := (fun n => store3 (W := w4.drewN n) k4); clear k3 k4 hb4 hov HV HB HR HC HP HM HJ K1 K2 HZ HW cr2 HO HVT) | fail)
                clear e0 e1 e2 e3 e4 e5
                have d0 := D0.out
                have d1 := D1.out
                have d2 := D2.out
                have d3 := D3.out
                have d4 := D4.out
                have d5 := D5.out
                go_quiet (fail)
                go_wp2
                obtain ⟨s0, s1, s2⟩ := cells3_of (K4.out nq)
                refine bodyPost_ret (v := .tuple #[.pointer none, .agg #[.int .i64 0, .int .i64 0, .int .i64 0], .int .i64 1]) (by simp [results, Tryd.results44, go_sem, s0, s1, s2]) rfl ?_
                exact HF4.out nq
              · skip
                have HV : Hid ((o.valid && o.ex (p, x, y)) = true) := by
                  rw [HVT.out, Bool.true_and]; unfold Ov.ex; rw [← HP.out, ← HR.out, ← HC.out]; exact decide_eq_true (by simp only; omega)
                have D0 : Hid (decide (p < 0) = false) := decide_eq_false e0
                have D1 : Hid (decide ((P : Int) ≤ p) = false) := decide_eq_false e1
                have D2 : Hid (decide (x < 0) = false) := decide_eq_false e2
                have D3 : Hid (decide ((C : Int) ≤ x) = false) := decide_eq_false e3
                have D4 : Hid (decide (y < 0) = false) := decide_eq_false e4
                have D5 : Hid (decide ((R : Int) ≤ y) = false) := decide_eq_false e5
                go_enter Tryd.func44, Tryd.ntmps44
                go_wp2_with (first | (go_at_call 51; rw [← HW.out]; refine (cr2.out).mono ?_; rintro e w4 ⟨xb, rfl, hov, hb4⟩; have k4 := (hb4.block (w.heap.size + 2) (by have := HZ.out; omega)).trans K2.out; have k3 := (hb4.block (w.heap.size + 1) (by have := HZ.out; omega)).trans K1.out; obtain ⟨f0, f1, f2⟩ := free3_of k4; obtain ⟨q0, q1, q2⟩ := cells3_of k4; obtain ⟨v0, v1, v2⟩ := cells3_of k3; have u0 := hov.c0; have u3 := hov.c3; have u4 := hov.c4; rw [← HR.out] at u3; rw [← HC.out] at u4; have hl0 := ovAt_lt hov; rw [show o.safe.length = P from HP.out.symm, show o.moves.length = M from HM.out.symm, show o.jolts.length = J from HJ.out.symm] at HO; have HF4 : Hid (∀ n, AtR w (.slice a1 P c1) (.slice a2 M c2) (.slice a3 J c3) o (p, x, y) (.returned (.tuple #[.pointer (some ⟨xb, 0, none⟩), .agg #[.int .i64 p, .int .i64 x, .int .i64 y], .int .i64 0])) ((((w4.drewN n).setCell ⟨w.heap.size + 1 + 1, 0, none⟩ (.int .i64 p)).setCell ⟨w.heap.size + 1 + 1, 1, none⟩ (.int .i64 x)).setCell ⟨w.heap.size + 1 + 1, 2, none⟩ (.int .i64 y))) := (fun n => atR_yes HV.out rfl (below_store3 (below_drewN_r (HB.out.trans (hb4.mono HB.out.size)) n) (by omega)) (ovAt_store3 hov n rfl q0 _ _ _ HO.out (below_store3 (below_drewN_r (HB.out.trans (hb4.mono HB.out.size)) n) (by omega)))); have K4 : Hid (∀ n, ((((w4.drewN n).setCell ⟨w.heap.size + 1 + 1, 0, none⟩ (.int .i64 p)).setCell ⟨w.heap.size + 1 + 1, 1, none⟩ (.int .i64 x)).setCell ⟨w.heap.size + 1 + 1, 2, none⟩ (.int .i64 y)).heap[w.heap.size + 1 + 1]? = some (.cells #[.int .i64 p, .int .i64 x, .int .i64 y] 87)) := (fun n => store3 (W := w4.drewN n) k4); clear k3 k4 hb4 hov HR HC HP HM HJ K1 K2 HZ HW cr2 HO HVT) | fail)
                clear e0 e1 e2 e3 e4 e5
                have d0 := D0.out
                have d1 := D1.out
                have d2 := D2.out
                have d3 := D3.out
                have d4 := D4.out
                have d5 := D5.out
                go_quiet (fail)
                go_wp2
                go_region
                all_goals
                  (try go_wp2)
                  obtain ⟨s0, s1, s2⟩ := cells3_of (K4.out (nq + 1))
                  refine bodyPost_ret (v := .tuple #[.pointer (some ⟨xb, 0, none⟩), .agg #[.int .i64 p, .int .i64 x, .int .i64 y], .int .i64 0]) (by simp [results, Tryd.results44, go_sem, s0, s1, s2]) rfl ?_
                  exact HF4.out (nq + 1)
end Go.Proofs.YtjonbhimbhidpaaDoor

namespace Go.Proofs.YtjonbhimbhidpaaDoor
open Go.RowKit

theorem alloc2 (w : World) (a b : Obj) : Below w.heap.size w ((w.alloc a).alloc b) ∧ ((w.alloc a).alloc b).heap.size = w.heap.size + 2 ∧ ((w.alloc a).alloc b).heap[w.heap.size]? = some a ∧ ((w.alloc a).alloc b).heap[w.heap.size + 1]? = some b := by
  refine ⟨((Below.refl _ _).alloc (Nat.le_refl _) _).alloc (by simp) _, by simp, ?_, ?_⟩
  · rw [Below.heap_alloc _ _ _ (by simp)]
    exact heap_alloc_new _ _
  · rw [show w.heap.size + 1 = (w.alloc a).heap.size by simp]
    exact heap_alloc_new _ _
/-- the kernel, in the words KK and LL -/
theorem kernel_kk (b : Nat) (vs vm vj : Value) (o : Ov) (w : World) (ho : OvAt w b vs vm vj o) (hok : o.Ok) :
    Calls Tryd.prog 45 #[.pointer (some ⟨b, 0, none⟩)] w fun e w' => ∃ m ml n, e = .returned (.tuple #[.map (some m), .map (some ml)]) ∧ SetW w' m (o.cells.filter o.KK) ∧ NumW w' ml n (fun c => if o.ex c then o.LL c else none) ∧ Below w.heap.size w w' := by
  refine (kernel_any b vs vm vj o w ho hok).mono ?_
  rintro e w' ⟨k, m, ml, n, rfl, hs, h1, h2, h3⟩
  rw [KK_of o hs] at h1
  rw [LL_of o hs] at h2
  exact ⟨m, ml, n, rfl, h1, h2, h3⟩
theorem dec_KK (o : Ov) : (fun d => decide (d ∈ o.cells.filter o.KK)) = o.KK := by
  funext d
  rw [Bool.eq_iff_iff, decide_eq_true_eq, List.mem_filter, mem_cells]
  exact ⟨fun h => h.2, fun h => ⟨KK_ex o d h, h⟩⟩

def chooseV (o : Ov) (c : Sp) : Value := if (o.valid && o.ex c) = true then (if o.KK c = true then .tuple #[.int .i64 (o.move o.KK c), .int .i64 0] else .tuple #[.int .i64 0, .int .i64 5]) else .tuple #[.int .i64 0, .int .i64 1]

set_option maxHeartbeats 4000000 in
set_option maxRecDepth 100000 in
theorem choose_any (vs vm vj : Value) (o : Ov) (c : Sp) (w : World) (ho : IsOv w vs vm vj o) (hn : o.Num) :
    Calls Tryd.prog 15 #[.agg #[vs, vm, vj], spv c] w fun e w' => e = .returned (chooseV o c) ∧ Below w.heap.size w w' := by
  have hmf : ∀ (fn : Fn) (first cap : Array Value) (w : World), (Instr.makeFunc fn first cap).run Tryd.prog w = .ok (.func fn first cap) w := fun _ _ _ _ => rfl
  obtain ⟨p, x, y⟩ := c
  have HO := hid ho
  obtain ⟨hb2, hz2, k0, k1⟩ := alloc2 w (.cells #[vs, vm, vj] 26) (.cells #[.int .i64 p, .int .i64 x, .int .i64 y] 28)
  obtain ⟨W, hW⟩ : ∃ W, W = ((w.alloc (.cells #[vs, vm, vj] 26)).alloc (.cells #[.int .i64 p, .int .i64 x, .int .i64 y] 28)) := ⟨_, rfl⟩
  rw [← hW] at hb2 hz2 k0 k1
  have cr := hid (at_any _ _ _ o (p, x, y) W (isOv_below HO.out hb2) hn)
  have HB := hid hb2
  have HW := hid hW
  unfold spv at cr ⊢
  simp only
  clear hn hb2 hz2 k0 k1 hW ho
  cases hv : (o.valid && o.ex (p, x, y))
  · have HR : Hid (chooseV o (p, x, y) = .tuple #[.int .i64 0, .int .i64 1]) := by unfold chooseV; rw [if_neg (by rw [hv]; decide)]; exact rfl
    have cr2 : Hid (Calls Tryd.prog 44 #[.agg #[vs, vm, vj], .agg #[.int .i64 p, .int .i64 x, .int .i64 y]] W (fun e w' => e = .returned (.tuple #[.pointer none, .agg #[.int .i64 0, .int .i64 0, .int .i64 0], .int .i64 1]) ∧ Below W.heap.size W w')) := (cr.out).mono (by
      rintro e w4 ⟨hb4, h4⟩
      rw [hv, if_neg (by decide)] at h4
      exact ⟨h4, hb4⟩)
    clear hv cr
    go_enter Tryd.func15, Tryd.ntmps15
    go_wp2_with (first | (go_at_call 44; rw [← HW.out]; refine (cr2.out).mono ?_; rintro e w4 ⟨rfl, hb4⟩; have HB4 := hid hb4; clear hb4) | fail)
    go_ret2
    refine ⟨ret_eq HR.out.symm, ?_⟩
    have hb := HB.out.trans (HB4.out.mono HB.out.size)
    exact hb.alloc hb.size _
  · have HOK : Hid o.Ok := by rw [Bool.and_eq_true] at hv; exact ok_of_valid hv.1
    have HEX : Hid (o.ex (p, x, y) = true) := by rw [Bool.and_eq_true] at hv; exact hv.2
    have cr2 : Hid (Calls Tryd.prog 44 #[.agg #[vs, vm, vj], .agg #[.int .i64 p, .int .i64 x, .int .i64 y]] W (fun e w' => ∃ xb, e = .returned (.tuple #[.pointer (some ⟨xb, 0, none⟩), .agg #[.int .i64 p, .int .i64 x, .int .i64 y], .int .i64 0]) ∧ OvAt w' xb vs vm vj o ∧ Below W.heap.size W w')) := (cr.out).mono (by
      rintro e w4 ⟨hb4, h4⟩
      rw [hv, if_pos rfl] at h4
      obtain ⟨xb, h5, h6⟩ := h4
      exact ⟨xb, h5, h6, hb4⟩)
    have HV := hid hv
    clear hv cr
    cases hk : o.KK (p, x, y)
    · have HR : Hid (chooseV o (p, x, y) = .tuple #[.int .i64 0, .int .i64 5]) := by unfold chooseV; rw [if_pos (HV.out), if_neg (by rw [hk]; decide)]; exact rfl
      go_enter Tryd.func15, Tryd.ntmps15
      go_wp2_with (first
        | (go_at_call 44; rw [← HW.out]; refine (cr2.out).mono ?_; rintro e w4 ⟨xb, rfl, hov, hb4⟩; have HOV := hid hov; have HB4 := hid hb4; clear hb4 hov)
        | (go_at_call 45; refine (kernel_kk xb vs vm vj o _ (ovAt_below HOV.out ((Below.refl _ _).alloc (Nat.le_refl _) _)) HOK.out).mono ?_; rintro e w5 ⟨m, ml, n, rfl, hS, hN, hb5⟩; obtain ⟨z0, z1, z2⟩ := cells3_of ((hb5.block w4.heap.size (by simp)).trans (heap_alloc_new w4 _)); have l5 : w4.heap.size < w5.heap.size := (by have := hb5.size; simp at this; omega); have hlk := setW_look (setW_kept (row := none) hS (World.grownBy_alloc w5 (Obj.cells #[.map (some m)] 90) none) (by simp)) (ex_inR HOK.out HEX.out); rw [show decide ((p, x, y) ∈ o.cells.filter o.KK) = o.KK (p, x, y) from congrFun (dec_KK o) _, hk] at hlk; unfold spv at hlk; simp only at hlk; have HS := hid hS; have HB5 := hid hb5; have HOV5 := hid (ovAt_below HOV.out (((Below.refl _ _).alloc (Nat.le_refl _) _).trans (hb5.mono (by simp)))); clear hS hN hb5)
        | fail)
      go_ret2
      refine ⟨ret_eq HR.out.symm, ?_⟩
      have hb := HB.out.trans (HB4.out.mono HB.out.size)
      have hb' := (hb.alloc hb.size (Obj.cells #[Value.int IntKind.i64 p, Value.int IntKind.i64 x, Value.int IntKind.i64 y] 87))
      have hb'' := hb'.trans (HB5.out.mono hb'.size)
      exact hb''.alloc hb''.size _
    · have HR : Hid (chooseV o (p, x, y) = .tuple #[.int .i64 (o.move o.KK (p, x, y)), .int .i64 0]) := by unfold chooseV; rw [if_pos (HV.out), if_pos hk]; exact rfl
      go_enter Tryd.func15, Tryd.ntmps15
      go_wp2_with (first
        | (go_at_call 44; rw [← HW.out]; refine (cr2.out).mono ?_; rintro e w4 ⟨xb, rfl, hov, hb4⟩; have HOV := hid hov; have HB4 := hid hb4; clear hb4 hov)
        | (go_at_call 45; refine (kernel_kk xb vs vm vj o _ (ovAt_below HOV.out ((Below.refl _ _).alloc (Nat.le_refl _) _)) HOK.out).mono ?_; rintro e w5 ⟨m, ml, n, rfl, hS, hN, hb5⟩; obtain ⟨z0, z1, z2⟩ := cells3_of ((hb5.block w4.heap.size (by simp)).trans (heap_alloc_new w4 _)); have l5 : w4.heap.size < w5.heap.size := (by have := hb5.size; simp at this; omega); have hlk := setW_look (setW_kept (row := none) hS (World.grownBy_alloc w5 (Obj.cells #[.map (some m)] 90) none) (by simp)) (ex_inR HOK.out HEX.out); rw [show decide ((p, x, y) ∈ o.cells.filter o.KK) = o.KK (p, x, y) from congrFun (dec_KK o) _, hk] at hlk; unfold spv at hlk; simp only at hlk; have HS := hid hS; have HB5 := hid hb5; have HOV5 := hid (ovAt_below HOV.out (((Below.refl _ _).alloc (Nat.le_refl _) _).trans (hb5.mono (by simp)))); clear hS hN hb5)
        | (go_at_call 46; have cm := move_any xb vs vm vj o (p, x, y) 47 #[.pointer (some ⟨w5.heap.size, 0, none⟩)] _ (w5.alloc (Obj.cells #[.map (some m)] 90)) (ovAt_below HOV5.out ((Below.refl _ _).alloc (Nat.le_refl _) _)) HOK.out HEX.out (testC47 (box1 (heap_alloc_new _ _)) (setW_kept (row := none) HS.out (World.grownBy_alloc w5 (Obj.cells #[.map (some m)] 90) none) (by simp))); rw [dec_KK] at cm; refine cm.mono ?_; rintro e w6 ⟨rfl, hb6⟩; have HB6 := hid hb6; clear hb6 cm)
        | fail)
      go_ret2
      refine ⟨ret_eq HR.out.symm, ?_⟩
      have hb := HB.out.trans (HB4.out.mono HB.out.size)
      have hb' := (hb.alloc hb.size (Obj.cells #[Value.int IntKind.i64 p, Value.int IntKind.i64 x, Value.int IntKind.i64 y] 87))
      have hb'' := hb'.trans (HB5.out.mono hb'.size)
      have hb3 := hb''.alloc hb''.size (Obj.cells #[.map (some m)] 90)
      exact hb3.trans (HB6.out.mono hb3.size)

def lostV (o : Ov) (c : Sp) : Value := if (o.valid && o.ex c) = true then (match o.LL c with | some j => .tuple #[.int .i64 j, .int .i64 0] | none => .tuple #[.int .i64 0, .int .i64 5]) else .tuple #[.int .i64 0, .int .i64 1]

set_option maxHeartbeats 4000000 in
set_option maxRecDepth 100000 in
theorem lost_any (vs vm vj : Value) (o : Ov) (c : Sp) (w : World) (ho : IsOv w vs vm vj o) (hn : o.Num) :
    Calls Tryd.prog 16 #[.agg #[vs, vm, vj], spv c] w fun e w' => e = .returned (lostV o c) ∧ Below w.heap.size w w' := by
  have hmf : ∀ (fn : Fn) (first cap : Array Value) (w : World), (Instr.makeFunc fn first cap).run Tryd.prog w = .ok (.func fn first cap) w := fun _ _ _ _ => rfl
  obtain ⟨p, x, y⟩ := c
  have HO := hid ho
  obtain ⟨hb2, hz2, k0, k1⟩ := alloc2 w (.cells #[vs, vm, vj] 26) (.cells #[.int .i64 p, .int .i64 x, .int .i64 y] 28)
  obtain ⟨W, hW⟩ : ∃ W, W = ((w.alloc (.cells #[vs, vm, vj] 26)).alloc (.cells #[.int .i64 p, .int .i64 x, .int .i64 y] 28)) := ⟨_, rfl⟩
  rw [← hW] at hb2 hz2 k0 k1
  have cr := hid (at_any _ _ _ o (p, x, y) W (isOv_below HO.out hb2) hn)
  have HB := hid hb2
  have HW := hid hW
  unfold spv at cr ⊢
  simp only
  clear hn hb2 hz2 k0 k1 hW ho
  cases hv : (o.valid && o.ex (p, x, y))
  · have HR : Hid (lostV o (p, x, y) = .tuple #[.int .i64 0, .int .i64 1]) := by unfold lostV; rw [if_neg (by rw [hv]; decide)]; exact rfl
    have cr2 : Hid (Calls Tryd.prog 44 #[.agg #[vs, vm, vj], .agg #[.int .i64 p, .int .i64 x, .int .i64 y]] W (fun e w' => e = .returned (.tuple #[.pointer none, .agg #[.int .i64 0, .int .i64 0, .int .i64 0], .int .i64 1]) ∧ Below W.heap.size W w')) := (cr.out).mono (by
      rintro e w4 ⟨hb4, h4⟩
      rw [hv, if_neg (by decide)] at h4
      exact ⟨h4, hb4⟩)
    clear hv cr
    go_enter Tryd.func16, Tryd.ntmps16
    go_wp2_with (first | (go_at_call 44; rw [← HW.out]; refine (cr2.out).mono ?_; rintro e w4 ⟨rfl, hb4⟩; have HB4 := hid hb4; clear hb4) | fail)
    go_ret2
    refine ⟨ret_eq HR.out.symm, ?_⟩
    have hb := HB.out.trans (HB4.out.mono HB.out.size)
    exact hb.alloc hb.size _
  · have HOK : Hid o.Ok := by rw [Bool.and_eq_true] at hv; exact ok_of_valid hv.1
    have HEX : Hid (o.ex (p, x, y) = true) := by rw [Bool.and_eq_true] at hv; exact hv.2
    have cr2 : Hid (Calls Tryd.prog 44 #[.agg #[vs, vm, vj], .agg #[.int .i64 p, .int .i64 x, .int .i64 y]] W (fun e w' => ∃ xb, e = .returned (.tuple #[.pointer (some ⟨xb, 0, none⟩), .agg #[.int .i64 p, .int .i64 x, .int .i64 y], .int .i64 0]) ∧ OvAt w' xb vs vm vj o ∧ Below W.heap.size W w')) := (cr.out).mono (by
      rintro e w4 ⟨hb4, h4⟩
      rw [hv, if_pos rfl] at h4
      obtain ⟨xb, h5, h6⟩ := h4
      exact ⟨xb, h5, h6, hb4⟩)
    have HV := hid hv
    clear hv cr
    cases hk : o.LL (p, x, y) with
    | none =>
      have HR : Hid (lostV o (p, x, y) = .tuple #[.int .i64 0, .int .i64 5]) := by unfold lostV; rw [if_pos (HV.out), hk]; exact rfl
      go_enter Tryd.func16, Tryd.ntmps16
      go_wp2_with (first
        | (go_at_call 44; rw [← HW.out]; refine (cr2.out).mono ?_; rintro e w4 ⟨xb, rfl, hov, hb4⟩; have HOV := hid hov; have HB4 := hid hb4; clear hb4 hov)
        | (go_at_call 45; refine (kernel_kk xb vs vm vj o _ (ovAt_below HOV.out ((Below.refl _ _).alloc (Nat.le_refl _) _)) HOK.out).mono ?_; rintro e w5 ⟨m, ml, n, rfl, hS, hN, hb5⟩; obtain ⟨z0, z1, z2⟩ := cells3_of ((hb5.block w4.heap.size (by simp)).trans (heap_alloc_new w4 _)); have l5 : w4.heap.size < w5.heap.size := (by have := hb5.size; simp at this; omega); have hlk := numW_look hN (ex_inR HOK.out HEX.out); rw [if_pos HEX.out, hk] at hlk; simp only [Option.getD, Option.isSome] at hlk; unfold spv at hlk; simp only at hlk; have HS := hid hS; have HB5 := hid hb5; have HOV5 := hid (ovAt_below HOV.out (((Below.refl _ _).alloc (Nat.le_refl _) _).trans (hb5.mono (by simp)))); clear hS hN hb5)
        | fail)
      go_ret2
      refine ⟨ret_eq HR.out.symm, ?_⟩
      have hb := HB.out.trans (HB4.out.mono HB.out.size)
      have hb' := (hb.alloc hb.size (Obj.cells #[Value.int IntKind.i64 p, Value.int IntKind.i64 x, Value.int IntKind.i64 y] 87))
      have hb'' := hb'.trans (HB5.out.mono hb'.size)
      exact hb''
    | some j =>
      have HR : Hid (lostV o (p, x, y) = .tuple #[.int .i64 j, .int .i64 0]) := by unfold lostV; rw [if_pos (HV.out), hk]; exact rfl
      go_enter Tryd.func16, Tryd.ntmps16
      go_wp2_with (first
        | (go_at_call 44; rw [← HW.out]; refine (cr2.out).mono ?_; rintro e w4 ⟨xb, rfl, hov, hb4⟩; have HOV := hid hov; have HB4 := hid hb4; clear hb4 hov)
        | (go_at_call 45; refine (kernel_kk xb vs vm vj o _ (ovAt_below HOV.out ((Below.refl _ _).alloc (Nat.le_refl _) _)) HOK.out).mono ?_; rintro e w5 ⟨m, ml, n, rfl, hS, hN, hb5⟩; obtain ⟨z0, z1, z2⟩ := cells3_of ((hb5.block w4.heap.size (by simp)).trans (heap_alloc_new w4 _)); have l5 : w4.heap.size < w5.heap.size := (by have := hb5.size; simp at this; omega); have hlk := numW_look hN (ex_inR HOK.out HEX.out); rw [if_pos HEX.out, hk] at hlk; simp only [Option.getD, Option.isSome] at hlk; unfold spv at hlk; simp only at hlk; have HS := hid hS; have HB5 := hid hb5; have HOV5 := hid (ovAt_below HOV.out (((Below.refl _ _).alloc (Nat.le_refl _) _).trans (hb5.mono (by simp)))); clear hS hN hb5)
        | fail)
      go_ret2
      refine ⟨ret_eq HR.out.symm, ?_⟩
      have hb := HB.out.trans (HB4.out.mono HB.out.size)
      have hb' := (hb.alloc hb.size (Obj.cells #[Value.int IntKind.i64 p, Value.int IntKind.i64 x, Value.int IntKind.i64 y] 87))
      have hb'' := hb'.trans (HB5.out.mono hb'.size)
      exact hb''
end Go.Proofs.YtjonbhimbhidpaaDoor

namespace Go.Proofs.YtjonbhimbhidpaaDoor
open Go.RowKit

def strs (xs : List Str) : List Value := xs.map fun x => Value.string (strB x)
theorem strs_length (xs : List Str) : (strs xs).length = xs.length := by simp [strs]
theorem strs_append (xs : List Str) (z : Str) : strs (xs ++ [z]) = strs xs ++ [.string (strB z)] := by simp [strs]
/-- the call's own slice of strings -/
def OwnT (w : World) (B : Nat) (v : Value) (xs : List Str) : Prop := w.ownsRow B 9 1 v xs.length (strs xs)
theorem ownT_nil (w : World) (B : Nat) : OwnT w B (.slice none 0 0) [] := World.ownsRow_nil _ _ _ _
theorem ownT_made (w : World) (B : Nat) (hB : B ≤ w.heap.size) : OwnT (w.alloc (.cells #[] 9)) B (.slice (some ⟨w.heap.size, 0, none⟩) 0 0) [] := World.ownsRow_made w #[] 0 hB (by decide) rfl
theorem ownT_lt {w : World} {B : Nat} {v : Value} {xs : List Str} (h : OwnT w B v xs) : ∀ k, v.ownBlock = some k → B ≤ k ∧ k < w.heap.size := h.lt
theorem row_mono {w : World} {B B' n size : Nat} {e : TypeId} {v : Value} {xs : List Value} (h : w.ownsRow B e size v n xs) (hb : B' ≤ B) : w.ownsRow B' e size v n xs := by
  obtain ⟨h1, h2⟩ := h
  refine ⟨h1, h2.imp_right ?_⟩
  rintro ⟨g, cap, cur, rfl, hB, r⟩
  exact ⟨g, cap, cur, rfl, Nat.le_trans hb hB, r⟩
theorem ownT_mono {w : World} {B B' : Nat} {v : Value} {xs : List Str} (h : OwnT w B v xs) (hb : B' ≤ B) : OwnT w B' v xs := row_mono h hb
theorem row_below {w w' : World} {B n size : Nat} {e : TypeId} {v : Value} {xs : List Value} (h : w.ownsRow B e size v n xs) (hb : Below w.heap.size w w') : w'.ownsRow B e size v n xs := by
  have hlt := h.lt
  obtain ⟨h1, h2⟩ := h
  refine ⟨h1, h2.imp_right ?_⟩
  rintro ⟨g, cap, cur, rfl, hB, hh, r⟩
  exact ⟨g, cap, cur, rfl, hB, by rw [hb.block g (hlt g rfl).2]; exact hh, r⟩
theorem ownT_below {w w' : World} {B : Nat} {v : Value} {xs : List Str} (h : OwnT w B v xs) (hb : Below w.heap.size w w') : OwnT w' B v xs := row_below h hb
theorem row_slice {w : World} {B n size : Nat} {e : TypeId} {v : Value} {xs : List Value} (h : w.ownsRow B e size v n xs) : ∃ a c, v = .slice a n c := by
  obtain ⟨_, ⟨rfl, h2⟩ | ⟨g, cap, cur, rfl, _⟩⟩ := h
  · exact ⟨none, 0, by rw [h2]⟩
  · exact ⟨_, _, rfl⟩
theorem row_cells1 {w : World} {B n : Nat} {e : TypeId} {v : Value} {xs : List Value} (h : w.ownsRow B e 1 v n xs) : ∃ a c, v = .slice a n c ∧ n ≤ maxLen ∧ xs.length = n ∧ ∀ i, i < n → ∃ g, a = some ⟨g, 0, none⟩ ∧ w.cell? ⟨g, i, none⟩ = xs[i]? ∧ ∃ cs, w.heap[g]? = some (.cells cs e) := by
  obtain ⟨h1, h2 | ⟨g, cap, cur, rfl, hB, hh, hn, hm, hs, ht⟩⟩ := h
  · obtain ⟨rfl, h0⟩ := h2
    refine ⟨none, 0, by rw [h0], by omega, by omega, fun i hi => by omega⟩
  · refine ⟨_, cap, rfl, by omega, by omega, fun i hi => ⟨g, rfl, ?_, cur, hh⟩⟩
    rw [World.cell?, hh, ← ht, List.getElem?_take, if_pos (by omega)]
    simp
theorem ownT_isStrs {w : World} {B : Nat} {v : Value} {xs : List Str} (h : OwnT w B v xs) (hl : xs.length ≤ 1000000) : IsStrs w v xs := by
  obtain ⟨a, c, rfl, _, _, hc⟩ := row_cells1 h
  refine ⟨a, c, rfl, hl, fun i hi => ?_⟩
  obtain ⟨g, ha, hcell, _⟩ := hc i hi
  refine ⟨g, ha, hcell.trans ?_⟩
  simp [strs, hi]
theorem info9 : (Tryd.prog.info? 9).map (fun i => (i.zero, i.size, i.bytes)) = some (some (.string ⟨#[]⟩), 1, 16) := by kernel_rfl
theorem info71 : (Tryd.prog.info? 71).map (fun i => (i.zero, i.size, i.bytes)) = some (some (.slice none 0 0), 1, 24) := by kernel_rfl
theorem info3 : (Tryd.prog.info? 3).map (fun i => (i.zero, i.size, i.bytes)) = some (some (.int .i64 0), 1, 8) := by kernel_rfl
theorem app_below {w w' : World} {v v' : Value} {B : Nat} (ha : AppTo w v w' v') (hB : B ≤ w.heap.size) (hv : ∀ k, v.ownBlock = some k → B ≤ k) : Below B w w' := (Below.refl B w).grown ha.grown hB hv
/-- append of one string -/
theorem wpl_app_str {ops : Array Oper} {rest : List Oper} {o : Oper} {a : Act} {Q : Exit → Act → World → Prop} {W : World} (z : Str)
    (s x : Operand) (v : Value) (B : Nat) (xs : List Str)
    (hgd : o.guard = none) (ho : o.op = .call { callee := .builtin .append, args := #[s, x], argTypes := #[71, 71] })
    (hs : a.eval s = v) (hx : a.eval x = .slice (some ⟨W.heap.size, 0, none⟩) 1 1)
    (hown : OwnT W B v xs) (hlen : xs.length < 1000000) (hB : B ≤ W.heap.size)
    (h : ∀ v' w', OwnT w' B v' (xs ++ [z]) → Below B W w' → wpList Tryd.prog ops Q rest (a.put o.dst v') w') :
    wpList Tryd.prog ops Q (o :: rest) a (W.alloc (.cells #[.string (strB z)] 9)) :=
  wpl_appn hgd s x 71 9 ho (.string ⟨#[]⟩) 1 16 info9 rfl (by decide) Tryd.underlying71 v B xs.length (strs xs) hs hown [.string (strB z)] rfl (by simp [Value.oneCell']) hx
    (by omega) (by unfold maxLen; omega) hB
    (fun v' w' h1 h2 => h v' w' (by unfold OwnT; rw [strs_append, List.length_append]; exact h1) (((Below.refl B W).alloc hB _).trans (app_below h2 (by simp; omega) (fun k hk => (hown.lt k hk).1))))

/-- the call's own slice of slices of strings -/
def OwnG (w : World) (B : Nat) (v : Value) (g : Grid) : Prop :=
  ∃ us : List Value, w.ownsRow B 71 1 v g.length us ∧ us.length = g.length ∧ ∀ i, i < g.length → OwnT w B (us.getD i undef) (g.getD i [])
theorem ownG_nil (w : World) (B : Nat) : OwnG w B (.slice none 0 0) [] := ⟨[], World.ownsRow_nil _ _ _ _, rfl, fun i h => by simp at h⟩
theorem ownG_made (w : World) (B : Nat) (hB : B ≤ w.heap.size) : OwnG (w.alloc (.cells #[] 71)) B (.slice (some ⟨w.heap.size, 0, none⟩) 0 0) [] := ⟨[], World.ownsRow_made w #[] 0 hB (by decide) rfl, rfl, fun i h => by simp at h⟩
theorem ownG_lt {w : World} {B : Nat} {v : Value} {g : Grid} (h : OwnG w B v g) : ∀ k, v.ownBlock = some k → B ≤ k ∧ k < w.heap.size := by
  obtain ⟨us, h, _⟩ := h
  exact h.lt
theorem ownG_slice {w : World} {B : Nat} {v : Value} {g : Grid} (h : OwnG w B v g) : ∃ a c, v = .slice a g.length c := by
  obtain ⟨us, h, _⟩ := h
  exact row_slice h
theorem ownT_slice {w : World} {B : Nat} {v : Value} {xs : List Str} (h : OwnT w B v xs) : ∃ a c, v = .slice a xs.length c := row_slice h
theorem ownG_below {w w' : World} {B : Nat} {v : Value} {g : Grid} (h : OwnG w B v g) (hb : Below w.heap.size w w') : OwnG w' B v g := by
  obtain ⟨us, h1, h2, h3⟩ := h
  exact ⟨us, row_below h1 hb, h2, fun i hi => ownT_below (h3 i hi) hb⟩
theorem ownG_mono {w : World} {B B' : Nat} {v : Value} {g : Grid} (h : OwnG w B v g) (hb : B' ≤ B) : OwnG w B' v g := by
  obtain ⟨us, h1, h2, h3⟩ := h
  exact ⟨us, row_mono h1 hb, h2, fun i hi => ownT_mono (h3 i hi) hb⟩
theorem ownG_isGrid {w : World} {B : Nat} {v : Value} {g : Grid} (h : OwnG w B v g) (hl : g.length ≤ 1000000) (hl2 : ∀ p ∈ g, p.length ≤ 1000000) : IsGrid w v g := by
  obtain ⟨us, h1, h2, h3⟩ := h
  obtain ⟨a, c, rfl, _, _, hc⟩ := row_cells1 h1
  refine ⟨a, c, rfl, hl, fun i hi => ?_⟩
  obtain ⟨gb, ha, hcell, _⟩ := hc i hi
  have hu : us[i]? = some (us.getD i undef) := by simp [h2 ▸ hi]
  refine ⟨gb, us.getD i undef, ha, hcell.trans hu, ownT_isStrs (h3 i hi) (hl2 _ ?_)⟩
  simp [hi]
theorem ownT_type {w : World} {B : Nat} {v : Value} {xs : List Str} (h : OwnT w B v xs) : ∀ k, v.ownBlock = some k → ∃ cs, w.heap[k]? = some (.cells cs 9) := by
  obtain ⟨_, ⟨rfl, h2⟩ | ⟨g, cap, cur, rfl, hB, hh, _⟩⟩ := h
  · intro k hk; simp [Value.ownBlock] at hk
  · intro k hk
    simp [Value.ownBlock] at hk
    subst hk
    exact ⟨_, hh⟩
theorem ownG_type {w : World} {B : Nat} {v : Value} {g : Grid} (h : OwnG w B v g) : ∀ k, v.ownBlock = some k → ∃ cs, w.heap[k]? = some (.cells cs 71) := by
  obtain ⟨us, ⟨_, ⟨rfl, h2⟩ | ⟨g, cap, cur, rfl, hB, hh, _⟩⟩, _⟩ := h
  · intro k hk; simp [Value.ownBlock] at hk
  · intro k hk
    simp [Value.ownBlock] at hk
    subst hk
    exact ⟨_, hh⟩
/-- append of one row -/
theorem wpl_app_row {ops : Array Oper} {rest : List Oper} {o : Oper} {a : Act} {Q : Exit → Act → World → Prop} {W : World} (u : Value) (z : List Str)
    (s x : Operand) (v : Value) (B : Nat) (g : Grid)
    (hgd : o.guard = none) (ho : o.op = .call { callee := .builtin .append, args := #[s, x], argTypes := #[22, 22] })
    (hs : a.eval s = v) (hx : a.eval x = .slice (some ⟨W.heap.size, 0, none⟩) 1 1)
    (hown : OwnG W B v g) (hu : OwnT W B u z) (hlen : g.length < 1000000) (hB : B ≤ W.heap.size)
    (h : ∀ v' w', OwnG w' B v' (g ++ [z]) → Below B W w' → wpList Tryd.prog ops Q rest (a.put o.dst v') w') :
    wpList Tryd.prog ops Q (o :: rest) a (W.alloc (.cells #[u] 71)) := by
  have hty := ownG_type hown
  have hlt := ownG_lt hown
  obtain ⟨us, h1, h2, h3⟩ := hown
  have hu1 : u.oneCell' = true := by obtain ⟨a, c, rfl⟩ := ownT_slice hu; rfl
  refine wpl_appn hgd s x 22 71 ho (.slice none 0 0) 1 24 info71 rfl (by decide) Tryd.underlying22 v B g.length us hs h1 [u] rfl (by simpa using hu1) hx
    (by omega) (by unfold maxLen; omega) hB ?_
  intro v' w' g1 g2
  have hkeep : ∀ (q : Value) (ys : List Str), OwnT W B q ys → OwnT w' B q ys := by
    intro q ys hq
    have hqt := ownT_type hq
    have hql := ownT_lt hq
    have hq2 : OwnT (W.alloc (.cells #[u] 71)) B q ys := ownT_below hq ((Below.refl _ _).alloc (Nat.le_refl _) _)
    refine World.ownsRow.kept hq2 g2.grown ?_
    cases hk : q.ownBlock with
    | none => exact .inl rfl
    | some k =>
      refine .inr fun e => ?_
      obtain ⟨c1, e1⟩ := hqt k hk
      obtain ⟨c2, e2⟩ := hty k e.symm
      rw [e1] at e2
      simp at e2
  refine h v' w' ⟨us ++ [u], by rw [List.length_append]; exact g1, by simp [h2], fun i hi => ?_⟩ (((Below.refl B W).alloc hB _).trans (app_below g2 (by simp; omega) (fun k hk => (hlt k hk).1)))
  rw [List.length_append] at hi
  by_cases hi2 : i < g.length
  · have e1 : (us ++ [u]).getD i undef = us.getD i undef := by simp [List.getD, List.getElem?_append, h2 ▸ hi2]
    have e2 : (g ++ [z]).getD i [] = g.getD i [] := by simp [List.getD, List.getElem?_append, hi2]
    rw [e1, e2]
    exact hkeep _ _ (h3 i hi2)
  · obtain rfl : i = g.length := by simp at hi; omega
    have e1 : (us ++ [u]).getD g.length undef = u := by rw [← h2]; simp [List.getD]
    have e2 : (g ++ [z]).getD g.length [] = z := by simp [List.getD]
    rw [e1, e2]
    exact hkeep _ _ hu
end Go.Proofs.YtjonbhimbhidpaaDoor

namespace Go.Proofs.YtjonbhimbhidpaaDoor
open Go.RowKit

def Ov.rowTo (S : Sp → Bool) (p y n : Nat) : Str := (List.range n).map fun x : Nat => letterB (S ((p : Int), (x : Int), (y : Int)))
def Ov.phTo (o : Ov) (S : Sp → Bool) (p n : Nat) : List Str := (List.range n).map (o.rowG S p)
def Ov.grTo (o : Ov) (S : Sp → Bool) (n : Nat) : Grid := (List.range n).map (o.phG S)
theorem rowTo_succ (S : Sp → Bool) (p y n : Nat) : Ov.rowTo S p y (n + 1) = Ov.rowTo S p y n ++ [letterB (S ((p : Int), (n : Int), (y : Int)))] := by simp [Ov.rowTo, List.range_succ]
theorem phTo_succ (o : Ov) (S : Sp → Bool) (p n : Nat) : o.phTo S p (n + 1) = o.phTo S p n ++ [o.rowG S p n] := by simp [Ov.phTo, List.range_succ]
theorem grTo_succ (o : Ov) (S : Sp → Bool) (n : Nat) : o.grTo S (n + 1) = o.grTo S n ++ [o.phG S n] := by simp [Ov.grTo, List.range_succ]
theorem rowTo_len (S : Sp → Bool) (p y n : Nat) : (Ov.rowTo S p y n).length = n := by simp [Ov.rowTo]
theorem phTo_len (o : Ov) (S : Sp → Bool) (p n : Nat) : (o.phTo S p n).length = n := by simp [Ov.phTo]
theorem grTo_len (o : Ov) (S : Sp → Bool) (n : Nat) : (o.grTo S n).length = n := by simp [Ov.grTo]
theorem bytes_letter (l : Str) (b : Bool) : Lib.byteCells (l ++ [letterB b]) = Lib.byteCells l ++ [.int .u8 (if b then 46 else 35)] := by
  rw [Lib.byteCells_append]; cases b <;> rfl
theorem ownG_shape {w : World} {B n : Nat} {v : Value} {o : Ov} {S : Sp → Bool} (h : OwnG w B v (o.grTo S n)) : ∃ a c, v = .slice a n c := by
  obtain ⟨a, c, h⟩ := ownG_slice h
  rw [grTo_len] at h
  exact ⟨a, c, h⟩
theorem ownT_shape {w : World} {B p n : Nat} {v : Value} {o : Ov} {S : Sp → Bool} (h : OwnT w B v (o.phTo S p n)) : ∃ a c, v = .slice a n c := by
  obtain ⟨a, c, h⟩ := ownT_slice h
  rw [phTo_len] at h
  exact ⟨a, c, h⟩
theorem builder_start (w : World) : Lib.IsBuilder 105 5 w.heap.size w.heap.size (Lib.byteCells []) (w.alloc (.cells #[.pointer none, .slice none 0 0] 105)) :=
  .inl ⟨Nat.le_refl _, .slice none 0 0, heap_alloc_new w _, World.ownsRow_nil _ _ _ _, by simp [Value.ownBlock]⟩

/-- what Kernel returns -/
def KernelR (w : World) (o : Ov) (e : Ending) (w' : World) : Prop :=
  Below w.heap.size w w' ∧ if o.valid = true then ∃ v, e = .returned (.tuple #[v, .int .i64 0]) ∧ OwnG w' w.heap.size v (o.gridOf o.KK) else e = .returned (.tuple #[.slice none 0 0, .int .i64 1])

set_option maxHeartbeats 4000000 in
set_option maxRecDepth 100000 in
theorem kernelP_any (vs vm vj : Value) (o : Ov) (w : World) (ho : IsOv w vs vm vj o) (hn : o.Num) :
    Calls Tryd.prog 25 #[.agg #[vs, vm, vj]] w (KernelR w o) := by
  have HO := hid ho
  have cr := hid (read_any _ _ _ o _ (isOv_below ho ((Below.refl w.heap.size w).alloc (Nat.le_refl _) (.cells #[vs, vm, vj] 26))) hn)
  obtain ⟨⟨av, cv, rfl, _, _⟩, _, _⟩ := ho
  have HB : Hid (Below w.heap.size w (w.alloc (.cells #[.slice av o.safe.length cv, vm, vj] 26))) := (Below.refl w.heap.size w).alloc (Nat.le_refl _) _
  obtain ⟨P, hP⟩ : ∃ P, P = o.P := ⟨_, rfl⟩
  rw [show o.safe.length = P from hP.symm] at cr HB HO ⊢
  have HP := hid hP
  obtain ⟨W, hW⟩ : ∃ W, W = (w.alloc (.cells #[.slice av P cv, vm, vj] 26)) := ⟨_, rfl⟩
  rw [← hW] at cr HB
  have HW := hid hW
  clear hn hW hP
  cases hv : o.valid
  · have HV := hid hv
    have cr2 : Hid (Calls Tryd.prog 51 #[.agg #[.slice av P cv, vm, vj]] W (fun e w' => e = .returned (.tuple #[.pointer none, .bool false]) ∧ Below W.heap.size W w')) := (cr.out).mono (by
      rintro e w4 ⟨hb4, h4⟩
      rw [hv, if_neg (by decide)] at h4
      exact ⟨h4, hb4⟩)
    clear hv cr
    go_enter Tryd.func25, Tryd.ntmps25
    go_wp2_with (first | (go_at_call 51; rw [← HW.out]; refine (cr2.out).mono ?_; rintro e w4 ⟨rfl, hb4⟩; have HB4 := hid hb4; clear hb4) | fail)
    go_ret2
    refine ⟨HB.out.trans (HB4.out.mono HB.out.size), ?_⟩
    rw [if_neg (by rw [HV.out]; decide)]
    rfl
  · have HV := hid hv
    have HOK := hid (ok_of_valid hv)
    have cr2 : Hid (Calls Tryd.prog 51 #[.agg #[.slice av P cv, vm, vj]] W (fun e w' => ∃ xb, e = .returned (.tuple #[.pointer (some ⟨xb, 0, none⟩), .bool true]) ∧ OvAt w' xb (.slice av P cv) vm vj o ∧ Below W.heap.size W w')) := (cr.out).mono (by
      rintro e w4 ⟨hb4, h4⟩
      rw [hv, if_pos rfl] at h4
      obtain ⟨xb, h5, h6⟩ := h4
      exact ⟨xb, h5, h6, hb4⟩)
    clear hv cr
    obtain ⟨R, hR⟩ : ∃ R, R = o.R := ⟨_, rfl⟩
    obtain ⟨C, hC⟩ : ∃ C, C = o.C := ⟨_, rfl⟩
    have b1 := HOK.out.p
    have b2 := HOK.out.r
    have b3 := HOK.out.c
    rw [← HP.out] at b1
    rw [← hR] at b2
    rw [← hC] at b3
    have HR := hid hR
    have HC := hid hC
    clear hR hC
    go_enter Tryd.func25, Tryd.ntmps25
    go_wp2_with (first
      | (go_at_call 51; rw [← HW.out]; refine (cr2.out).mono ?_; rintro e w4 ⟨xb, rfl, hov, hb4⟩; have HOV := hid hov; have HB4 := hid hb4; clear hb4 hov)
      | (go_at_call 45; refine (kernel_kk xb _ vm vj o _ HOV.out HOK.out).mono ?_; rintro e w5 ⟨m, ml, n, rfl, hS, hN, hb5⟩; have HS := hid hS; have HOV5 := hid (ovAt_below HOV.out hb5); have HB5 := hid (HB.out.trans ((HB4.out.trans (hb5.mono HB4.out.size)).mono HB.out.size)); have d0 := HOV5.out.c0; clear hS hN hb5)
      | fail)
    have hxl := ovAt_lt HOV5.out
    have HXL := hid hxl
    clear hxl d0
    go_loopw [8, 32] (fun v8 i wr => ∃ (p : Nat) (a8 : Option Addr) (c8 : Nat), i = .int .i64 p ∧ v8 = .slice a8 p c8 ∧ p ≤ P ∧ Hid (OwnG wr w5.heap.size (.slice a8 p c8) (o.grTo o.KK p)) ∧ Hid (Below w5.heap.size w5 wr)) (fun _ i _ => P - (intOf i).toNat)
    case atStart => exact ⟨0, none, 0, rfl, rfl, Nat.zero_le _, ownG_nil _ _, Below.refl _ _⟩
    case round =>
      obtain ⟨p, a8, c8, rfl, rfl, hp, HG, HBr⟩ := hrel
      rename World => wo
      by_cases hlp : p < P
      · have d3 := (ovAt_below HOV5.out HBr.out).c3
        rw [← HR.out] at d3
        go_wp2
        clear d3
        go_loopw [10, 39] (fun v10 i wy => ∃ (y : Nat) (a10 : Option Addr) (c10 : Nat), i = .int .i64 y ∧ v10 = .slice a10 y c10 ∧ y ≤ R ∧ Hid (OwnT wy wo.heap.size (.slice a10 y c10) (o.phTo o.KK p y)) ∧ Hid (Below wo.heap.size wo wy)) (fun _ i _ => R - (intOf i).toNat)
        case atStart => exact ⟨0, none, 0, rfl, rfl, Nat.zero_le _, ownT_nil _ _, Below.refl _ _⟩
        case round =>
          obtain ⟨y, a10, c10, rfl, rfl, hy, HT, HBy⟩ := hrel
          rename World => wy
          by_cases hly : y < R
          · have HB5y := hid (HBr.out.trans (HBy.out.mono HBr.out.size))
            have d4 := (ovAt_below HOV5.out HB5y.out).c4
            rw [← HC.out] at d4
            have hxy : xb < wy.heap.size := Nat.lt_of_lt_of_le HXL.out HB5y.out.size
            go_wp2
            clear d4
            have HBz : Hid (Below wy.heap.size wy (wy.alloc (.cells #[.pointer none, .slice none 0 0] 105))) := (Below.refl _ _).alloc (Nat.le_refl _) _
            have HBS := hid (builder_start wy)
            go_loopw [46] (fun i wx => ∃ x : Nat, i = .int .i64 x ∧ x ≤ C ∧ Hid (Lib.IsBuilder 105 5 wy.heap.size wy.heap.size (Lib.byteCells (Ov.rowTo o.KK p y x)) wx) ∧ Hid (Below wy.heap.size wy wx)) (fun i _ => C - (intOf i).toNat)
            case atStart => exact ⟨0, rfl, Nat.zero_le _, HBS, HBz⟩
            case round =>
              obtain ⟨x, rfl, hx, HBX, HBx⟩ := hrel
              rename World => wx
              by_cases hlx : x < C
              · have HB5x := hid (HB5y.out.trans (HBx.out.mono HB5y.out.size))
                have hex : o.ex ((p : Int), (x : Int), (y : Int)) = true := by
                  unfold Ov.ex; rw [← HP.out, ← HR.out, ← HC.out]; exact decide_eq_true (by simp only; omega)
                have hlk := setW_look (setW_below HS.out HB5x.out (setW_lt HS.out)) (ex_inR HOK.out hex)
                rw [show decide (((p : Int), (x : Int), (y : Int)) ∈ o.cells.filter o.KK) = o.KK ((p : Int), (x : Int), (y : Int)) from congrFun (dec_KK o) _] at hlk
                unfold spv at hlk
                simp only at hlk
                have hw := fun c => hid (Tryd.Builder_WriteByte wy.heap.size wy.heap.size (Lib.byteCells (Ov.rowTo o.KK p y x)) c wx HBX.out (by rw [Lib.byteCells_length, rowTo_len]; omega) HBx.out.size)
                have HSU := hid (rowTo_succ o.KK p y x)
                clear hex
                generalize o.KK ((p : Int), (x : Int), (y : Int)) = t at *
                have HBL := hid (bytes_letter (Ov.rowTo o.KK p y x) t)
                cases t
                · go_wp2_with (first | (go_at_call 52; refine ((hw _).out).mono ?_; rintro e w6 ⟨rfl, hbu, hb6⟩; have HBU := hid hbu; have HB6 := hid hb6; clear hbu hb6) | fail)
                  go_roundw
                  case rel => exact ⟨x + 1, by go_num, by omega, .inr (by rw [HSU.out, HBL.out]; exact HBU.out), HBx.out.trans HB6.out⟩
                  case measure => simp [intOf]; omega
                · go_wp2_with (first | (go_at_call 52; refine ((hw _).out).mono ?_; rintro e w6 ⟨rfl, hbu, hb6⟩; have HBU := hid hbu; have HB6 := hid hb6; clear hbu hb6) | fail)
                  go_roundw
                  case rel => exact ⟨x + 1, by go_num, by omega, .inr (by rw [HSU.out, HBL.out]; exact HBU.out), HBx.out.trans HB6.out⟩
                  case measure => simp [intOf]; omega
              · obtain rfl : x = C := by omega
                have hst := hid (Tryd.Builder_String_any _ _ _ _ HBX.out HBx.out.size)
                have HL : Hid (Ov.rowTo o.KK p y x = o.rowG o.KK p y) := by show _ = _; unfold Ov.rowG; rw [← HC.out]; rfl
                go_wp2_with (first
                  | (go_at_call 53; refine (hst.out).mono ?_; rintro e w6 ⟨rfl, hb6⟩; rw [HL.out]; have HB6 := hid (HBx.out.trans hb6); have HT6 := hid (ownT_below HT.out HB6.out); clear hb6)
                  | (at_builtin; refine wpl_app_str (o.rowG o.KK p y) _ _ (.slice a10 y c10) wo.heap.size (o.phTo o.KK p y) (by rfl) (by rfl) (by rfl) (by rfl) HT6.out (by rw [phTo_len]; omega) (Nat.le_trans HBy.out.size HB6.out.size) ?_; intro v' w7 ho7 hb7; rw [← phTo_succ] at ho7; obtain ⟨sa, sc, rfl⟩ := ownT_shape ho7; have HO7 := hid ho7; have HB7 := hid hb7; clear ho7 hb7)
                  | fail)
                go_roundw
                case rel => exact ⟨y + 1, sa, sc, by go_num, rfl, by omega, HO7, (HBy.out.trans (HB6.out.mono HBy.out.size)).trans HB7.out⟩
                case measure => simp [intOf]; omega
          · obtain rfl : y = R := by omega
            have HL : Hid (o.phTo o.KK p y = o.phG o.KK p) := by show _ = _; unfold Ov.phG; rw [← HR.out]; rfl
            have HB5y := hid (HBr.out.trans (HBy.out.mono HBr.out.size))
            have hsz5 := HB5.out.size
            have HGy := hid (ownG_below HG.out HBy.out)
            have HTy : Hid (OwnT wy w5.heap.size (.slice a10 y c10) (o.phG o.KK p)) := by
              have := HT.out
              rw [HL.out] at this
              exact ownT_mono this HBr.out.size
            go_wp2_with (first
              | (at_builtin; refine wpl_app_row (.slice a10 y c10) (o.phG o.KK p) _ _ (.slice a8 p c8) w5.heap.size (o.grTo o.KK p) (by rfl) (by rfl) (by rfl) (by rfl) HGy.out HTy.out (by rw [grTo_len]; omega) HB5y.out.size ?_; intro v' w7 ho7 hb7; rw [← grTo_succ] at ho7; obtain ⟨sa, sc, rfl⟩ := ownG_shape ho7; have HO7 := hid ho7; have HB7 := hid hb7; clear ho7 hb7)
              | fail)
            go_roundw
            case rel => exact ⟨p + 1, sa, sc, by go_num, rfl, by omega, HO7, HB5y.out.trans HB7.out⟩
            case measure => simp [intOf]; omega
      · obtain rfl : p = P := by omega
        have HL : Hid (o.grTo o.KK p = o.gridOf o.KK) := by show _ = _; unfold Ov.gridOf; rw [← HP.out]; rfl
        go_wp2
        go_ret2
        refine ⟨HB5.out.trans (HBr.out.mono HB5.out.size), ?_⟩
        rw [if_pos HV.out]
        refine ⟨_, rfl, ?_⟩
        have := HG.out
        rw [HL.out] at this
        exact ownG_mono this HB5.out.size
end Go.Proofs.YtjonbhimbhidpaaDoor
