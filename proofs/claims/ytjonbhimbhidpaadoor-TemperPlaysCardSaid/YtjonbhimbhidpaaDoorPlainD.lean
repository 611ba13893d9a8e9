/-
  Chapter 6 in plain words: the grid of a set; the lists of losses, round by round, cell by cell.
-/
import Derived.Test.YtjonbhimbhidpaaDoorPlainC
namespace Go.Proofs.YtjonbhimbhidpaaDoor

def letterB (b : Bool) : UInt8 := if b then 46 else 35
def Ov.rowG (o : Ov) (S : Sp → Bool) (p y : Nat) : Str := (List.range o.C).map fun x : Nat => letterB (S ((p : Int), (x : Int), (y : Int)))
def Ov.phG (o : Ov) (S : Sp → Bool) (p : Nat) : List Str := (List.range o.R).map (o.rowG S p)
def Ov.gridOf (o : Ov) (S : Sp → Bool) : Grid := (List.range o.P).map (o.phG S)
theorem letterB_eq (b : Bool) : (letterB b == 46) = b := by cases b <;> rfl
theorem dotx_letterB (b : Bool) : dotx (letterB b) = true := by cases b <;> rfl
theorem rowAt_gridOf (o : Ov) (S : Sp → Bool) (p y : Nat) (hp : p < o.P) (hy : y < o.R) : rowAt (o.gridOf S) p y = o.rowG S p y := by
  simp [rowAt, Ov.gridOf, Ov.phG, List.getD, hp, hy]
theorem chAt_gridOf (o : Ov) (S : Sp → Bool) (p y x : Nat) (hp : p < o.P) (hy : y < o.R) (hx : x < o.C) : chAt (o.gridOf S) p y x = letterB (S ((p : Int), (x : Int), (y : Int))) := by
  unfold chAt
  rw [rowAt_gridOf o S p y hp hy]
  simp [Ov.rowG, List.getD, hx]
theorem inG_gridOf (o : Ov) (S : Sp → Bool) (c : Sp) (h : o.ex c = true) : inG (o.gridOf S) c = S c := by
  obtain ⟨p, x, y, rfl, hp, hx, hy⟩ := ex_cell o c h
  unfold inG
  simp only [Int.toNat_natCast]
  rw [chAt_gridOf o S p y x hp hy hx, letterB_eq]
theorem form_gridOf (o : Ov) (S : Sp → Bool) : formB o.P o.R o.C (o.gridOf S) = true := by
  unfold formB Ov.gridOf phaseOk rowsOk rowOk Ov.phG Ov.rowG
  simp only [List.length_map, List.length_range, decide_true, Bool.true_and, List.all_map, List.all_eq_true, Function.comp, Bool.and_eq_true, List.all_eq_true]
  intro p hp y hy x hx
  exact dotx_letterB _
theorem gridOf_ext (o : Ov) (S T : Sp → Bool) (h : ∀ c, o.ex c = true → S c = T c) : o.gridOf S = o.gridOf T := by
  unfold Ov.gridOf Ov.phG Ov.rowG
  refine List.map_congr_left fun p hp => List.map_congr_left fun y hy => List.map_congr_left fun x hx => ?_
  rw [List.mem_range] at hp hy hx
  rw [h]
  unfold Ov.ex
  simp only [decide_eq_true_eq]
  omega
theorem dotx_letter (c : UInt8) (h : dotx c = true) : letterB (c == 46) = c := by
  unfold dotx at h
  by_cases e : c = 46
  · subst e; rfl
  · simp [e] at h
    subst h; rfl
theorem grid_eq (o : Ov) (g : Grid) (h : formB o.P o.R o.C g = true) : o.gridOf (inG g) = g := by
  have hl := form_len h
  refine List.ext_getElem (by simp [Ov.gridOf, hl]) fun p hp1 hp2 => ?_
  have hp : p < o.P := by simpa [Ov.gridOf] using hp1
  have hpl : g[p].length = o.R := by
    unfold formB at h
    simp only [Bool.and_eq_true, decide_eq_true_eq, List.all_eq_true] at h
    have := h.2 g[p] (List.getElem_mem hp2)
    unfold phaseOk at this
    simp only [Bool.and_eq_true, decide_eq_true_eq] at this
    exact this.1
  refine List.ext_getElem (by simp [Ov.gridOf, Ov.phG, hpl]) fun y hy1 hy2 => ?_
  have hy : y < o.R := by omega
  obtain ⟨h1, h2, h3, h4⟩ := form_row h p y hp hy
  have e1 : rowAt g p y = g[p][y] := by simp [rowAt, List.getD, hp2, hy2]
  rw [e1] at h1 h2
  refine List.ext_getElem (by simp [Ov.gridOf, Ov.phG, Ov.rowG, h1]) fun x hx1 hx2 => ?_
  have hx : x < o.C := by omega
  have e2 : chAt g p y x = g[p][y][x] := by unfold chAt; rw [e1]; simp [List.getD, hx2]
  have e3 : (o.gridOf (inG g))[p][y][x] = chAt (o.gridOf (inG g)) p y x := by
    simp [chAt, rowAt, List.getD, hp1, hy1, hx1]
  rw [e3, chAt_gridOf o _ p y x hp hy hx]
  unfold inG
  simp only [Int.toNat_natCast]
  rw [e2]
  exact dotx_letter _ (List.all_eq_true.1 h2 _ (List.getElem_mem hx2))

/-- the places of the cells -/
def Ov.pos (o : Ov) (c : Sp) : Nat := o.at' c.1.toNat c.2.1.toNat c.2.2.toNat
theorem pos_lt (o : Ov) (c : Sp) (h : o.ex c = true) : o.pos c < o.N ∧ o.cellAt (o.pos c) = c := by
  obtain ⟨p, x, y, rfl, hp, hx, hy⟩ := ex_cell o c h
  unfold Ov.pos
  simp only [Int.toNat_natCast]
  exact ⟨at_lt o p x y hp hx hy, cellAt_at o p x y hx hy⟩
theorem pos_cellAt (o : Ov) (i : Nat) : o.pos (o.cellAt i) = i := by
  unfold Ov.pos Ov.cellAt
  simp only [Int.toNat_natCast]
  exact at_cellAt o i
/-- the set of the cells whose numbers are at least a least one -/
def Ov.whereS (o : Ov) (l : List Int) (least : Int) (c : Sp) : Bool := decide (least ≤ l.getD (o.pos c) 0)
def Ov.listOf (o : Ov) (f : Sp → Int) : List Int := o.cells.map f
theorem listOf_len (o : Ov) (f : Sp → Int) : (o.listOf f).length = o.N := by simp [Ov.listOf, Ov.cells]
theorem listOf_at (o : Ov) (f : Sp → Int) (i : Nat) (h : i < o.N) : (o.listOf f)[i]'(by rw [listOf_len]; exact h) = f (o.cellAt i) := by simp [Ov.listOf, Ov.cells]
theorem listOf_pos (o : Ov) (f : Sp → Int) (c : Sp) (h : o.ex c = true) : (o.listOf f).getD (o.pos c) 0 = f c := by
  obtain ⟨h1, h2⟩ := pos_lt o c h
  rw [List.getD_eq_getElem?_getD, List.getElem?_eq_getElem (by rw [listOf_len]; exact h1), listOf_at o f _ h1, h2]
  rfl
theorem listOf_set (o : Ov) (f : Sp → Int) (i : Nat) (h : i < o.N) (v : Int) : (o.listOf f).set i v = o.listOf (fun c => if c = o.cellAt i then v else f c) := by
  refine List.ext_getElem (by rw [List.length_set, listOf_len, listOf_len]) fun j h1 h2 => ?_
  rw [listOf_len] at h2
  rw [List.getElem_set, listOf_at o f j h2, listOf_at o _ j h2]
  by_cases e : i = j
  · subst e; simp
  · rw [if_neg e, if_neg (fun e2 => e (cellAt_inj o e2).symm)]
theorem listOf_ext (o : Ov) (f g : Sp → Int) (h : ∀ c, o.ex c = true → f c = g c) : o.listOf f = o.listOf g := by
  refine List.map_congr_left fun c hc => h c ?_
  exact (mem_cells o c).1 hc
/-- the first numbers, one by one -/
theorem listOf_take (o : Ov) (f : Sp → Int) (i : Nat) (h : i < o.N) : (o.listOf f).take (i + 1) = (o.listOf f).take i ++ [f (o.cellAt i)] := by
  rw [List.take_add_one]
  have : (o.listOf f)[i]? = some (f (o.cellAt i)) := by
    rw [List.getElem?_eq_getElem (by rw [listOf_len]; exact h), listOf_at o f i h]
  rw [this]; rfl

def lossN : Option Nat → Int
  | some j => j
  | none => 1000000
def Ov.lossF (o : Ov) (k : Nat) (c : Sp) : Int := lossN (o.lost k c)
/-- within a round: the first i cells have been looked at -/
def Ov.lossI (o : Ov) (k i : Nat) (c : Sp) : Int := if c ∈ o.cells.take i then o.lossF (k + 1) c else o.lossF k c
theorem loss_where (o : Ov) (k : Nat) (hk : k < 1000000) (c : Sp) (h : o.ex c = true) : o.whereS (o.listOf (o.lossF k)) 1000000 c = o.K k c := by
  unfold Ov.whereS
  rw [listOf_pos o _ c h]
  unfold Ov.lossF
  cases e : o.lost k c with
  | none => rw [(lost_none o k c).1 e]; rfl
  | some j =>
    have h1 := (lost_some o k c j).1 e
    have h2 : o.K k c = false := by
      cases e2 : o.K k c
      · rfl
      · rw [(lost_none o k c).2 e2] at e; cases e
    rw [h2]
    simp only [lossN]
    exact decide_eq_false (by omega)
theorem lossI_zero (o : Ov) (k : Nat) : o.lossI k 0 = o.lossF k := by funext c; simp [Ov.lossI]
theorem lossI_end (o : Ov) (k : Nat) : o.listOf (o.lossI k o.N) = o.listOf (o.lossF (k + 1)) := by
  refine listOf_ext o _ _ fun c hc => ?_
  unfold Ov.lossI
  rw [List.take_of_length_le (by simp [Ov.cells]), if_pos ((mem_cells o c).2 hc)]
theorem lossI_at (o : Ov) (k i : Nat) (h : i < o.N) : o.lossI k i (o.cellAt i) = o.lossF k (o.cellAt i) := by
  unfold Ov.lossI
  have h2 : (o.cells.take (i + 1)).Nodup := (nodup_cells o).sublist (List.take_sublist _ _)
  rw [take_cells' o i h, List.nodup_append] at h2
  rw [if_neg]
  intro hm
  exact h2.2.2 _ hm _ (by simp) rfl
theorem lossF_never (o : Ov) (k : Nat) (hk : k < 1000000) (c : Sp) : (o.lossF k c == 1000000) = o.K k c := by
  unfold Ov.lossF
  cases e : o.lost k c with
  | none => rw [(lost_none o k c).1 e]; rfl
  | some j =>
    have h1 := (lost_some o k c j).1 e
    have h2 : o.K k c = false := by
      cases e2 : o.K k c
      · rfl
      · rw [(lost_none o k c).2 e2] at e; cases e
    rw [h2]
    simp only [lossN]
    exact beq_false_of_ne (by omega)
/-- a cell that is lost now -/
theorem lossI_out (o : Ov) (k i : Nat) (h : i < o.N) (hf : o.outF k (o.cellAt i) = true) : (fun c => if c = o.cellAt i then ((k : Int) + 1) else o.lossI k i c) = o.lossI k (i + 1) := by
  funext c
  unfold Ov.lossI
  rw [take_cells' o i h]
  by_cases e : c = o.cellAt i
  · subst e
    rw [if_pos rfl, if_pos (by simp)]
    unfold Ov.outF at hf
    simp only [Bool.and_eq_true, Bool.not_eq_true'] at hf
    have h0 := (lost_none o k (o.cellAt i)).2 hf.1
    simp [Ov.lossF, Ov.lost, h0, Ov.K, hf.2, lossN]
  · simp [e]
theorem lossI_in (o : Ov) (k i : Nat) (h : i < o.N) (hf : o.outF k (o.cellAt i) = false) : o.lossI k i = o.lossI k (i + 1) := by
  funext c
  unfold Ov.lossI
  rw [take_cells' o i h]
  by_cases e : c = o.cellAt i
  · subst e
    have : o.lossF (k + 1) (o.cellAt i) = o.lossF k (o.cellAt i) := by
      unfold Ov.lossF
      simp only [Ov.lost]
      cases e2 : o.lost k (o.cellAt i) with
      | some j => rfl
      | none =>
        have h1 := (lost_none o k _).1 e2
        unfold Ov.outF at hf
        simp only [h1, Bool.true_and, Bool.not_eq_false'] at hf
        simp [Ov.K, h1, hf]
    rw [this]; simp
  · simp [e]
theorem outL_nil_of (o : Ov) (k : Nat) (h : o.cells.any (o.outF k) = false) : o.outL k = [] := by
  unfold Ov.outL
  rw [List.filter_eq_nil_iff]
  rw [List.any_eq_false] at h
  exact h
theorem move_congr (o : Ov) (S T : Sp → Bool) (c : Sp) (h : ∀ m ∈ o.moves, ∀ j ∈ o.jolts, S (stepOf c m j) = T (stepOf c m j)) : o.move S c = o.move T c := by
  unfold Ov.move
  have hl : ∀ m ∈ o.moves, o.leads S c m = o.leads T c m := by
    intro m hm
    unfold Ov.leads
    congr 1
    rw [Bool.eq_iff_iff, List.all_eq_true, List.all_eq_true]
    exact ⟨fun g j hj => by rw [← h m hm j hj]; exact g j hj, fun g j hj => by rw [h m hm j hj]; exact g j hj⟩
  have gen : ∀ (ms : List Mv) (k : Nat), (∀ m ∈ ms, o.leads S c m = o.leads T c m) → firstMove o S c k ms = firstMove o T c k ms := by
    intro ms
    induction ms with
    | nil => intro k _; rfl
    | cons m ms ih =>
      intro k hm
      unfold firstMove
      rw [hm m (by simp), ih (k + 1) fun m' hm' => hm m' (by simp [hm'])]
  exact gen o.moves 0 hl
/-- a test by a grid is the set's own -/
theorem exIn_gridOf (o : Ov) (S : Sp → Bool) (h : ∀ c, S c = true → o.ex c = true) : (fun d => o.ex d && inG (o.gridOf S) d) = S := by
  funext d
  cases e : o.ex d
  · cases e2 : S d
    · rfl
    · rw [h d e2] at e; cases e
  · rw [inG_gridOf o S d e]; rfl
/-! ### After as many rounds as there are cells nothing changes any more -/
theorem count_or (o : Ov) : ∀ k, (∃ j, j ≤ k ∧ o.still j) ∨ (o.ker k).length + k ≤ o.N
  | 0 => .inr (ker_le o 0)
  | k + 1 => by
    rcases count_or o k with ⟨j, h, hj⟩ | h
    · exact .inl ⟨j, by omega, hj⟩
    · by_cases hs : o.outL k = []
      · exact .inl ⟨k, by omega, still_of_out o k hs⟩
      · right
        have h1 := count_out o k
        have h2 : (o.outL k).length ≠ 0 := fun e => hs (List.length_eq_zero_iff.1 e)
        omega
theorem still_N (o : Ov) : o.still o.N := by
  rcases count_or o o.N with ⟨j, h, hj⟩ | h
  · intro c
    rw [still_up o hj o.N h, still_up o hj (o.N + 1) (by omega)]
  · have h0 : o.ker o.N = [] := List.length_eq_zero_iff.1 (by omega)
    intro c
    have h1 : o.K o.N c = false := by
      cases e : o.K o.N c
      · rfl
      · have := (mem_ker o o.N c).2 e
        rw [h0] at this; simp at this
    have h2 : o.K (o.N + 1) c = false := by
      cases e : o.K (o.N + 1) c
      · rfl
      · rw [K_succ_le o _ c e] at h1; cases h1
    rw [h1, h2]
/-- the kernel -/
def Ov.KK (o : Ov) : Sp → Bool := o.K o.N
/-- in how many steps a cell is lost -/
def Ov.LL (o : Ov) : Sp → Option Nat := o.lost o.N
theorem KK_of (o : Ov) {k : Nat} (h : o.still k) : o.K k = o.KK := still_eq o h (still_N o)
theorem LL_of (o : Ov) {k : Nat} (h : o.still k) : o.lost k = o.LL := lost_still o h (still_N o)
theorem LL_none (o : Ov) (c : Sp) : o.LL c = none ↔ o.KK c = true := lost_none o o.N c
theorem KK_ex (o : Ov) (c : Sp) (h : o.KK c = true) : o.ex c = true := K_ex o o.N c h
theorem KK_move (o : Ov) (c : Sp) (h : o.KK c = true) : o.canM o.KK c = true := by
  have h1 := still_N o c
  unfold Ov.KK at h ⊢
  rw [h] at h1
  simp only [Ov.K, Bool.and_eq_true] at h1
  exact h1.2
theorem KK_safe (o : Ov) (c : Sp) (h : o.KK c = true) : inG o.safe c = true := K_safe o o.N c h
end Go.Proofs.YtjonbhimbhidpaaDoor
