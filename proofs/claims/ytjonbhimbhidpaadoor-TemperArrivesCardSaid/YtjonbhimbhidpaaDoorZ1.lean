/-
  Chapter 6 in plain words: ovens, moves, the rounds by which cells are lost, and those by which a goal is reached.
  Words on memory for chapter 6: cells as keys of maps; sets of cells; maps of cells to numbers.
  Words on memory for chapter 6: own slices; lists of strings, grids, moves, jolts; an oven as an argument, and behind a pointer.
  Chapter 6 in plain words: what a valid oven is.
  Walks over chapter 6: a step.
-/
import Derived.Test.YtjonbhimbhidpaaDoorProg
import Derived.WalkKit
import Derived.WalkSpells
import Derived.WalkLawsBesides
import Derived.Deep.QuietTactic
import Derived.BigQuiet
import Derived.Lib.Strings
import Derived.DeepKeys4
import Derived.WideKeyArr
import Derived.Maps.Own
import Derived.Maps.OwnSet
import Derived.Maps.OwnOps
import Derived.Maps.Views
import Derived.Maps.RangeWalk
import Derived.Test.YtjonbhimbhidpaaDoorShelf
import Derived.BigRegion
namespace Go.Proofs.YtjonbhimbhidpaaDoor

abbrev Str := List UInt8
abbrev Grid := List (List Str)
/-- a cell: phase, column, row -/
abbrev Sp := Int × Int × Int
/-- a move: from, to, x, y -/
abbrev Mv := Int × Int × Int × Int
structure Ov where
  safe : Grid
  moves : List Mv
  jolts : List (Int × Int)

def rowAt (g : Grid) (p y : Nat) : Str := (g.getD p []).getD y []
def chAt (g : Grid) (p y x : Nat) : UInt8 := (rowAt g p y).getD x 0
def inG (g : Grid) (c : Sp) : Bool := chAt g c.1.toNat c.2.2.toNat c.2.1.toNat == 46
def Ov.P (o : Ov) : Nat := o.safe.length
def Ov.R (o : Ov) : Nat := (o.safe.getD 0 []).length
def Ov.C (o : Ov) : Nat := (rowAt o.safe 0 0).length
def Ov.ex (o : Ov) (c : Sp) : Bool := decide (0 ≤ c.1 ∧ c.1 < o.P ∧ 0 ≤ c.2.2 ∧ c.2.2 < o.R ∧ 0 ≤ c.2.1 ∧ c.2.1 < o.C)
def stepOf (c : Sp) (m : Mv) (j : Int × Int) : Sp := (m.2.1, c.2.1 + m.2.2.1 + j.1, c.2.2 + m.2.2.2 + j.2)
def Ov.leads (o : Ov) (S : Sp → Bool) (c : Sp) (m : Mv) : Bool := m.1 == c.1 && o.jolts.all fun j => S (stepOf c m j)
/-- the first of some moves that leads into a set, from a number on -/
def firstMove (o : Ov) (S : Sp → Bool) (c : Sp) : Nat → List Mv → Int
  | _, [] => -1
  | k, m :: ms => if o.leads S c m then k else firstMove o S c (k + 1) ms
def Ov.move (o : Ov) (S : Sp → Bool) (c : Sp) : Int := firstMove o S c 0 o.moves
def Ov.canM (o : Ov) (S : Sp → Bool) (c : Sp) : Bool := o.moves.any (o.leads S c)

theorem firstMove_neg (o : Ov) (S : Sp → Bool) (c : Sp) : ∀ (ms : List Mv) (k : Nat), (firstMove o S c k ms < 0 ↔ ms.any (o.leads S c) = false)
  | [], k => by simp [firstMove]
  | m :: ms, k => by
    unfold firstMove
    by_cases h : o.leads S c m = true
    · simp [h]
    · simp [h, firstMove_neg o S c ms]
theorem move_neg (o : Ov) (S : Sp → Bool) (c : Sp) : o.move S c < 0 ↔ o.canM S c = false := firstMove_neg o S c o.moves 0
theorem move_neg' (o : Ov) (S : Sp → Bool) (c : Sp) : decide (o.move S c < 0) = !o.canM S c := by
  have := move_neg o S c
  cases h : o.canM S c
  · simpa [h] using this
  · simp [h] at this; simp; omega
theorem firstMove_ge (o : Ov) (S : Sp → Bool) (c : Sp) : ∀ (ms : List Mv) (k : Nat), -1 ≤ firstMove o S c k ms ∧ firstMove o S c k ms < ((k + ms.length : Nat) : Int)
  | [], k => by simp [firstMove]; omega
  | m :: ms, k => by
    unfold firstMove
    have := firstMove_ge o S c ms (k + 1)
    split
    · constructor
      · omega
      · simp; omega
    · refine ⟨this.1, ?_⟩
      have := this.2; simp at *; omega
theorem move_ge (o : Ov) (S : Sp → Bool) (c : Sp) : -1 ≤ o.move S c ∧ o.move S c < o.moves.length := by
  have := firstMove_ge o S c o.moves 0
  rw [Nat.zero_add] at this
  exact this
/-- no earlier move leads into the set, but this one does -/
theorem firstMove_at (o : Ov) (S : Sp → Bool) (c : Sp) : ∀ (pre : List Mv) (m : Mv) (post : List Mv) (k : Nat), pre.any (o.leads S c) = false → o.leads S c m = true → firstMove o S c k (pre ++ m :: post) = ((k + pre.length : Nat) : Int)
  | [], m, post, k, _, h => by simp [firstMove, h]
  | a :: pre, m, post, k, hp, h => by
    simp only [List.any_cons, Bool.or_eq_false_iff] at hp
    have := firstMove_at o S c pre m post (k + 1) hp.2 h
    simp only [List.cons_append, firstMove, hp.1]
    rw [if_neg (by decide), this]
    simp; omega
theorem take_any_succ {α : Type} (f : α → Bool) (xs : List α) (k : Nat) (h : k < xs.length) : (xs.take (k + 1)).any f = ((xs.take k).any f || f xs[k]) := by
  rw [List.take_add_one, List.any_append]
  simp [h]
theorem move_at (o : Ov) (S : Sp → Bool) (c : Sp) (k : Nat) (h : k < o.moves.length) (h0 : (o.moves.take k).any (o.leads S c) = false) (h1 : o.leads S c o.moves[k] = true) : o.move S c = k := by
  have e : o.moves = o.moves.take k ++ o.moves[k] :: o.moves.drop (k + 1) := by
    rw [← List.drop_eq_getElem_cons h, List.take_append_drop]
  unfold Ov.move
  rw [e, firstMove_at o S c _ _ _ 0 h0 h1]
  simp; omega
theorem move_none (o : Ov) (S : Sp → Bool) (c : Sp) (h0 : o.moves.any (o.leads S c) = false) : o.move S c = -1 := by
  have := (move_neg o S c).2 h0
  have := (move_ge o S c).1
  omega
/-- what the first move is, if there is one -/
theorem move_spec (o : Ov) (S : Sp → Bool) (c : Sp) (h : 0 ≤ o.move S c) : ∃ k, ∃ h : k < o.moves.length, o.move S c = (k : Int) ∧ o.leads S c o.moves[k] = true := by
  have h2 : o.canM S c = true := by
    cases e : o.canM S c
    · have := (move_neg o S c).2 e; omega
    · rfl
  have gen : ∀ (ms : List Mv) (k : Nat), ms.any (o.leads S c) = true → ∃ i, ∃ h : i < ms.length, firstMove o S c k ms = ((k + i : Nat) : Int) ∧ o.leads S c ms[i] = true := by
    intro ms
    induction ms with
    | nil => intro k h; simp at h
    | cons m ms ih =>
      intro k h
      by_cases hm : o.leads S c m = true
      · exact ⟨0, by simp, by simp [firstMove, hm], hm⟩
      · simp only [List.any_cons, hm, Bool.false_eq_true, false_or, Bool.or_eq_true] at h
        obtain ⟨i, hi, e1, e2⟩ := ih (k + 1) h
        refine ⟨i + 1, by simpa using hi, ?_, e2⟩
        unfold firstMove
        rw [if_neg hm, e1]
        simp; omega
  obtain ⟨i, hi, e1, e2⟩ := gen o.moves 0 h2
  exact ⟨i, hi, by unfold Ov.move; rw [e1]; simp, e2⟩

/-! ### All cells, in order -/
def Ov.cellAt (o : Ov) (i : Nat) : Sp := (((i / (o.R * o.C) : Nat) : Int), ((i % o.C : Nat) : Int), ((i / o.C % o.R : Nat) : Int))
def Ov.N (o : Ov) : Nat := o.P * (o.R * o.C)
def Ov.cells (o : Ov) : List Sp := (List.range o.N).map o.cellAt
def Ov.at' (o : Ov) (p x y : Nat) : Nat := (p * o.R + y) * o.C + x
theorem cellAt_at (o : Ov) (p x y : Nat) (hx : x < o.C) (hy : y < o.R) : o.cellAt (o.at' p x y) = ((p : Int), (x : Int), (y : Int)) := by
  unfold Ov.cellAt Ov.at'
  have hC : 0 < o.C := by omega
  have hR : 0 < o.R := by omega
  have e1 : ((p * o.R + y) * o.C + x) / o.C = p * o.R + y := by
    rw [Nat.add_comm, Nat.add_mul_div_right _ _ hC, Nat.div_eq_of_lt hx]; omega
  have e2 : ((p * o.R + y) * o.C + x) % o.C = x := by
    rw [Nat.add_comm, Nat.add_mul_mod_self_right, Nat.mod_eq_of_lt hx]
  have e3 : (p * o.R + y) / o.R = p := by
    rw [Nat.add_comm, Nat.add_mul_div_right _ _ hR, Nat.div_eq_of_lt hy]; omega
  have e4 : (p * o.R + y) % o.R = y := by
    rw [Nat.add_comm, Nat.add_mul_mod_self_right, Nat.mod_eq_of_lt hy]
  rw [Nat.mul_comm o.R o.C, ← Nat.div_div_eq_div_mul, e1, e2, e3, e4]
theorem at_lt (o : Ov) (p x y : Nat) (hp : p < o.P) (hx : x < o.C) (hy : y < o.R) : o.at' p x y < o.N := by
  unfold Ov.at' Ov.N
  have h1 : p * o.R + y + 1 ≤ o.P * o.R := by
    have : (p + 1) * o.R ≤ o.P * o.R := Nat.mul_le_mul_right _ hp
    rw [Nat.add_mul] at this; omega
  have h2 : (p * o.R + y + 1) * o.C ≤ o.P * o.R * o.C := Nat.mul_le_mul_right _ h1
  rw [Nat.add_mul] at h2
  rw [← Nat.mul_assoc]
  omega
theorem cellAt_ex (o : Ov) (i : Nat) (h : i < o.N) : o.ex (o.cellAt i) = true := by
  unfold Ov.N at h
  have hRC : 0 < o.R * o.C := by
    rcases Nat.eq_zero_or_pos (o.R * o.C) with e | e
    · rw [e] at h; omega
    · exact e
  have hC : 0 < o.C := Nat.pos_of_mul_pos_left hRC
  have hR : 0 < o.R := Nat.pos_of_mul_pos_right hRC
  have h1 : i / (o.R * o.C) < o.P := (Nat.div_lt_iff_lt_mul hRC).2 h
  have h2 : i % o.C < o.C := Nat.mod_lt _ hC
  have h3 : i / o.C % o.R < o.R := Nat.mod_lt _ hR
  unfold Ov.ex Ov.cellAt
  simp only [decide_eq_true_eq]
  generalize i / (o.R * o.C) = a at *
  generalize i % o.C = b at *
  generalize i / o.C % o.R = d at *
  omega
theorem at_cellAt (o : Ov) (i : Nat) : o.at' (i / (o.R * o.C)) (i % o.C) (i / o.C % o.R) = i := by
  unfold Ov.at'
  rw [Nat.mul_comm o.R o.C, ← Nat.div_div_eq_div_mul, Nat.mul_comm (i / o.C / o.R), Nat.div_add_mod, Nat.mul_comm (i / o.C), Nat.div_add_mod]
theorem cellAt_inj (o : Ov) {i j : Nat} (h : o.cellAt i = o.cellAt j) : i = j := by
  unfold Ov.cellAt at h
  simp only [Prod.mk.injEq] at h
  obtain ⟨h1, h2, h3⟩ := h
  rw [← at_cellAt o i, ← at_cellAt o j]
  rw [Int.ofNat.inj h1, Int.ofNat.inj h2, Int.ofNat.inj h3]
theorem ex_cell (o : Ov) (c : Sp) (h : o.ex c = true) : ∃ p x y : Nat, c = ((p : Int), (x : Int), (y : Int)) ∧ p < o.P ∧ x < o.C ∧ y < o.R := by
  obtain ⟨p, x, y⟩ := c
  unfold Ov.ex at h
  simp only [decide_eq_true_eq] at h
  refine ⟨p.toNat, x.toNat, y.toNat, ?_, by omega, by omega, by omega⟩
  rw [Int.toNat_of_nonneg (by omega), Int.toNat_of_nonneg (by omega), Int.toNat_of_nonneg (by omega)]
theorem mem_cells (o : Ov) (c : Sp) : c ∈ o.cells ↔ o.ex c = true := by
  unfold Ov.cells
  rw [List.mem_map]
  constructor
  · rintro ⟨i, hi, rfl⟩
    exact cellAt_ex o i (List.mem_range.1 hi)
  · intro h
    obtain ⟨p, x, y, rfl, hp, hx, hy⟩ := ex_cell o c h
    exact ⟨o.at' p x y, List.mem_range.2 (at_lt o p x y hp hx hy), cellAt_at o p x y hx hy⟩
theorem nodup_cells (o : Ov) : o.cells.Nodup := by
  unfold Ov.cells
  rw [List.Nodup, List.pairwise_map]
  refine (List.pairwise_lt_range (n := o.N)).imp ?_
  intro a b hab e
  have := cellAt_inj o e
  omega

/-! ### The rounds -/
def Ov.K (o : Ov) : Nat → Sp → Bool
  | 0, c => o.ex c && inG o.safe c
  | k + 1, c => o.K k c && o.canM (o.K k) c
def Ov.still (o : Ov) (k : Nat) : Prop := ∀ c, o.K (k + 1) c = o.K k c
theorem K_ex (o : Ov) : ∀ k c, o.K k c = true → o.ex c = true
  | 0, c, h => by simp [Ov.K] at h; exact h.1
  | k + 1, c, h => by simp [Ov.K] at h; exact K_ex o k c h.1
theorem K_safe (o : Ov) : ∀ k c, o.K k c = true → inG o.safe c = true
  | 0, c, h => by simp [Ov.K] at h; exact h.2
  | k + 1, c, h => by simp [Ov.K] at h; exact K_safe o k c h.1
theorem K_succ_le (o : Ov) (k : Nat) (c : Sp) (h : o.K (k + 1) c = true) : o.K k c = true := by simp [Ov.K] at h; exact h.1
theorem K_le (o : Ov) {k j : Nat} (hkj : k ≤ j) (c : Sp) (h : o.K j c = true) : o.K k c = true := by
  induction hkj with
  | refl => exact h
  | step _ ih => exact ih (K_succ_le o _ c h)
theorem still_up (o : Ov) {k : Nat} (h : o.still k) : ∀ j, k ≤ j → o.K j = o.K k := by
  intro j hj
  induction hj with
  | refl => rfl
  | @step j _ ih =>
    funext c
    have e := h c
    simp only [Ov.K] at e ⊢
    rw [ih]
    exact e
theorem still_eq (o : Ov) {k j : Nat} (hk : o.still k) (hj : o.still j) : o.K k = o.K j := by
  rcases Nat.le_total k j with h | h
  · exact (still_up o hk j h).symm
  · exact still_up o hj k h

/-- in how many steps a cell is lost, of the first k -/
def Ov.lost (o : Ov) : Nat → Sp → Option Nat
  | 0, c => if o.K 0 c then none else some 0
  | k + 1, c => match o.lost k c with
    | some j => some j
    | none => if o.K (k + 1) c then none else some (k + 1)
theorem lost_none (o : Ov) : ∀ k c, o.lost k c = none ↔ o.K k c = true
  | 0, c => by unfold Ov.lost; split <;> simp_all
  | k + 1, c => by
    have ih := lost_none o k c
    unfold Ov.lost
    cases e : o.lost k c with
    | some j =>
      simp only [reduceCtorEq, false_iff]
      intro h
      rw [ih.2 (K_succ_le o k c h)] at e
      cases e
    | none =>
      simp only
      split <;> simp_all
theorem lost_some (o : Ov) : ∀ k c j, o.lost k c = some j ↔ j ≤ k ∧ o.K j c = false ∧ (∀ i, i < j → o.K i c = true)
  | 0, c, j => by
    unfold Ov.lost
    constructor
    · intro h
      split at h
      · cases h
      · cases h
        exact ⟨Nat.le_refl _, by simp_all, fun i hi => by omega⟩
    · rintro ⟨h1, h2, h3⟩
      obtain rfl : j = 0 := by omega
      rw [h2]; rfl
  | k + 1, c, j => by
    have ih := lost_some o k c
    unfold Ov.lost
    cases e : o.lost k c with
    | some i =>
      have hi := (ih i).1 e
      simp only [Option.some.injEq]
      constructor
      · rintro rfl; exact ⟨by omega, hi.2⟩
      · rintro ⟨h1, h2, h3⟩
        rcases Nat.lt_trichotomy i j with h | h | h
        · rw [h3 i h] at hi; exact absurd hi.2.1 (by decide)
        · exact h
        · rw [hi.2.2 j h] at h2; cases h2
    | none =>
      have hk := (lost_none o k c).1 e
      simp only
      constructor
      · intro h
        split at h
        · cases h
        · cases h
          exact ⟨Nat.le_refl _, by simp_all, fun i hi => K_le o (by omega) c hk⟩
      · rintro ⟨h1, h2, h3⟩
        have hj : j = k + 1 := by
          by_cases hjk : j ≤ k
          · rw [K_le o hjk c hk] at h2; cases h2
          · omega
        subst hj
        rw [h2]; rfl
theorem lost_still (o : Ov) {k j : Nat} (hk : o.still k) (hj : o.still j) : o.lost k = o.lost j := by
  funext c
  cases e : o.lost k c with
  | none =>
    have := (lost_none o k c).1 e
    rw [still_eq o hk hj] at this
    exact ((lost_none o j c).2 this).symm
  | some i =>
    obtain ⟨h1, h2, h3⟩ := (lost_some o k c i).1 e
    symm
    rw [lost_some]
    refine ⟨?_, h2, h3⟩
    by_cases h : i ≤ j
    · exact h
    · have : o.K i c = o.K j c := congrFun (still_up o hj i (by omega)) c
      rw [h2] at this
      rw [h3 j (by omega)] at this
      cases this

/-! ### The rounds to a goal -/
def Ov.G (o : Ov) (g : Grid) : Nat → Sp → Bool
  | 0, c => o.ex c && inG o.safe c && inG g c
  | k + 1, c => o.G g k c || (o.ex c && inG o.safe c && o.canM (o.G g k) c)
def Ov.stillG (o : Ov) (g : Grid) (k : Nat) : Prop := ∀ c, o.G g (k + 1) c = o.G g k c
theorem G_ex (o : Ov) (g : Grid) : ∀ k c, o.G g k c = true → o.ex c = true ∧ inG o.safe c = true
  | 0, c, h => by simp [Ov.G] at h; exact h.1
  | k + 1, c, h => by
    simp [Ov.G] at h
    rcases h with h | h
    · exact G_ex o g k c h
    · exact h.1
theorem G_le (o : Ov) (g : Grid) {k j : Nat} (hkj : k ≤ j) (c : Sp) (h : o.G g k c = true) : o.G g j c = true := by
  induction hkj with
  | refl => exact h
  | step _ ih => simp [Ov.G, ih]
theorem stillG_up (o : Ov) (g : Grid) {k : Nat} (h : o.stillG g k) : ∀ j, k ≤ j → o.G g j = o.G g k := by
  intro j hj
  induction hj with
  | refl => rfl
  | @step j _ ih =>
    funext c
    have e := h c
    simp only [Ov.G] at e ⊢
    rw [ih]
    exact e
/-- in how many steps the goal is reached, of the first k -/
def Ov.near (o : Ov) (g : Grid) : Nat → Sp → Option Nat
  | 0, c => if o.G g 0 c then some 0 else none
  | k + 1, c => match o.near g k c with
    | some j => some j
    | none => if o.G g (k + 1) c then some (k + 1) else none
theorem near_none (o : Ov) (g : Grid) : ∀ k c, o.near g k c = none ↔ o.G g k c = false
  | 0, c => by unfold Ov.near; split <;> simp_all
  | k + 1, c => by
    have ih := near_none o g k c
    unfold Ov.near
    cases e : o.near g k c with
    | some j =>
      simp only [reduceCtorEq, false_iff]
      intro h
      have : o.G g k c = false := by
        cases e2 : o.G g k c with
        | false => rfl
        | true => rw [G_le o g (Nat.le_succ k) c e2] at h; cases h
      rw [ih.2 this] at e
      cases e
    | none =>
      simp only
      split <;> simp_all
theorem near_some (o : Ov) (g : Grid) : ∀ k c j, o.near g k c = some j ↔ j ≤ k ∧ o.G g j c = true ∧ (∀ i, i < j → o.G g i c = false)
  | 0, c, j => by
    unfold Ov.near
    constructor
    · intro h
      split at h
      · cases h
        exact ⟨Nat.le_refl _, by simp_all, fun i hi => by omega⟩
      · cases h
    · rintro ⟨h1, h2, h3⟩
      obtain rfl : j = 0 := by omega
      rw [h2]; rfl
  | k + 1, c, j => by
    have ih := near_some o g k c
    unfold Ov.near
    cases e : o.near g k c with
    | some i =>
      have hi := (ih i).1 e
      simp only [Option.some.injEq]
      constructor
      · rintro rfl; exact ⟨by omega, hi.2⟩
      · rintro ⟨h1, h2, h3⟩
        rcases Nat.lt_trichotomy i j with h | h | h
        · rw [h3 i h] at hi; exact absurd hi.2.1 (by decide)
        · exact h
        · rw [hi.2.2 j h] at h2; cases h2
    | none =>
      have hk := (near_none o g k c).1 e
      have low : ∀ i, i ≤ k → o.G g i c = false := fun i hi => by
        cases e2 : o.G g i c with
        | false => rfl
        | true => rw [G_le o g hi c e2] at hk; cases hk
      simp only
      constructor
      · intro h
        split at h
        · cases h
          exact ⟨Nat.le_refl _, by simp_all, fun i hi => low i (by omega)⟩
        · cases h
      · rintro ⟨h1, h2, h3⟩
        have hj : j = k + 1 := by
          by_cases hjk : j ≤ k
          · rw [low j hjk] at h2; cases h2
          · omega
        subst hj
        rw [h2]; rfl
theorem near_still (o : Ov) (g : Grid) {k j : Nat} (hk : o.stillG g k) (hj : o.stillG g j) : o.near g k = o.near g j := by
  funext c
  have up : ∀ {a : Nat}, o.stillG g a → ∀ i, o.near g a c = some i ↔ (o.G g i c = true ∧ ∀ l, l < i → o.G g l c = false) := by
    intro a ha i
    rw [near_some]
    constructor
    · exact fun h => h.2
    · rintro ⟨h2, h3⟩
      refine ⟨?_, h2, h3⟩
      by_cases h : i ≤ a
      · exact h
      · have : o.G g i c = o.G g a c := congrFun (stillG_up o g ha i (by omega)) c
        rw [h2, h3 a (by omega)] at this
        cases this
  apply Option.ext
  intro i
  rw [up hk, up hj]
end Go.Proofs.YtjonbhimbhidpaaDoor

namespace Go.Proofs.YtjonbhimbhidpaaDoor
open Go.RowKit

theorem hid {p : Prop} (h : p) : Hid p := h

/-! ### Cells as keys -/
def spv (c : Sp) : Value := .agg #[.int .i64 c.1, .int .i64 c.2.1, .int .i64 c.2.2]
/-- a cell that is near enough to be a key -/
def InR (c : Sp) : Prop := (-1000000 ≤ c.1 ∧ c.1 ≤ 1000000) ∧ (-1000000 ≤ c.2.1 ∧ c.2.1 ≤ 1000000) ∧ (-1000000 ≤ c.2.2 ∧ c.2.2 ≤ 1000000)
def kl (c : Sp) : Lit := .string (keyBytes [.int .i64 c.1, .int .i64 c.2.1, .int .i64 c.2.2])
theorem row87 : (87 : TypeId) < Tryd.prog.types.size := of_decide_eq_true (by kernel_rfl)
theorem cells87 : Tryd.prog.cellsOf 87 = 3 := by kernel_rfl
theorem arr87 : WideMaps.ArrKey Tryd.prog 87 3 3 := ⟨Tryd.underlying87, by kernel_rfl, by kernel_rfl, cells87⟩
theorem wide87 : (match Tryd.prog.underlying 87 with | some (.array _ _) | some (.struct _) => true | _ => false) = true := by rw [Tryd.underlying87]
theorem K87 : Maps.Keyed Tryd.prog 87 := Maps.Keyed.of_law arr87.law
theorem keyType87 : Tryd.prog.keyType 87 = true := by kernel_rfl
theorem wf64 {z : Int} (h : -1000000 ≤ z ∧ z ≤ 1000000) : (Lit.int .i64 z).wf = true := by
  have h1 : IntKind.i64.min ≤ z := by have : IntKind.i64.min = -9223372036854775808 := by decide
                                      omega
  have h2 : z ≤ IntKind.i64.max := by have : IntKind.i64.max = 9223372036854775807 := by decide
                                      omega
  unfold Lit.wf
  rw [Bool.and_eq_true, decide_eq_true_eq, decide_eq_true_eq]
  exact ⟨h1, h2⟩
theorem types_succ : Tryd.prog.types.size + 1 = (Tryd.prog.types.size - 1) + 1 + 1 := by
  have : 87 < Tryd.prog.types.size := row87
  omega
theorem keyLits3 (d : Nat) {z : Int} (h : (Lit.int .i64 z).wf = true) : Tryd.prog.keyLits (d + 1) 3 [.int .i64 z] = some [.int .i64 z] := by
  unfold Program.keyLits
  rw [Tryd.underlying3]
  simp [h]
theorem keyLits87 (d : Nat) {a b c : Int} (ha : (Lit.int .i64 a).wf = true) (hb : (Lit.int .i64 b).wf = true) (hc : (Lit.int .i64 c).wf = true) :
    Tryd.prog.keyLits (d + 1 + 1) 87 [.int .i64 a, .int .i64 b, .int .i64 c] = some [.int .i64 a, .int .i64 b, .int .i64 c] := by
  have c3 : Tryd.prog.cellsOf 3 = 1 := by kernel_rfl
  have r3 : List.range 3 = [0, 1, 2] := by decide
  have k1 := keyLits3 d ha
  have k2 := keyLits3 d hb
  have k3 := keyLits3 d hc
  generalize hK : Tryd.prog.keyLits (d + 1) = K at *
  unfold Program.keyLits
  rw [Tryd.underlying87]
  simp only [cells87, c3, r3, hK]
  simp [k1, k2, k3]
theorem keyOf_sp {c : Sp} (h : InR c) : keyOf Tryd.prog 87 (spv c) = some (kl c) := by
  obtain ⟨p, x, y⟩ := c
  have hf : (spv (p, x, y)).formed Tryd.prog 87 = true := by simp [spv, Value.formed, Tryd.underlying87, cells87]
  unfold keyOf
  rw [Tryd.underlying87]
  simp only [keyType87, hf, Bool.and_self, if_true]
  rw [types_succ]
  rw [show (spv (p, x, y)).cells.toList = [.int .i64 p, .int .i64 x, .int .i64 y] from rfl, keyLits87 _ (wf64 h.1) (wf64 h.2.1) (wf64 h.2.2)]
  rfl
theorem spv_inj {c d : Sp} (h : spv c = spv d) : c = d := by
  obtain ⟨a, b, e⟩ := c
  obtain ⟨a', b', e'⟩ := d
  simp [spv] at h
  obtain ⟨rfl, rfl, rfl⟩ := h
  rfl
theorem kl_key (c : Sp) : WideAt.IsKeyLit (kl c) := trivial
theorem kl_inj {c d : Sp} (hc : InR c) (hd : InR d) (h : kl c = kl d) : c = d :=
  spv_inj (K87.inj (keyOf_sp hc) (h ▸ keyOf_sp hd))
theorem kl_same {c d : Sp} (hc : InR c) (hd : InR d) : (kl c).sameKey (kl d) = decide (c = d) := by
  by_cases h : c = d
  · subst h
    rw [WideAt.sameKey_self (kl_key c)]; simp
  · have : (kl c).sameKey (kl d) = false := by
      cases e : (kl c).sameKey (kl d)
      · rfl
      · exact absurd (kl_inj hc hd (WideAt.sameKey_eq e)) h
    rw [this]; simp [h]

/-! ### Sets of cells -/
/-- the datum of a map reads as a set of cells -/
structure SetD (D : DataW Unit) (L : List Sp) : Prop where
  nodup : L.Nodup
  inR : ∀ c ∈ L, InR c
  has : ∀ k, Maps.has D k = L.any fun c => (kl c).sameKey k
  size : Maps.size D = L.length
  at' : ∀ c ∈ L, ∀ z, D.atKey (kl c) z = .lit (.bool true)
theorem SetD.has_kl {D : DataW Unit} {L : List Sp} (h : SetD D L) {c : Sp} (hc : InR c) : Maps.has D (kl c) = decide (c ∈ L) := by
  rw [h.has, Bool.eq_iff_iff, List.any_eq_true, decide_eq_true_eq]
  constructor
  · rintro ⟨d, hd, e⟩
    rw [kl_same (h.inR d hd) hc, decide_eq_true_eq] at e
    exact e ▸ hd
  · intro hm
    exact ⟨c, hm, by rw [kl_same hc hc]; simp⟩
theorem SetD.atKey {D : DataW Unit} {L : List Sp} (h : SetD D L) {c : Sp} (hc : InR c) : D.atKey (kl c) (.lit (.bool false)) = .lit (.bool (decide (c ∈ L))) := by
  by_cases hm : c ∈ L
  · rw [h.at' c hm]; simp [hm]
  · rw [Maps.atKey_of_not_has (by rw [h.has_kl hc]; simpa using hm)]; simp [hm]
theorem setD_nil : SetD (.map []) [] := ⟨List.nodup_nil, fun _ h => by simp at h, fun _ => rfl, rfl, fun _ h => by simp at h⟩
theorem setD_put {D : DataW Unit} {L : List Sp} (h : SetD D L) (ht : Maps.Tidy D) {c : Sp} (hc : InR c) (hm : c ∉ L) : SetD (D.put (kl c) (.lit (.bool true))) (L ++ [c]) := by
  have hD : Maps.IsMap D := ⟨_, ht.choose_spec.1⟩
  have hh : Maps.has D (kl c) = false := by rw [h.has_kl hc]; simpa using hm
  refine ⟨?_, ?_, ?_, ?_, ?_⟩
  · rw [List.nodup_append]
    refine ⟨h.nodup, by simp, fun a ha b hb e => ?_⟩
    simp at hb
    subst hb
    exact hm (e ▸ ha)
  · intro d hd
    rcases List.mem_append.1 hd with hd | hd
    · exact h.inR d hd
    · simp at hd; exact hd ▸ hc
  · intro k
    rw [List.any_append, List.any_cons, List.any_nil, Bool.or_false, ← h.has]
    by_cases e : k = kl c
    · rw [e, Maps.has_put_same hD (kl_key c), WideAt.sameKey_self (kl_key c)]; simp
    · rw [Maps.has_put_other e]
      have : (kl c).sameKey k = false := by
        cases e2 : (kl c).sameKey k
        · rfl
        · exact absurd (WideAt.sameKey_eq e2).symm e
      rw [this]; simp
  · rw [Maps.size_put ht, hh, List.length_append, h.size]; rfl
  · intro d hd z
    rcases List.mem_append.1 hd with hd | hd
    · rw [Maps.atKey_put_other (fun e => hm (kl_inj (h.inR d hd) hc e ▸ hd)), h.at' d hd]
    · simp at hd
      subst hd
      rw [Maps.atKey_put_same hD (kl_key _)]
theorem setD_del {D : DataW Unit} {L : List Sp} (h : SetD D L) (ht : Maps.Tidy D) {c : Sp} (hc : InR c) (hm : c ∈ L) : SetD (D.del (kl c)) (L.erase c) := by
  have hh : Maps.has D (kl c) = true := by rw [h.has_kl hc]; simpa using hm
  refine ⟨h.nodup.erase _, fun d hd => h.inR d (List.mem_of_mem_erase hd), ?_, ?_, ?_⟩
  · intro k
    by_cases e : k = kl c
    · rw [e, Maps.has_del_same]
      symm
      rw [List.any_eq_false]
      intro d hd
      rw [kl_same (h.inR d (List.mem_of_mem_erase hd)) hc]
      simp only [decide_eq_true_eq]
      intro e2
      exact (List.Nodup.mem_erase_iff h.nodup).1 hd |>.1 e2
    · rw [Maps.has_del_other e, h.has, Bool.eq_iff_iff, List.any_eq_true, List.any_eq_true]
      constructor
      · rintro ⟨d, hd, hk⟩
        refine ⟨d, (List.Nodup.mem_erase_iff h.nodup).2 ⟨fun e2 => e ?_, hd⟩, hk⟩
        rw [← WideAt.sameKey_eq hk, e2]
      · rintro ⟨d, hd, hk⟩
        exact ⟨d, List.mem_of_mem_erase hd, hk⟩
  · have := Maps.size_del (k := kl c) ht
    rw [hh, h.size] at this
    rw [List.length_erase_of_mem hm]
    simp at this
    omega
  · intro d hd z
    have h2 := (List.Nodup.mem_erase_iff h.nodup).1 hd
    rw [Maps.atKey_del_other (fun e => h2.1 (kl_inj (h.inR d h2.2) hc e)), h.at' d h2.2]

/-- block b is a map that reads as a set of cells -/
def SetW (W : World) (b : Nat) (L : List Sp) : Prop := ∃ D, W.ownsMap (H := Unit) Tryd.prog 87 (plainElem Tryd.prog 4) b L.length D ∧ SetD D L
theorem setW_made (W : World) : SetW (W.alloc (.map #[] 0)) W.heap.size [] := ⟨_, World.ownsMap_made W Tryd.prog 87 _, setD_nil⟩
theorem setW_lt {W : World} {b : Nat} {L : List Sp} (h : SetW W b L) : b < W.heap.size := by
  obtain ⟨D, h, _⟩ := h
  exact h.lt
theorem setW_kept {W W' : World} {b : Nat} {L : List Sp} {row : Option Nat} (h : SetW W b L) (hg : W.grownBy W' row) (hr : some b ≠ row) : SetW W' b L := by
  obtain ⟨D, h, hD⟩ := h
  exact ⟨D, h.kept hg hr, hD⟩
theorem setW_below {W W' : World} {b B : Nat} {L : List Sp} (h : SetW W b L) (hb : Below B W W') (hB : b < B) : SetW W' b L := by
  obtain ⟨D, ⟨es, clock, hh, F, hs, hE⟩, hD⟩ := h
  exact ⟨D, ⟨es, clock, (hb.block b hB).trans hh, F, hs, hE⟩, hD⟩
theorem setW_perm {W : World} {b : Nat} {L L' : List Sp} (h : SetW W b L) (hp : L'.Perm L) : SetW W b L' := by
  obtain ⟨D, h, hD⟩ := h
  refine ⟨D, by rw [hp.length_eq]; exact h, hp.nodup_iff.2 hD.nodup, fun c hc => hD.inR c (hp.mem_iff.1 hc), fun k => ?_, by rw [hp.length_eq]; exact hD.size, fun c hc => hD.at' c (hp.mem_iff.1 hc)⟩
  rw [hD.has, Bool.eq_iff_iff, List.any_eq_true, List.any_eq_true]
  exact ⟨fun ⟨x, hx, e⟩ => ⟨x, hp.mem_iff.2 hx, e⟩, fun ⟨x, hx, e⟩ => ⟨x, hp.mem_iff.1 hx, e⟩⟩
theorem zero4 (w : World) : (zeroValue 4).run Tryd.prog w = .ok (.bool false) w := by kernel_rfl
theorem zero3 (w : World) : (zeroValue 3).run Tryd.prog w = .ok (.int .i64 0) w := by kernel_rfl
theorem setW_look {W : World} {b : Nat} {L : List Sp} (h : SetW W b L) {c : Sp} (hc : InR c) : (Instr.lookup 90 (.map (some b)) (spv c) false).run Tryd.prog W = .ok (.bool (decide (c ∈ L))) W := by
  obtain ⟨D, h, hD⟩ := h
  obtain ⟨v, ps, hr, hv⟩ := h.lookup K87 Tryd.underlying90 (zero4 W) (zd := .lit (.bool false)) (zp := []) (by simp [plainElem, Tryd.underlying4]) (keyOf_sp hc)
  rw [hD.atKey hc] at hv
  rw [hr]
  cases v <;> simp [plainElem, Tryd.underlying4] at hv
  rw [hv.1]
theorem setW_put {W : World} {b : Nat} {L : List Sp} (h : SetW W b L) {c : Sp} (hc : InR c) (hm : c ∉ L) (hn : L.length < 1000000) :
    ∃ W', (Instr.mapUpdate 90 (.map (some b)) (spv c) (.bool true)).run Tryd.prog W = .ok () W' ∧ SetW W' b (L ++ [c]) ∧ W.grownBy W' (some b) ∧ W'.heap.size = W.heap.size := by
  obtain ⟨D, h, hD⟩ := h
  obtain ⟨W', hr, h2, h3⟩ := h.store K87 Tryd.underlying90 (by unfold maxLen; omega) (keyOf_sp hc) (d := .lit (.bool true)) (ps := []) (val := .bool true) (by simp [plainElem, Tryd.underlying4])
  refine ⟨W', hr, ⟨_, by rw [List.length_append]; exact h2, setD_put hD (h.tidy K87) hc hm⟩, h3.grown, ?_⟩
  obtain ⟨es, clock, es', clock', _, rfl⟩ := h3
  simp [ChangeMaps.setBlock]
theorem setW_del {W : World} {b : Nat} {L : List Sp} (h : SetW W b L) {c : Sp} (hc : InR c) (hm : c ∈ L) (ty : TypeId) :
    ∃ W', (Builtin.delete_ #[90, 87] ty #[.map (some b), spv c]).run Tryd.prog W = .ok (.tuple #[]) W' ∧ SetW W' b (L.erase c) ∧ W.grownBy W' (some b) ∧ W'.heap.size = W.heap.size := by
  obtain ⟨D, h, hD⟩ := h
  obtain ⟨W', hr, h2, h3⟩ := h.drop K87 Tryd.underlying90 (keyOf_sp hc) ty
  have hD2 := setD_del hD (h.tidy K87) hc hm
  refine ⟨W', hr, ⟨_, ?_, hD2⟩, h3.grown, ?_⟩
  · obtain ⟨es, clock, hb, F, _, hE⟩ := h2
    refine ⟨es, clock, hb, F, ?_, hE⟩
    rw [← hD2.size, hE]
    simp [Maps.size, length_sorted]
  · obtain ⟨es, clock, es', clock', _, rfl⟩ := h3
    simp [ChangeMaps.setBlock]
theorem setW_len {W : World} {b : Nat} {L : List Sp} (h : SetW W b L) (ty : TypeId) : (Builtin.len_ #[90] ty #[.map (some b)]).run Tryd.prog W = .ok (.int .i64 L.length) W := by
  obtain ⟨D, h, hD⟩ := h
  rw [h.len Tryd.underlying90 ty, hD.size]

/-! ### Maps of cells to numbers -/
structure NumD (D : DataW Unit) (f : Sp → Option Nat) : Prop where
  has : ∀ c, InR c → Maps.has D (kl c) = (f c).isSome
  at' : ∀ c, InR c → ∀ n, f c = some n → ∀ z, D.atKey (kl c) z = .lit (.int .i64 n)
def NumW (W : World) (b n : Nat) (f : Sp → Option Nat) : Prop := ∃ D, W.ownsMap (H := Unit) Tryd.prog 87 (plainElem Tryd.prog 3) b n D ∧ NumD D f
theorem numW_made (W : World) : NumW (W.alloc (.map #[] 0)) W.heap.size 0 (fun _ => none) := ⟨_, World.ownsMap_made W Tryd.prog 87 _, fun _ _ => rfl, fun _ _ _ h => by cases h⟩
theorem numW_lt {W : World} {b n : Nat} {f : Sp → Option Nat} (h : NumW W b n f) : b < W.heap.size := by
  obtain ⟨D, h, _⟩ := h
  exact h.lt
theorem numW_kept {W W' : World} {b n : Nat} {f : Sp → Option Nat} {row : Option Nat} (h : NumW W b n f) (hg : W.grownBy W' row) (hr : some b ≠ row) : NumW W' b n f := by
  obtain ⟨D, h, hD⟩ := h
  exact ⟨D, h.kept hg hr, hD⟩
theorem numW_below {W W' : World} {b B n : Nat} {f : Sp → Option Nat} (h : NumW W b n f) (hb : Below B W W') (hB : b < B) : NumW W' b n f := by
  obtain ⟨D, ⟨es, clock, hh, F, hs, hE⟩, hD⟩ := h
  exact ⟨D, ⟨es, clock, (hb.block b hB).trans hh, F, hs, hE⟩, hD⟩
theorem numW_put {W : World} {b n : Nat} {f : Sp → Option Nat} (h : NumW W b n f) {c : Sp} (hc : InR c) (m : Nat) (hmm : m ≤ 1000000) (hn : n < 1000000000) :
    ∃ W', (Instr.mapUpdate 91 (.map (some b)) (spv c) (.int .i64 m)).run Tryd.prog W = .ok () W' ∧ NumW W' b (n + 1) (fun d => if d = c then some m else f d) ∧ W.grownBy W' (some b) ∧ W'.heap.size = W.heap.size := by
  obtain ⟨D, h, hD⟩ := h
  obtain ⟨W', hr, h2, h3⟩ := h.store K87 Tryd.underlying91 (by unfold maxLen; omega) (keyOf_sp hc) (d := .lit (.int .i64 m)) (ps := []) (val := .int .i64 m) (plainElem_int Tryd.underlying3 (wf64 (by omega)))
  refine ⟨W', hr, ⟨_, h2, fun d hd => ?_, fun d hd k hk z => ?_⟩, h3.grown, ?_⟩
  · by_cases e : d = c
    · rw [e, Maps.has_put_same h.isMap (kl_key c)]; simp
    · rw [Maps.has_put_other (fun e2 => e (kl_inj hd hc e2)), hD.has d hd]; simp [e]
  · by_cases e : d = c
    · subst e
      rw [if_pos rfl] at hk
      cases hk
      rw [Maps.atKey_put_same h.isMap (kl_key d)]
    · rw [if_neg e] at hk
      rw [Maps.atKey_put_other (fun e2 => e (kl_inj hd hc e2)), hD.at' d hd k hk]
  · obtain ⟨es, clock, es', clock', _, rfl⟩ := h3
    simp [ChangeMaps.setBlock]
theorem numW_look {W : World} {b n : Nat} {f : Sp → Option Nat} (h : NumW W b n f) {c : Sp} (hc : InR c) :
    (Instr.lookup 91 (.map (some b)) (spv c) true).run Tryd.prog W = .ok (.tuple #[.int .i64 ((f c).getD 0 : Nat), .bool (f c).isSome]) W := by
  obtain ⟨D, h, hD⟩ := h
  obtain ⟨v, ps, hr, hv⟩ := h.look_ok K87 Tryd.underlying91 (zero3 W) (zd := .lit (.int .i64 0)) (zp := []) (plainElem_int Tryd.underlying3 (by decide)) (keyOf_sp hc)
  rw [hr, hD.has c hc]
  obtain ⟨q, rfl, h1, _⟩ := plainElem_int_inv Tryd.underlying3 hv
  simp only [Prod.mk.injEq] at h1
  have e : q = ((f c).getD 0 : Nat) := by
    cases hf : f c with
    | none =>
      rw [Maps.atKey_of_not_has (by rw [hD.has c hc, hf]; rfl)] at h1
      simp only [DataW.lit.injEq, Lit.int.injEq, true_and] at h1
      rw [← h1.1]; rfl
    | some m =>
      rw [hD.at' c hc m hf] at h1
      simp only [DataW.lit.injEq, Lit.int.injEq, true_and] at h1
      rw [← h1.1]; rfl
  rw [e]
end Go.Proofs.YtjonbhimbhidpaaDoor

namespace Go.Proofs.YtjonbhimbhidpaaDoor
open Go.RowKit

def strB (l : Str) : ByteArray := ⟨l.toArray⟩
theorem strB_data (s : ByteArray) : strB s.data.toList = s := by
  obtain ⟨⟨l⟩⟩ := s
  rfl
theorem strB_list (l : Str) : (strB l).data.toList = l := rfl
theorem strB_size (l : Str) : (strB l).size = l.length := by
  show (strB l).data.size = _
  simp [strB]

/-- the value v reads, in the world w, as the list xs of strings -/
def IsStrs (w : World) (v : Value) (xs : List Str) : Prop :=
  ∃ a c, v = .slice a xs.length c ∧ xs.length ≤ 1000000 ∧ ∀ i, i < xs.length → ∃ g, a = some ⟨g, 0, none⟩ ∧ w.cell? ⟨g, i, none⟩ = some (.string (strB (xs.getD i [])))
theorem isStrs_below {w w' : World} {v : Value} {xs : List Str} (h : IsStrs w v xs) (hb : Below w.heap.size w w') : IsStrs w' v xs := by
  obtain ⟨a, c, rfl, hl, hc⟩ := h
  refine ⟨a, c, rfl, hl, fun i hi => ?_⟩
  obtain ⟨g, ha, hcell⟩ := hc i hi
  exact ⟨g, ha, by rw [hb.cell (World.block_lt_of_cell? w _ hcell)]; exact hcell⟩
/-- .. as a grid -/
def IsGrid (w : World) (v : Value) (xs : Grid) : Prop :=
  ∃ a c, v = .slice a xs.length c ∧ xs.length ≤ 1000000 ∧ ∀ i, i < xs.length → ∃ g u, a = some ⟨g, 0, none⟩ ∧ w.cell? ⟨g, i, none⟩ = some u ∧ IsStrs w u (xs.getD i [])
theorem isGrid_below {w w' : World} {v : Value} {xs : Grid} (h : IsGrid w v xs) (hb : Below w.heap.size w w') : IsGrid w' v xs := by
  obtain ⟨a, c, rfl, hl, hc⟩ := h
  refine ⟨a, c, rfl, hl, fun i hi => ?_⟩
  obtain ⟨g, u, ha, hcell, hs⟩ := hc i hi
  exact ⟨g, u, ha, by rw [hb.cell (World.block_lt_of_cell? w _ hcell)]; exact hcell, isStrs_below hs hb⟩
def mvAt (ms : List Mv) (i : Nat) : Mv := ms.getD i (0, 0, 0, 0)
def jlAt (js : List (Int × Int)) (i : Nat) : Int × Int := js.getD i (0, 0)
/-- .. as a list of moves -/
def IsMv (w : World) (v : Value) (xs : List Mv) : Prop :=
  ∃ a c, v = .slice a xs.length c ∧ xs.length ≤ 1000000 ∧ ∀ i, i < xs.length → ∃ g, a = some ⟨g, 0, none⟩ ∧
    w.cell? ⟨g, i * 4, none⟩ = some (.int .i64 (mvAt xs i).1) ∧ w.cell? ⟨g, i * 4 + 1, none⟩ = some (.int .i64 (mvAt xs i).2.1) ∧ w.cell? ⟨g, i * 4 + 2, none⟩ = some (.int .i64 (mvAt xs i).2.2.1) ∧ w.cell? ⟨g, i * 4 + 3, none⟩ = some (.int .i64 (mvAt xs i).2.2.2)
theorem isMv_below {w w' : World} {v : Value} {xs : List Mv} (h : IsMv w v xs) (hb : Below w.heap.size w w') : IsMv w' v xs := by
  obtain ⟨a, c, rfl, hl, hc⟩ := h
  refine ⟨a, c, rfl, hl, fun i hi => ?_⟩
  obtain ⟨g, ha, c0, c1, c2, c3⟩ := hc i hi
  have hlt := World.block_lt_of_cell? w _ c0
  exact ⟨g, ha, (hb.cell (p := ⟨g, i * 4, none⟩) hlt).trans c0, (hb.cell (p := ⟨g, i * 4 + 1, none⟩) hlt).trans c1, (hb.cell (p := ⟨g, i * 4 + 2, none⟩) hlt).trans c2, (hb.cell (p := ⟨g, i * 4 + 3, none⟩) hlt).trans c3⟩
/-- .. as a list of jolts -/
def IsJl (w : World) (v : Value) (xs : List (Int × Int)) : Prop :=
  ∃ a c, v = .slice a xs.length c ∧ xs.length ≤ 1000000 ∧ ∀ i, i < xs.length → ∃ g, a = some ⟨g, 0, none⟩ ∧
    w.cell? ⟨g, i * 2, none⟩ = some (.int .i64 (jlAt xs i).1) ∧ w.cell? ⟨g, i * 2 + 1, none⟩ = some (.int .i64 (jlAt xs i).2)
theorem isJl_below {w w' : World} {v : Value} {xs : List (Int × Int)} (h : IsJl w v xs) (hb : Below w.heap.size w w') : IsJl w' v xs := by
  obtain ⟨a, c, rfl, hl, hc⟩ := h
  refine ⟨a, c, rfl, hl, fun i hi => ?_⟩
  obtain ⟨g, ha, c0, c1⟩ := hc i hi
  have hlt := World.block_lt_of_cell? w _ c0
  exact ⟨g, ha, (hb.cell (p := ⟨g, i * 2, none⟩) hlt).trans c0, (hb.cell (p := ⟨g, i * 2 + 1, none⟩) hlt).trans c1⟩

/-- an oven as it is handed over: three slices -/
structure IsOv (w : World) (vs vm vj : Value) (o : Ov) : Prop where
  safe : IsGrid w vs o.safe
  moves : IsMv w vm o.moves
  jolts : IsJl w vj o.jolts
theorem isOv_below {w w' : World} {vs vm vj : Value} {o : Ov} (h : IsOv w vs vm vj o) (hb : Below w.heap.size w w') : IsOv w' vs vm vj o :=
  ⟨isGrid_below h.safe hb, isMv_below h.moves hb, isJl_below h.jolts hb⟩
/-- an oven as it is read: behind a pointer -/
structure OvAt (w : World) (b : Nat) (vs vm vj : Value) (o : Ov) : Prop where
  ov : IsOv w vs vm vj o
  c0 : w.cell? ⟨b, 0, none⟩ = some vs
  c1 : w.cell? ⟨b, 1, none⟩ = some vm
  c2 : w.cell? ⟨b, 2, none⟩ = some vj
  c3 : w.cell? ⟨b, 3, none⟩ = some (.int .i64 o.R)
  c4 : w.cell? ⟨b, 4, none⟩ = some (.int .i64 o.C)
theorem ovAt_below {w w' : World} {b : Nat} {vs vm vj : Value} {o : Ov} (h : OvAt w b vs vm vj o) (hb : Below w.heap.size w w') : OvAt w' b vs vm vj o := by
  have hlt := World.block_lt_of_cell? w _ h.c0
  exact ⟨isOv_below h.ov hb, (hb.cell (p := ⟨b, 0, none⟩) hlt).trans h.c0, (hb.cell (p := ⟨b, 1, none⟩) hlt).trans h.c1, (hb.cell (p := ⟨b, 2, none⟩) hlt).trans h.c2, (hb.cell (p := ⟨b, 3, none⟩) hlt).trans h.c3, (hb.cell (p := ⟨b, 4, none⟩) hlt).trans h.c4⟩
theorem ovAt_lt {w : World} {b : Nat} {vs vm vj : Value} {o : Ov} (h : OvAt w b vs vm vj o) : b < w.heap.size := World.block_lt_of_cell? w _ h.c0
end Go.Proofs.YtjonbhimbhidpaaDoor

namespace Go.Proofs.YtjonbhimbhidpaaDoor

def dotx (c : UInt8) : Bool := c == 46 || c == 35
def rowOk (C : Nat) (s : Str) : Bool := decide (s.length = C) && s.all dotx
def rowsOk (C : Nat) (p : List Str) : Bool := p.all (rowOk C)
def phaseOk (R C : Nat) (p : List Str) : Bool := decide (p.length = R) && rowsOk C p
def formB (P R C : Nat) (g : Grid) : Bool := decide (g.length = P) && g.all (phaseOk R C)
def within5 (x : Int) : Bool := decide (-5 ≤ x ∧ x ≤ 5)
def mvOk (P : Nat) (m : Mv) : Bool := decide (0 ≤ m.1 ∧ m.1 < P ∧ 0 ≤ m.2.1 ∧ m.2.1 < P) && within5 m.2.2.1 && within5 m.2.2.2
def jlOk (j : Int × Int) : Bool := within5 j.1 && within5 j.2
/-- an oven is valid -/
def Ov.valid (o : Ov) : Bool :=
  decide (1 ≤ o.P ∧ o.P ≤ 4 ∧ 1 ≤ o.R ∧ o.R ≤ 16 ∧ 1 ≤ o.C ∧ o.C ≤ 16 ∧ o.moves.length ≤ 16 ∧ 1 ≤ o.jolts.length ∧ o.jolts.length ≤ 4) && formB o.P o.R o.C o.safe && o.moves.all (mvOk o.P) && o.jolts.all jlOk

structure Ov.Ok (o : Ov) : Prop where
  p : 1 ≤ o.P ∧ o.P ≤ 4
  r : 1 ≤ o.R ∧ o.R ≤ 16
  c : 1 ≤ o.C ∧ o.C ≤ 16
  nm : o.moves.length ≤ 16
  nj : 1 ≤ o.jolts.length ∧ o.jolts.length ≤ 4
  form : formB o.P o.R o.C o.safe = true
  mv : ∀ m ∈ o.moves, mvOk o.P m = true
  jl : ∀ j ∈ o.jolts, jlOk j = true
theorem ok_of_valid {o : Ov} (h : o.valid = true) : o.Ok := by
  unfold Ov.valid at h
  simp only [Bool.and_eq_true, decide_eq_true_eq, List.all_eq_true] at h
  obtain ⟨⟨⟨⟨h1, h2, h3, h4, h5, h6, h7, h8, h9⟩, hf⟩, hm⟩, hj⟩ := h
  exact ⟨⟨h1, h2⟩, ⟨h3, h4⟩, ⟨h5, h6⟩, h7, ⟨h8, h9⟩, hf, hm, hj⟩
theorem form_row {P R C : Nat} {g : Grid} (h : formB P R C g = true) (p y : Nat) (hp : p < P) (hy : y < R) : (rowAt g p y).length = C ∧ (rowAt g p y).all dotx = true ∧ p < g.length ∧ y < (g.getD p []).length := by
  unfold formB at h
  simp only [Bool.and_eq_true, decide_eq_true_eq, List.all_eq_true] at h
  have hpg : p < g.length := by omega
  have e1 : g.getD p [] = g[p] := by simp [hpg]
  have h2 := h.2 g[p] (List.getElem_mem hpg)
  unfold phaseOk rowsOk at h2
  simp only [Bool.and_eq_true, decide_eq_true_eq, List.all_eq_true] at h2
  have hyg : y < g[p].length := by omega
  have h3 := h2.2 g[p][y] (List.getElem_mem hyg)
  unfold rowOk at h3
  simp only [Bool.and_eq_true, decide_eq_true_eq] at h3
  unfold rowAt
  rw [e1]
  have e2 : g[p].getD y [] = g[p][y] := by simp [hyg]
  rw [e2]
  exact ⟨h3.1, h3.2, hpg, hyg⟩
theorem form_len {P R C : Nat} {g : Grid} (h : formB P R C g = true) : g.length = P := by
  unfold formB at h
  simp only [Bool.and_eq_true, decide_eq_true_eq] at h
  exact h.1
theorem mv_ok {o : Ov} (h : o.Ok) (k : Nat) (hk : k < o.moves.length) : (0 ≤ o.moves[k].1 ∧ o.moves[k].1 < o.P) ∧ (0 ≤ o.moves[k].2.1 ∧ o.moves[k].2.1 < o.P) ∧ (-5 ≤ o.moves[k].2.2.1 ∧ o.moves[k].2.2.1 ≤ 5) ∧ (-5 ≤ o.moves[k].2.2.2 ∧ o.moves[k].2.2.2 ≤ 5) := by
  have := h.mv _ (List.getElem_mem hk)
  unfold mvOk within5 at this
  simp only [Bool.and_eq_true, decide_eq_true_eq] at this
  omega
theorem jl_ok {o : Ov} (h : o.Ok) (k : Nat) (hk : k < o.jolts.length) : (-5 ≤ o.jolts[k].1 ∧ o.jolts[k].1 ≤ 5) ∧ (-5 ≤ o.jolts[k].2 ∧ o.jolts[k].2 ≤ 5) := by
  have := h.jl _ (List.getElem_mem hk)
  unfold jlOk within5 at this
  simp only [Bool.and_eq_true, decide_eq_true_eq] at this
  omega
end Go.Proofs.YtjonbhimbhidpaaDoor

namespace Go.Proofs.YtjonbhimbhidpaaDoor
open Go.RowKit

theorem ret_eq {v u : Value} (h : v = u) : Ending.returned v = .returned u := by rw [h]
theorem ret_int {k : IntKind} {a b : Int} (h : a = b) : Ending.returned (.int k a) = .returned (.int k b) := by rw [h]
theorem ret_bool {a b : Bool} (h : a = b) : Ending.returned (.bool a) = .returned (.bool b) := by rw [h]

/-- a cell that is there stays while blocks are made -/
theorem cell_more {W : World} {p : Addr} {v : Value} (h : W.cell? p = some v) : (∀ A, (W.alloc A).cell? p = some v) ∧ (∀ A B, ((W.alloc A).alloc B).cell? p = some v) := by
  have hlt := World.block_lt_of_cell? W _ h
  have h1 : ∀ A, (W.alloc A).cell? p = some v := fun A => (World.cell?_alloc_lt W A p hlt).trans h
  refine ⟨h1, fun A B => ?_⟩
  exact (World.cell?_alloc_lt _ B p (by simp; omega)).trans (h1 A)
theorem cells3_of {W : World} {g : Nat} {a b c : Value} {t : TypeId} (h : W.heap[g]? = some (.cells #[a, b, c] t)) : W.cell? ⟨g, 0, none⟩ = some a ∧ W.cell? ⟨g, 1, none⟩ = some b ∧ W.cell? ⟨g, 2, none⟩ = some c := by
  refine ⟨?_, ?_, ?_⟩ <;> simp [World.cell?, h]

theorem free3_of {W : World} {g : Nat} {cs : Array Value} {t : TypeId} (h : W.heap[g]? = some (.cells cs t)) : W.frozen? ⟨g, 0, none⟩ = false ∧ W.frozen? ⟨g, 1, none⟩ = false ∧ W.frozen? ⟨g, 2, none⟩ = false := by
  refine ⟨?_, ?_, ?_⟩ <;> simp [World.frozen?, h]

set_option maxHeartbeats 1000000 in
theorem step_any (b : Nat) (vs vm vj : Value) (o : Ov) (c : Sp) (m j : Nat) (w : World) (ho : OvAt w b vs vm vj o) (hok : o.Ok) (hm : m < o.moves.length) (hj : j < o.jolts.length) (hc : InR c) :
    Calls Tryd.prog 58 #[.pointer (some ⟨b, 0, none⟩), spv c, .int .i64 m, .int .i64 j] w fun e w' => e = .returned (spv (stepOf c o.moves[m] o.jolts[j])) ∧ Below w.heap.size w w' := by
  obtain ⟨⟨hs, ⟨am, cm, rfl, hml, hmc⟩, ⟨aj, cj, rfl, hjl, hjc⟩⟩, c0, c1, c2, c3, c4⟩ := ho
  obtain ⟨gm, rfl, m0, m1, m2, m3⟩ := hmc m hm
  obtain ⟨gj, rfl, j0, j1⟩ := hjc j hj
  have bm := mv_ok hok m hm
  have bj := jl_ok hok j hj
  have em : mvAt o.moves m = o.moves[m] := by simp [mvAt, hm]
  have ej : jlAt o.jolts j = o.jolts[j] := by simp [jlAt, hj]
  rw [em] at m0 m1 m2 m3
  rw [ej] at j0 j1
  obtain ⟨p, x, y⟩ := c
  obtain ⟨hc1, hc2, hc3⟩ := hc
  generalize o.moves[m] = M at *
  generalize o.jolts[j] = J at *
  unfold spv
  simp only
  go_enter Tryd.func58, Tryd.ntmps58
  go_wp2
  have hb0 : Below w.heap.size w ((w.alloc (Obj.cells #[Value.int IntKind.i64 p, Value.int IntKind.i64 x, Value.int IntKind.i64 y] 87)).alloc (Obj.cells #[Value.int IntKind.i64 0, Value.int IntKind.i64 0, Value.int IntKind.i64 0] 87)) :=
    ((Below.refl _ _).alloc (Nat.le_refl _) _).alloc (by simp) _
  have hc0 : ((w.alloc (Obj.cells #[Value.int IntKind.i64 p, Value.int IntKind.i64 x, Value.int IntKind.i64 y] 87)).alloc (Obj.cells #[Value.int IntKind.i64 0, Value.int IntKind.i64 0, Value.int IntKind.i64 0] 87)).heap[w.heap.size]? = some (Obj.cells #[Value.int IntKind.i64 p, Value.int IntKind.i64 x, Value.int IntKind.i64 y] 87) := by
    rw [Below.heap_alloc _ _ _ (by simp)]; exact heap_alloc_new w _
  have hc1 : ((w.alloc (Obj.cells #[Value.int IntKind.i64 p, Value.int IntKind.i64 x, Value.int IntKind.i64 y] 87)).alloc (Obj.cells #[Value.int IntKind.i64 0, Value.int IntKind.i64 0, Value.int IntKind.i64 0] 87)).heap[w.heap.size + 1]? = some (Obj.cells #[Value.int IntKind.i64 0, Value.int IntKind.i64 0, Value.int IntKind.i64 0] 87) := by
    rw [show w.heap.size + 1 = (w.alloc (Obj.cells #[Value.int IntKind.i64 p, Value.int IntKind.i64 x, Value.int IntKind.i64 y] 87)).heap.size by simp]; exact heap_alloc_new _ _
  have hsz : ((w.alloc (Obj.cells #[Value.int IntKind.i64 p, Value.int IntKind.i64 x, Value.int IntKind.i64 y] 87)).alloc (Obj.cells #[Value.int IntKind.i64 0, Value.int IntKind.i64 0, Value.int IntKind.i64 0] 87)).heap.size = w.heap.size + 2 := by simp
  generalize ((w.alloc (Obj.cells #[Value.int IntKind.i64 p, Value.int IntKind.i64 x, Value.int IntKind.i64 y] 87)).alloc (Obj.cells #[Value.int IntKind.i64 0, Value.int IntKind.i64 0, Value.int IntKind.i64 0] 87)) = W at *
  have up : ∀ {a : Addr} {v : Value}, w.cell? a = some v → W.cell? a = some v := fun h => (hb0.cell (World.block_lt_of_cell? w _ h)).trans h
  obtain ⟨q0, q1, q2⟩ := cells3_of hc0
  obtain ⟨q3, q4, q5⟩ := cells3_of hc1
  obtain ⟨qf0, qf1, qf2⟩ := free3_of hc1
  have d1 := cell_more (up c1)
  have d2 := cell_more (up c2)
  have dm0 := cell_more (up m0)
  have dm1 := cell_more (up m1)
  have dm2 := cell_more (up m2)
  have dm3 := cell_more (up m3)
  have dj0 := cell_more (up j0)
  have dj1 := cell_more (up j1)
  have e1 := up c1
  have e2 := up c2
  have em0 := up m0
  have em1 := up m1
  have em2 := up m2
  have em3 := up m3
  have ej0 := up j0
  have ej1 := up j1
  obtain ⟨d11, d12⟩ := d1
  obtain ⟨d21, d22⟩ := d2
  obtain ⟨dm01, dm02⟩ := dm0
  obtain ⟨dm11, dm12⟩ := dm1
  obtain ⟨dm21, dm22⟩ := dm2
  obtain ⟨dm31, dm32⟩ := dm3
  obtain ⟨dj01, dj02⟩ := dj0
  obtain ⟨dj11, dj12⟩ := dj1
  clear hc0 hc1 up m0 m1 m2 m3 j0 j1 c0 c1 c2 c3 c4 hmc hjc
  go_region
  all_goals go_wp2
  all_goals
    refine bodyPost_ret (v := .agg #[.int .i64 M.2.1, .int .i64 (x + M.2.2.1 + J.1), .int .i64 (y + M.2.2.2 + J.2)]) (by simp [results, Tryd.results58, go_sem, q3, q4, q5, hsz]) rfl ⟨rfl, ?_⟩
  all_goals
    refine (((((hb0.setCell (p := ⟨_, _, none⟩) ?_ _).setCell (p := ⟨_, _, none⟩) ?_ _).setCell (p := ⟨_, _, none⟩) ?_ _).alloc ?_ _).alloc ?_ _).drew
    · exact Nat.le_succ _
    · exact Nat.le_succ _
    · exact Nat.le_succ _
    · simp; omega
    · simp; omega
end Go.Proofs.YtjonbhimbhidpaaDoor
