/-
  Chapter 6 in plain words: ovens, moves, the rounds by which cells are lost, and those by which a goal is reached.
-/
namespace Go.Proofs.YtjonbhimbhidpaaDoor

abbrev Str := List UInt8
abbrev Grid := List (List Str)
/-- a cell: phase, column, row -/
abbrev Sp := Int × Int × Int
/-- a move: from, to, x, y -/
abbrev Mv := Int × Int × Int × Int
structure Ov where
  safe : Grid
  moves : List Mv
  jolts : List (Int × Int)

def rowAt (g : Grid) (p y : Nat) : Str := (g.getD p []).getD y []
def chAt (g : Grid) (p y x : Nat) : UInt8 := (rowAt g p y).getD x 0
def inG (g : Grid) (c : Sp) : Bool := chAt g c.1.toNat c.2.2.toNat c.2.1.toNat == 46
def Ov.P (o : Ov) : Nat := o.safe.length
def Ov.R (o : Ov) : Nat := (o.safe.getD 0 []).length
def Ov.C (o : Ov) : Nat := (rowAt o.safe 0 0).length
def Ov.ex (o : Ov) (c : Sp) : Bool := decide (0 ≤ c.1 ∧ c.1 < o.P ∧ 0 ≤ c.2.2 ∧ c.2.2 < o.R ∧ 0 ≤ c.2.1 ∧ c.2.1 < o.C)
def stepOf (c : Sp) (m : Mv) (j : Int × Int) : Sp := (m.2.1, c.2.1 + m.2.2.1 + j.1, c.2.2 + m.2.2.2 + j.2)
def Ov.leads (o : Ov) (S : Sp → Bool) (c : Sp) (m : Mv) : Bool := m.1 == c.1 && o.jolts.all fun j => S (stepOf c m j)
/-- the first of some moves that leads into a set, from a number on -/
def firstMove (o : Ov) (S : Sp → Bool) (c : Sp) : Nat → List Mv → Int
  | _, [] => -1
  | k, m :: ms => if o.leads S c m then k else firstMove o S c (k + 1) ms
def Ov.move (o : Ov) (S : Sp → Bool) (c : Sp) : Int := firstMove o S c 0 o.moves
def Ov.canM (o : Ov) (S : Sp → Bool) (c : Sp) : Bool := o.moves.any (o.leads S c)

theorem firstMove_neg (o : Ov) (S : Sp → Bool) (c : Sp) : ∀ (ms : List Mv) (k : Nat), (firstMove o S c k ms < 0 ↔ ms.any (o.leads S c) = false)
  | [], k => by simp [firstMove]
  | m :: ms, k => by
    unfold firstMove
    by_cases h : o.leads S c m = true
    · simp [h]
    · simp [h, firstMove_neg o S c ms]
theorem move_neg (o : Ov) (S : Sp → Bool) (c : Sp) : o.move S c < 0 ↔ o.canM S c = false := firstMove_neg o S c o.moves 0
theorem move_neg' (o : Ov) (S : Sp → Bool) (c : Sp) : decide (o.move S c < 0) = !o.canM S c := by
  have := move_neg o S c
  cases h : o.canM S c
  · simpa [h] using this
  · simp [h] at this; simp; omega
theorem firstMove_ge (o : Ov) (S : Sp → Bool) (c : Sp) : ∀ (ms : List Mv) (k : Nat), -1 ≤ firstMove o S c k ms ∧ firstMove o S c k ms < ((k + ms.length : Nat) : Int)
  | [], k => by simp [firstMove]; omega
  | m :: ms, k => by
    unfold firstMove
    have := firstMove_ge o S c ms (k + 1)
    split
    · constructor
      · omega
      · simp; omega
    · refine ⟨this.1, ?_⟩
      have := this.2; simp at *; omega
theorem move_ge (o : Ov) (S : Sp → Bool) (c : Sp) : -1 ≤ o.move S c ∧ o.move S c < o.moves.length := by
  have := firstMove_ge o S c o.moves 0
  rw [Nat.zero_add] at this
  exact this
/-- no earlier move leads into the set, but this one does -/
theorem firstMove_at (o : Ov) (S : Sp → Bool) (c : Sp) : ∀ (pre : List Mv) (m : Mv) (post : List Mv) (k : Nat), pre.any (o.leads S c) = false → o.leads S c m = true → firstMove o S c k (pre ++ m :: post) = ((k + pre.length : Nat) : Int)
  | [], m, post, k, _, h => by simp [firstMove, h]
  | a :: pre, m, post, k, hp, h => by
    simp only [List.any_cons, Bool.or_eq_false_iff] at hp
    have := firstMove_at o S c pre m post (k + 1) hp.2 h
    simp only [List.cons_append, firstMove, hp.1]
    rw [if_neg (by decide), this]
    simp; omega
theorem take_any_succ {α : Type} (f : α → Bool) (xs : List α) (k : Nat) (h : k < xs.length) : (xs.take (k + 1)).any f = ((xs.take k).any f || f xs[k]) := by
  rw [List.take_add_one, List.any_append]
  simp [h]
theorem move_at (o : Ov) (S : Sp → Bool) (c : Sp) (k : Nat) (h : k < o.moves.length) (h0 : (o.moves.take k).any (o.leads S c) = false) (h1 : o.leads S c o.moves[k] = true) : o.move S c = k := by
  have e : o.moves = o.moves.take k ++ o.moves[k] :: o.moves.drop (k + 1) := by
    rw [← List.drop_eq_getElem_cons h, List.take_append_drop]
  unfold Ov.move
  rw [e, firstMove_at o S c _ _ _ 0 h0 h1]
  simp; omega
theorem move_none (o : Ov) (S : Sp → Bool) (c : Sp) (h0 : o.moves.any (o.leads S c) = false) : o.move S c = -1 := by
  have := (move_neg o S c).2 h0
  have := (move_ge o S c).1
  omega
/-- what the first move is, if there is one -/
theorem move_spec (o : Ov) (S : Sp → Bool) (c : Sp) (h : 0 ≤ o.move S c) : ∃ k, ∃ h : k < o.moves.length, o.move S c = (k : Int) ∧ o.leads S c o.moves[k] = true := by
  have h2 : o.canM S c = true := by
    cases e : o.canM S c
    · have := (move_neg o S c).2 e; omega
    · rfl
  have gen : ∀ (ms : List Mv) (k : Nat), ms.any (o.leads S c) = true → ∃ i, ∃ h : i < ms.length, firstMove o S c k ms = ((k + i : Nat) : Int) ∧ o.leads S c ms[i] = true := by
    intro ms
    induction ms with
    | nil => intro k h; simp at h
    | cons m ms ih =>
      intro k h
      by_cases hm : o.leads S c m = true
      · exact ⟨0, by simp, by simp [firstMove, hm], hm⟩
      · simp only [List.any_cons, hm, Bool.false_eq_true, false_or, Bool.or_eq_true] at h
        obtain ⟨i, hi, e1, e2⟩ := ih (k + 1) h
        refine ⟨i + 1, by simpa using hi, ?_, e2⟩
        unfold firstMove
        rw [if_neg hm, e1]
        simp; omega
  obtain ⟨i, hi, e1, e2⟩ := gen o.moves 0 h2
  exact ⟨i, hi, by unfold Ov.move; rw [e1]; simp, e2⟩

/-! ### All cells, in order -/
def Ov.cellAt (o : Ov) (i : Nat) : Sp := (((i / (o.R * o.C) : Nat) : Int), ((i % o.C : Nat) : Int), ((i / o.C % o.R : Nat) : Int))
def Ov.N (o : Ov) : Nat := o.P * (o.R * o.C)
def Ov.cells (o : Ov) : List Sp := (List.range o.N).map o.cellAt
def Ov.at' (o : Ov) (p x y : Nat) : Nat := (p * o.R + y) * o.C + x
theorem cellAt_at (o : Ov) (p x y : Nat) (hx : x < o.C) (hy : y < o.R) : o.cellAt (o.at' p x y) = ((p : Int), (x : Int), (y : Int)) := by
  unfold Ov.cellAt Ov.at'
  have hC : 0 < o.C := by omega
  have hR : 0 < o.R := by omega
  have e1 : ((p * o.R + y) * o.C + x) / o.C = p * o.R + y := by
    rw [Nat.add_comm, Nat.add_mul_div_right _ _ hC, Nat.div_eq_of_lt hx]; omega
  have e2 : ((p * o.R + y) * o.C + x) % o.C = x := by
    rw [Nat.add_comm, Nat.add_mul_mod_self_right, Nat.mod_eq_of_lt hx]
  have e3 : (p * o.R + y) / o.R = p := by
    rw [Nat.add_comm, Nat.add_mul_div_right _ _ hR, Nat.div_eq_of_lt hy]; omega
  have e4 : (p * o.R + y) % o.R = y := by
    rw [Nat.add_comm, Nat.add_mul_mod_self_right, Nat.mod_eq_of_lt hy]
  rw [Nat.mul_comm o.R o.C, ← Nat.div_div_eq_div_mul, e1, e2, e3, e4]
theorem at_lt (o : Ov) (p x y : Nat) (hp : p < o.P) (hx : x < o.C) (hy : y < o.R) : o.at' p x y < o.N := by
  unfold Ov.at' Ov.N
  have h1 : p * o.R + y + 1 ≤ o.P * o.R := by
    have : (p + 1) * o.R ≤ o.P * o.R := Nat.mul_le_mul_right _ hp
    rw [Nat.add_mul] at this; omega
  have h2 : (p * o.R + y + 1) * o.C ≤ o.P * o.R * o.C := Nat.mul_le_mul_right _ h1
  rw [Nat.add_mul] at h2
  rw [← Nat.mul_assoc]
  omega
theorem cellAt_ex (o : Ov) (i : Nat) (h : i < o.N) : o.ex (o.cellAt i) = true := by
  unfold Ov.N at h
  have hRC : 0 < o.R * o.C := by
    rcases Nat.eq_zero_or_pos (o.R * o.C) with e | e
    · rw [e] at h; omega
    · exact e
  have hC : 0 < o.C := Nat.pos_of_mul_pos_left hRC
  have hR : 0 < o.R := Nat.pos_of_mul_pos_right hRC
  have h1 : i / (o.R * o.C) < o.P := (Nat.div_lt_iff_lt_mul hRC).2 h
  have h2 : i % o.C < o.C := Nat.mod_lt _ hC
  have h3 : i / o.C % o.R < o.R := Nat.mod_lt _ hR
  unfold Ov.ex Ov.cellAt
  simp only [decide_eq_true_eq]
  generalize i / (o.R * o.C) = a at *
  generalize i % o.C = b at *
  generalize i / o.C % o.R = d at *
  omega
theorem at_cellAt (o : Ov) (i : Nat) : o.at' (i / (o.R * o.C)) (i % o.C) (i / o.C % o.R) = i := by
  unfold Ov.at'
  rw [Nat.mul_comm o.R o.C, ← Nat.div_div_eq_div_mul, Nat.mul_comm (i / o.C / o.R), Nat.div_add_mod, Nat.mul_comm (i / o.C), Nat.div_add_mod]
theorem cellAt_inj (o : Ov) {i j : Nat} (h : o.cellAt i = o.cellAt j) : i = j := by
  unfold Ov.cellAt at h
  simp only [Prod.mk.injEq] at h
  obtain ⟨h1, h2, h3⟩ := h
  rw [← at_cellAt o i, ← at_cellAt o j]
  rw [Int.ofNat.inj h1, Int.ofNat.inj h2, Int.ofNat.inj h3]
theorem ex_cell (o : Ov) (c : Sp) (h : o.ex c = true) : ∃ p x y : Nat, c = ((p : Int), (x : Int), (y : Int)) ∧ p < o.P ∧ x < o.C ∧ y < o.R := by
  obtain ⟨p, x, y⟩ := c
  unfold Ov.ex at h
  simp only [decide_eq_true_eq] at h
  refine ⟨p.toNat, x.toNat, y.toNat, ?_, by omega, by omega, by omega⟩
  rw [Int.toNat_of_nonneg (by omega), Int.toNat_of_nonneg (by omega), Int.toNat_of_nonneg (by omega)]
theorem mem_cells (o : Ov) (c : Sp) : c ∈ o.cells ↔ o.ex c = true := by
  unfold Ov.cells
  rw [List.mem_map]
  constructor
  · rintro ⟨i, hi, rfl⟩
    exact cellAt_ex o i (List.mem_range.1 hi)
  · intro h
    obtain ⟨p, x, y, rfl, hp, hx, hy⟩ := ex_cell o c h
    exact ⟨o.at' p x y, List.mem_range.2 (at_lt o p x y hp hx hy), cellAt_at o p x y hx hy⟩
theorem nodup_cells (o : Ov) : o.cells.Nodup := by
  unfold Ov.cells
  rw [List.Nodup, List.pairwise_map]
  refine (List.pairwise_lt_range (n := o.N)).imp ?_
  intro a b hab e
  have := cellAt_inj o e
  omega

/-! ### The rounds -/
def Ov.K (o : Ov) : Nat → Sp → Bool
  | 0, c => o.ex c && inG o.safe c
  | k + 1, c => o.K k c && o.canM (o.K k) c
def Ov.still (o : Ov) (k : Nat) : Prop := ∀ c, o.K (k + 1) c = o.K k c
theorem K_ex (o : Ov) : ∀ k c, o.K k c = true → o.ex c = true
  | 0, c, h => by simp [Ov.K] at h; exact h.1
  | k + 1, c, h => by simp [Ov.K] at h; exact K_ex o k c h.1
theorem K_safe (o : Ov) : ∀ k c, o.K k c = true → inG o.safe c = true
  | 0, c, h => by simp [Ov.K] at h; exact h.2
  | k + 1, c, h => by simp [Ov.K] at h; exact K_safe o k c h.1
theorem K_succ_le (o : Ov) (k : Nat) (c : Sp) (h : o.K (k + 1) c = true) : o.K k c = true := by simp [Ov.K] at h; exact h.1
theorem K_le (o : Ov) {k j : Nat} (hkj : k ≤ j) (c : Sp) (h : o.K j c = true) : o.K k c = true := by
  induction hkj with
  | refl => exact h
  | step _ ih => exact ih (K_succ_le o _ c h)
theorem still_up (o : Ov) {k : Nat} (h : o.still k) : ∀ j, k ≤ j → o.K j = o.K k := by
  intro j hj
  induction hj with
  | refl => rfl
  | @step j _ ih =>
    funext c
    have e := h c
    simp only [Ov.K] at e ⊢
    rw [ih]
    exact e
theorem still_eq (o : Ov) {k j : Nat} (hk : o.still k) (hj : o.still j) : o.K k = o.K j := by
  rcases Nat.le_total k j with h | h
  · exact (still_up o hk j h).symm
  · exact still_up o hj k h

/-- in how many steps a cell is lost, of the first k -/
def Ov.lost (o : Ov) : Nat → Sp → Option Nat
  | 0, c => if o.K 0 c then none else some 0
  | k + 1, c => match o.lost k c with
    | some j => some j
    | none => if o.K (k + 1) c then none else some (k + 1)
theorem lost_none (o : Ov) : ∀ k c, o.lost k c = none ↔ o.K k c = true
  | 0, c => by unfold Ov.lost; split <;> simp_all
  | k + 1, c => by
    have ih := lost_none o k c
    unfold Ov.lost
    cases e : o.lost k c with
    | some j =>
      simp only [reduceCtorEq, false_iff]
      intro h
      rw [ih.2 (K_succ_le o k c h)] at e
      cases e
    | none =>
      simp only
      split <;> simp_all
theorem lost_some (o : Ov) : ∀ k c j, o.lost k c = some j ↔ j ≤ k ∧ o.K j c = false ∧ (∀ i, i < j → o.K i c = true)
  | 0, c, j => by
    unfold Ov.lost
    constructor
    · intro h
      split at h
      · cases h
      · cases h
        exact ⟨Nat.le_refl _, by simp_all, fun i hi => by omega⟩
    · rintro ⟨h1, h2, h3⟩
      obtain rfl : j = 0 := by omega
      rw [h2]; rfl
  | k + 1, c, j => by
    have ih := lost_some o k c
    unfold Ov.lost
    cases e : o.lost k c with
    | some i =>
      have hi := (ih i).1 e
      simp only [Option.some.injEq]
      constructor
      · rintro rfl; exact ⟨by omega, hi.2⟩
      · rintro ⟨h1, h2, h3⟩
        rcases Nat.lt_trichotomy i j with h | h | h
        · rw [h3 i h] at hi; exact absurd hi.2.1 (by decide)
        · exact h
        · rw [hi.2.2 j h] at h2; cases h2
    | none =>
      have hk := (lost_none o k c).1 e
      simp only
      constructor
      · intro h
        split at h
        · cases h
        · cases h
          exact ⟨Nat.le_refl _, by simp_all, fun i hi => K_le o (by omega) c hk⟩
      · rintro ⟨h1, h2, h3⟩
        have hj : j = k + 1 := by
          by_cases hjk : j ≤ k
          · rw [K_le o hjk c hk] at h2; cases h2
          · omega
        subst hj
        rw [h2]; rfl
theorem lost_still (o : Ov) {k j : Nat} (hk : o.still k) (hj : o.still j) : o.lost k = o.lost j := by
  funext c
  cases e : o.lost k c with
  | none =>
    have := (lost_none o k c).1 e
    rw [still_eq o hk hj] at this
    exact ((lost_none o j c).2 this).symm
  | some i =>
    obtain ⟨h1, h2, h3⟩ := (lost_some o k c i).1 e
    symm
    rw [lost_some]
    refine ⟨?_, h2, h3⟩
    by_cases h : i ≤ j
    · exact h
    · have : o.K i c = o.K j c := congrFun (still_up o hj i (by omega)) c
      rw [h2] at this
      rw [h3 j (by omega)] at this
      cases this

/-! ### The rounds to a goal -/
def Ov.G (o : Ov) (g : Grid) : Nat → Sp → Bool
  | 0, c => o.ex c && inG o.safe c && inG g c
  | k + 1, c => o.G g k c || (o.ex c && inG o.safe c && o.canM (o.G g k) c)
def Ov.stillG (o : Ov) (g : Grid) (k : Nat) : Prop := ∀ c, o.G g (k + 1) c = o.G g k c
theorem G_ex (o : Ov) (g : Grid) : ∀ k c, o.G g k c = true → o.ex c = true ∧ inG o.safe c = true
  | 0, c, h => by simp [Ov.G] at h; exact h.1
  | k + 1, c, h => by
    simp [Ov.G] at h
    rcases h with h | h
    · exact G_ex o g k c h
    · exact h.1
theorem G_le (o : Ov) (g : Grid) {k j : Nat} (hkj : k ≤ j) (c : Sp) (h : o.G g k c = true) : o.G g j c = true := by
  induction hkj with
  | refl => exact h
  | step _ ih => simp [Ov.G, ih]
theorem stillG_up (o : Ov) (g : Grid) {k : Nat} (h : o.stillG g k) : ∀ j, k ≤ j → o.G g j = o.G g k := by
  intro j hj
  induction hj with
  | refl => rfl
  | @step j _ ih =>
    funext c
    have e := h c
    simp only [Ov.G] at e ⊢
    rw [ih]
    exact e
/-- in how many steps the goal is reached, of the first k -/
def Ov.near (o : Ov) (g : Grid) : Nat → Sp → Option Nat
  | 0, c => if o.G g 0 c then some 0 else none
  | k + 1, c => match o.near g k c with
    | some j => some j
    | none => if o.G g (k + 1) c then some (k + 1) else none
theorem near_none (o : Ov) (g : Grid) : ∀ k c, o.near g k c = none ↔ o.G g k c = false
  | 0, c => by unfold Ov.near; split <;> simp_all
  | k + 1, c => by
    have ih := near_none o g k c
    unfold Ov.near
    cases e : o.near g k c with
    | some j =>
      simp only [reduceCtorEq, false_iff]
      intro h
      have : o.G g k c = false := by
        cases e2 : o.G g k c with
        | false => rfl
        | true => rw [G_le o g (Nat.le_succ k) c e2] at h; cases h
      rw [ih.2 this] at e
      cases e
    | none =>
      simp only
      split <;> simp_all
theorem near_some (o : Ov) (g : Grid) : ∀ k c j, o.near g k c = some j ↔ j ≤ k ∧ o.G g j c = true ∧ (∀ i, i < j → o.G g i c = false)
  | 0, c, j => by
    unfold Ov.near
    constructor
    · intro h
      split at h
      · cases h
        exact ⟨Nat.le_refl _, by simp_all, fun i hi => by omega⟩
      · cases h
    · rintro ⟨h1, h2, h3⟩
      obtain rfl : j = 0 := by omega
      rw [h2]; rfl
  | k + 1, c, j => by
    have ih := near_some o g k c
    unfold Ov.near
    cases e : o.near g k c with
    | some i =>
      have hi := (ih i).1 e
      simp only [Option.some.injEq]
      constructor
      · rintro rfl; exact ⟨by omega, hi.2⟩
      · rintro ⟨h1, h2, h3⟩
        rcases Nat.lt_trichotomy i j with h | h | h
        · rw [h3 i h] at hi; exact absurd hi.2.1 (by decide)
        · exact h
        · rw [hi.2.2 j h] at h2; cases h2
    | none =>
      have hk := (near_none o g k c).1 e
      have low : ∀ i, i ≤ k → o.G g i c = false := fun i hi => by
        cases e2 : o.G g i c with
        | false => rfl
        | true => rw [G_le o g hi c e2] at hk; cases hk
      simp only
      constructor
      · intro h
        split at h
        · cases h
          exact ⟨Nat.le_refl _, by simp_all, fun i hi => low i (by omega)⟩
        · cases h
      · rintro ⟨h1, h2, h3⟩
        have hj : j = k + 1 := by
          by_cases hjk : j ≤ k
          · rw [low j hjk] at h2; cases h2
          · omega
        subst hj
        rw [h2]; rfl
theorem near_still (o : Ov) (g : Grid) {k j : Nat} (hk : o.stillG g k) (hj : o.stillG g j) : o.near g k = o.near g j := by
  funext c
  have up : ∀ {a : Nat}, o.stillG g a → ∀ i, o.near g a c = some i ↔ (o.G g i c = true ∧ ∀ l, l < i → o.G g l c = false) := by
    intro a ha i
    rw [near_some]
    constructor
    · exact fun h => h.2
    · rintro ⟨h2, h3⟩
      refine ⟨?_, h2, h3⟩
      by_cases h : i ≤ a
      · exact h
      · have : o.G g i c = o.G g a c := congrFun (stillG_up o g ha i (by omega)) c
        rw [h2, h3 a (by omega)] at this
        cases this
  apply Option.ext
  intro i
  rw [up hk, up hj]
end Go.Proofs.YtjonbhimbhidpaaDoor
