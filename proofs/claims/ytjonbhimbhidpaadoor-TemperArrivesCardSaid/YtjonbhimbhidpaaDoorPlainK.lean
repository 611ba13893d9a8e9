/-
  Chapter 6 in plain words: in how many steps the goal is reached, round by round, cell by cell.
-/
import Derived.Test.YtjonbhimbhidpaaDoorPlainJ
namespace Go.Proofs.YtjonbhimbhidpaaDoor

def nearN : Option Nat → Int
  | some j => j
  | none => -1000000
section
variable (o : Ov) (g : Grid)
def Ov.nearF (k : Nat) (c : Sp) : Int := nearN (o.near g k c)
/-- within a round: the first i cells have been looked at -/
def Ov.nearI (k i : Nat) (c : Sp) : Int := if c ∈ o.cells.take i then o.nearF g (k + 1) c else o.nearF g k c
/-- reached by this round first -/
def Ov.newF (k : Nat) (c : Sp) : Bool := !o.G g k c && (inG o.safe c && o.canM (o.G g k) c)
/-- not reached yet -/
def Ov.restL (k : Nat) : List Sp := o.cells.filter fun c => !o.G g k c
theorem near_zero (c : Sp) (h : o.ex c = true) : o.nearF g 0 c = if (inG g c && inG o.safe c) = true then 0 else -1000000 := by
  unfold Ov.nearF Ov.near
  simp only [Ov.G, h, Bool.true_and]
  rw [Bool.and_comm]
  split <;> rfl
theorem near_sign (k : Nat) (c : Sp) : decide (o.nearF g k c < 0) = !o.G g k c := by
  unfold Ov.nearF
  cases e : o.near g k c with
  | none => rw [(near_none o g k c).1 e]; rfl
  | some j =>
    have h2 : o.G g k c = true := by
      cases e2 : o.G g k c
      · rw [(near_none o g k c).2 e2] at e; cases e
      · rfl
    rw [h2]
    exact decide_eq_false (by show ¬ ((j : Int) < 0); omega)
theorem near_where (k : Nat) (c : Sp) (h : o.ex c = true) : o.whereS (o.listOf (o.nearF g k)) 0 c = o.G g k c := by
  unfold Ov.whereS
  rw [listOf_pos o _ c h]
  have h1 := near_sign o g k c
  cases e : o.G g k c
  · rw [e] at h1
    have := of_decide_eq_true h1
    exact decide_eq_false (by omega)
  · rw [e] at h1
    have := of_decide_eq_false h1
    exact decide_eq_true (by omega)
theorem grid_near (k : Nat) : o.gridOf (o.whereS (o.listOf (o.nearF g k)) 0) = o.gridOf (o.G g k) := gridOf_ext o _ _ fun c hc => near_where o g k c hc
theorem nearI_zero (k : Nat) : o.nearI g k 0 = o.nearF g k := by funext c; simp [Ov.nearI]
theorem nearI_end (k : Nat) : o.listOf (o.nearI g k o.N) = o.listOf (o.nearF g (k + 1)) := by
  refine listOf_ext o _ _ fun c hc => ?_
  unfold Ov.nearI
  rw [List.take_of_length_le (by simp [Ov.cells]), if_pos ((mem_cells o c).2 hc)]
theorem nearI_at (k i : Nat) (h : i < o.N) : o.nearI g k i (o.cellAt i) = o.nearF g k (o.cellAt i) := by
  unfold Ov.nearI
  have h2 : (o.cells.take (i + 1)).Nodup := (nodup_cells o).sublist (List.take_sublist _ _)
  rw [take_cells' o i h, List.nodup_append] at h2
  rw [if_neg]
  intro hm
  exact h2.2.2 _ hm _ (by simp) rfl
theorem near_new (k : Nat) (c : Sp) (hx : o.ex c = true) (hf : o.newF g k c = true) : o.nearF g (k + 1) c = (k : Int) + 1 := by
  unfold Ov.newF at hf
  simp only [Bool.and_eq_true, Bool.not_eq_true'] at hf
  have h0 := (near_none o g k c).2 hf.1
  unfold Ov.nearF
  simp only [Ov.near, h0, Ov.G, hf.1, hx, hf.2.1, hf.2.2, Bool.false_or, Bool.true_and, if_true]
  rfl
theorem near_old (k : Nat) (c : Sp) (hx : o.ex c = true) (hf : o.newF g k c = false) : o.nearF g (k + 1) c = o.nearF g k c := by
  unfold Ov.nearF
  simp only [Ov.near]
  cases e2 : o.near g k c with
  | some j => rfl
  | none =>
    have h1 := (near_none o g k _).1 e2
    unfold Ov.newF at hf
    simp only [h1, Bool.not_false, Bool.true_and] at hf
    simp [Ov.G, h1, hx, hf]
theorem nearI_out (k i : Nat) (h : i < o.N) (hf : o.newF g k (o.cellAt i) = true) : (fun c => if c = o.cellAt i then ((k : Int) + 1) else o.nearI g k i c) = o.nearI g k (i + 1) := by
  funext c
  unfold Ov.nearI
  rw [take_cells' o i h]
  by_cases e : c = o.cellAt i
  · subst e
    rw [if_pos rfl, if_pos (by simp), near_new o g k _ (cellAt_ex o i h) hf]
  · simp [e]
theorem nearI_in (k i : Nat) (h : i < o.N) (hf : o.newF g k (o.cellAt i) = false) : o.nearI g k i = o.nearI g k (i + 1) := by
  funext c
  unfold Ov.nearI
  rw [take_cells' o i h]
  by_cases e : c = o.cellAt i
  · subst e
    rw [near_old o g k _ (cellAt_ex o i h) hf]; simp
  · simp [e]
theorem G_new (k : Nat) (c : Sp) (hx : o.ex c = true) : o.G g (k + 1) c = (o.G g k c || o.newF g k c) := by
  unfold Ov.newF
  simp only [Ov.G, hx, Bool.true_and]
  cases o.G g k c <;> simp
theorem G_no (k : Nat) (c : Sp) (hx : o.ex c = false) : o.G g k c = false := by
  cases e : o.G g k c
  · rfl
  · rw [(G_ex o g k c e).1] at hx; cases hx
theorem stillG_of (k : Nat) (h : o.cells.any (o.newF g k) = false) : o.stillG g k := by
  intro c
  cases hx : o.ex c
  · rw [G_no o g _ c hx, G_no o g _ c hx]
  · rw [List.any_eq_false] at h
    have := h c ((mem_cells o c).2 hx)
    rw [G_new o g k c hx, Bool.eq_false_iff.2 this, Bool.or_false]
theorem count_new (k : Nat) : (o.restL g (k + 1)).length + (o.cells.filter (o.newF g k)).length = (o.restL g k).length := by
  unfold Ov.restL
  have : ∀ l : List Sp, (∀ c ∈ l, o.ex c = true) → (l.filter fun c => !o.G g (k + 1) c).length + (l.filter (o.newF g k)).length = (l.filter fun c => !o.G g k c).length := by
    intro l
    induction l with
    | nil => intro _; rfl
    | cons a l ih =>
      intro hl
      have ih' := ih fun c hc => hl c (List.mem_cons_of_mem _ hc)
      have h1 := G_new o g k a (hl a (by simp))
      have h2 : o.newF g k a = true → o.G g k a = false := by
        intro h
        unfold Ov.newF at h
        simp only [Bool.and_eq_true, Bool.not_eq_true'] at h
        exact h.1
      simp only [List.filter_cons]
      rw [h1]
      cases e1 : o.G g k a <;> cases e2 : o.newF g k a
      · simp; omega
      · simp; omega
      · simp; omega
      · rw [h2 e2] at e1; cases e1
  exact this o.cells fun c hc => (mem_cells o c).1 hc
theorem rest_le (k : Nat) : (o.restL g k).length ≤ o.N := by
  unfold Ov.restL
  have := List.length_filter_le (fun c => !o.G g k c) o.cells
  rw [cells_len] at this
  exact this
theorem new_pos (k : Nat) (h : o.cells.any (o.newF g k) = true) : (o.cells.filter (o.newF g k)).length ≠ 0 := by
  intro h2
  have h3 := List.length_eq_zero_iff.1 h2
  rw [List.any_eq_true] at h
  obtain ⟨d, hd1, hd2⟩ := h
  have : d ∈ o.cells.filter (o.newF g k) := List.mem_filter.2 ⟨hd1, hd2⟩
  rw [h3] at this
  simp at this
theorem stillG_succ (k : Nat) (h : o.stillG g k) : o.stillG g (k + 1) := by
  intro c
  rw [stillG_up o g h (k + 1) (by omega), stillG_up o g h (k + 1 + 1) (by omega)]
theorem countG_or : ∀ k, (∃ j, j ≤ k ∧ o.stillG g j) ∨ (o.restL g k).length + k ≤ o.N
  | 0 => .inr (rest_le o g 0)
  | k + 1 => by
    rcases countG_or k with ⟨j, h, hj⟩ | h
    · exact .inl ⟨j, by omega, hj⟩
    · by_cases hs : o.cells.any (o.newF g k) = true
      · right
        have h1 := count_new o g k
        have h2 := new_pos o g k hs
        omega
      · exact .inl ⟨k, by omega, stillG_of o g k (Bool.eq_false_iff.2 hs)⟩
theorem stillG_N : o.stillG g o.N := by
  rcases countG_or o g o.N with ⟨j, h, hj⟩ | h
  · intro c
    rw [stillG_up o g hj o.N h, stillG_up o g hj (o.N + 1) (by omega)]
  · have h0 : o.restL g o.N = [] := List.length_eq_zero_iff.1 (by omega)
    intro c
    cases hx : o.ex c
    · rw [G_no o g _ c hx, G_no o g _ c hx]
    · have h1 : o.G g o.N c = true := by
        cases e : o.G g o.N c
        · have : c ∈ o.restL g o.N := List.mem_filter.2 ⟨(mem_cells o c).2 hx, by rw [e]; rfl⟩
          rw [h0] at this; simp at this
        · rfl
      rw [h1, G_le o g (by omega : o.N ≤ o.N + 1) c h1]
/-- in how many steps the goal is reached -/
def Ov.NN : Sp → Option Nat := o.near g o.N
theorem NN_of {k : Nat} (h : o.stillG g k) : o.near g k = o.NN g := near_still o g h (stillG_N o g)
theorem NN_some (c : Sp) (j : Nat) : o.NN g c = some j ↔ o.G g j c = true ∧ ∀ i, i < j → o.G g i c = false := by
  unfold Ov.NN
  rw [near_some]
  constructor
  · exact fun h => h.2
  · rintro ⟨h2, h3⟩
    refine ⟨?_, h2, h3⟩
    by_cases h : j ≤ o.N
    · exact h
    · have : o.G g j c = o.G g o.N c := congrFun (stillG_up o g (stillG_N o g) j (by omega)) c
      rw [h2, h3 o.N (by omega)] at this
      cases this
theorem NN_none (c : Sp) : o.NN g c = none ↔ ∀ k, o.G g k c = false := by
  unfold Ov.NN
  rw [near_none]
  constructor
  · intro h k
    by_cases hk : k ≤ o.N
    · cases e : o.G g k c
      · rfl
      · rw [G_le o g hk c e] at h; cases h
    · rw [congrFun (stillG_up o g (stillG_N o g) k (by omega)) c]; exact h
  · exact fun h => h _
end
end Go.Proofs.YtjonbhimbhidpaaDoor
