/-
  Own slices of numbers; what a store into them, or an append to them, leaves of other slices.
-/
import Derived.Test.YtjonbhimbhidpaaDoorWalkR
import Derived.Laws.OwnMore
namespace Go.Proofs.YtjonbhimbhidpaaDoor
open Go.RowKit

def ints (xs : List Int) : List Value := xs.map (Value.int .i64)
theorem ints_length (xs : List Int) : (ints xs).length = xs.length := by simp [ints]
theorem ints_append (xs : List Int) (z : Int) : ints (xs ++ [z]) = ints xs ++ [.int .i64 z] := by simp [ints]
def OwnI (w : World) (B : Nat) (v : Value) (xs : List Int) : Prop := w.ownsRow B 3 1 v xs.length (ints xs)
theorem ownI_made (w : World) (B : Nat) (hB : B ≤ w.heap.size) : OwnI (w.alloc (.cells #[] 3)) B (.slice (some ⟨w.heap.size, 0, none⟩) 0 0) [] := World.ownsRow_made w #[] 0 hB (by decide) rfl
theorem ownI_slice {w : World} {B : Nat} {v : Value} {xs : List Int} (h : OwnI w B v xs) : ∃ a n c, v = .slice a n c := by
  obtain ⟨a, c, h⟩ := row_slice h
  exact ⟨a, _, c, h⟩
theorem ownI_below {w w' : World} {B : Nat} {v : Value} {xs : List Int} (h : OwnI w B v xs) (hb : Below w.heap.size w w') : OwnI w' B v xs := row_below h hb
theorem ownI_ints {w : World} {B : Nat} {v : Value} {xs : List Int} (h : OwnI w B v xs) (hl : xs.length ≤ 1000000) : IsInts w v xs := by
  obtain ⟨a, c, rfl, _, _, hc⟩ := row_cells1 h
  refine ⟨a, c, rfl, hl, fun i hi => ?_⟩
  obtain ⟨g, ha, hcell, _⟩ := hc i hi
  refine ⟨g, ha, hcell.trans ?_⟩
  simp [ints, hi]
theorem row_type {w : World} {B n size : Nat} {e : TypeId} {v : Value} {xs : List Value} (h : w.ownsRow B e size v n xs) : ∀ k, v.ownBlock = some k → ∃ cs, w.heap[k]? = some (.cells cs e) := by
  obtain ⟨_, ⟨rfl, h2⟩ | ⟨g, cap, cur, rfl, hB, hh, _⟩⟩ := h
  · intro k hk; simp [Value.ownBlock] at hk
  · intro k hk
    simp [Value.ownBlock] at hk
    subst hk
    exact ⟨_, hh⟩
/-- a row of one type stays where a row of another type has turned -/
theorem row_other {W W' : World} {B n size : Nat} {e e' : TypeId} {q : Value} {xs : List Value} {row : Option Nat} (h : W.ownsRow B e size q n xs) (hg : W.grownBy W' row) (ht : ∀ k, row = some k → ∃ cs, W.heap[k]? = some (.cells cs e')) (hne : e ≠ e') : W'.ownsRow B e size q n xs := by
  have hqt := row_type h
  refine World.ownsRow.kept h hg ?_
  cases hk : q.ownBlock with
  | none => exact .inl rfl
  | some k =>
    refine .inr fun e2 => ?_
    obtain ⟨c1, e1⟩ := hqt k hk
    obtain ⟨c2, e2⟩ := ht k e2.symm
    rw [e1] at e2
    simp only [Option.some.injEq, Obj.cells.injEq] at e2
    exact hne e2.2.1
theorem ownG_other {W W' : World} {B : Nat} {v : Value} {g : Grid} {row : Option Nat} (h : OwnG W B v g) (hg : W.grownBy W' row) (ht : ∀ k, row = some k → ∃ cs, W.heap[k]? = some (.cells cs 3)) : OwnG W' B v g := by
  obtain ⟨us, h1, h2, h3⟩ := h
  exact ⟨us, row_other h1 hg ht (by decide), h2, fun i hi => row_other (h3 i hi) hg ht (by decide)⟩
/-- append of one number, with a slice of cells that stays -/
theorem wpl_app_int {ops : Array Oper} {rest : List Oper} {o : Oper} {a : Act} {Q : Exit → Act → World → Prop} {W : World} (z : Int)
    (s x : Operand) (v : Value) (B : Nat) (xs : List Int)
    (hgd : o.guard = none) (ho : o.op = .call { callee := .builtin .append, args := #[s, x], argTypes := #[36, 36] })
    (hs : a.eval s = v) (hx : a.eval x = .slice (some ⟨W.heap.size, 0, none⟩) 1 1)
    (hown : OwnI W B v xs) (hlen : xs.length < 100000000) (hB : B ≤ W.heap.size)
    (h : ∀ v' w', OwnI w' B v' (xs ++ [z]) → Below B W w' → (∀ u B2 cs, OwnS W B2 28 u cs → OwnS w' B2 28 u cs) → wpList Tryd.prog ops Q rest (a.put o.dst v') w') :
    wpList Tryd.prog ops Q (o :: rest) a (W.alloc (.cells #[.int .i64 z] 3)) :=
  wpl_appn hgd s x 36 3 ho (.int .i64 0) 1 8 info3 rfl (by decide) Tryd.underlying36 v B xs.length (ints xs) hs hown [.int .i64 z] rfl (by simp [Value.oneCell']) hx
    (by omega) (by unfold maxLen; omega) hB
    (fun v' w' h1 h2 => h v' w' (by unfold OwnI; rw [ints_append, List.length_append]; exact h1) (((Below.refl B W).alloc hB _).trans (app_below h2 (by simp; omega) (fun k hk => (hown.lt k hk).1)))
      (fun u B2 cs hu => row_other (World.ownsRow.alloc hu _) h2.grown (fun k hk => by
        obtain ⟨cs2, hc⟩ := row_type hown k hk
        exact ⟨cs2, (Below.heap_alloc _ _ _ (hown.lt k hk).2).trans hc⟩) (by decide)))
/-- a store into an own slice of numbers -/
theorem ownI_set {w : World} {B g n c : Nat} {xs : List Int} (h : OwnI w B (.slice (some ⟨g, 0, none⟩) n c) xs) (j : Nat) (z : Int) :
    OwnI (w.setCell ⟨g, j, none⟩ (.int .i64 z)) B (.slice (some ⟨g, 0, none⟩) n c) (xs.set j z) ∧ w.grownBy (w.setCell ⟨g, j, none⟩ (.int .i64 z)) (some g) ∧ (∃ cs, w.heap[g]? = some (.cells cs 3)) ∧ B ≤ g := by
  have hn : n = xs.length := by
    obtain ⟨_, ⟨h2, h3⟩ | ⟨g', cap, cur, h2, _⟩⟩ := h
    · cases h2
    · cases h2; rfl
  subst hn
  have h2 := World.ownsRow.stored h j (.int .i64 z)
  refine ⟨?_, h2.2, ?_, (h.lt g rfl).1⟩
  · have e : ints (xs.set j z) = (ints xs).set j (.int .i64 z) := by simp [ints, List.map_set]
    have h3 := h2.1
    unfold OwnI
    rw [e, List.length_set]
    exact h3
  · exact row_type h g rfl
theorem ownI_frozen {w : World} {B g n c : Nat} {xs : List Int} (h : OwnI w B (.slice (some ⟨g, 0, none⟩) n c) xs) (j : Nat) : w.frozen? ⟨g, j, none⟩ = false := by
  have hn : n = xs.length := by
    obtain ⟨_, ⟨h2, h3⟩ | ⟨g', cap, cur, h2, _⟩⟩ := h
    · cases h2
    · cases h2; rfl
  subst hn
  exact World.ownsRow.frozenAt h j
theorem ownI_some {w : World} {B : Nat} {v : Value} {xs : List Int} (h : OwnI w B v xs) (h0 : 0 < xs.length) : ∃ g c, v = .slice (some ⟨g, 0, none⟩) xs.length c ∧ B ≤ g ∧ g < w.heap.size := by
  have hlt := h.lt
  obtain ⟨_, ⟨rfl, h3⟩ | ⟨g, cap, cur, rfl, hB, _⟩⟩ := h
  · omega
  · exact ⟨g, cap, rfl, hB, (hlt g rfl).2⟩
end Go.Proofs.YtjonbhimbhidpaaDoor
