/-
  The words in which the walks over chapter 1 speak of memory: a slice that reads as a list of integers; one that the call itself owns; what an append does to it.
-/
import Derived.Test.YtpoekblolicehaaDoorProg
import Derived.Test.YtpoekblolicehaaDoorPlainA
import Derived.WalkKit
import Derived.WalkSpells
import Derived.WalkLawsBesides
import Derived.Deep.QuietTactic
import Derived.BigQuiet
import Derived.Lib.Strings
import Derived.Test.YtpoekblolicehaaDoorShelf
namespace Go.Proofs.YtpoekblolicehaaDoor
open Go.RowKit

theorem hid {p : Prop} (h : p) : Hid p := h

/-- the value v reads, in the world w, as the list xs of values, one cell each -/
def IsList (w : World) (v : Value) (xs : List Value) : Prop :=
  ∃ a c, v = .slice a xs.length c ∧ xs.length ≤ maxLen ∧ ∀ i, i < xs.length → ∃ g, a = some ⟨g, 0, none⟩ ∧ w.cell? ⟨g, i, none⟩ = some (xs.getD i undef)

def ints (xs : List Int) : List Value := xs.map (Value.int .i64)
theorem ints_length (xs : List Int) : (ints xs).length = xs.length := by simp [ints]
theorem ints_append (xs : List Int) (z : Int) : ints (xs ++ [z]) = ints xs ++ [.int .i64 z] := by simp [ints]
theorem ints_getD (xs : List Int) (i : Nat) (h : i < xs.length) : (ints xs).getD i undef = .int .i64 (ix xs i) := by
  simp [ints, ix, h]

def IsInts (w : World) (v : Value) (xs : List Int) : Prop :=
  ∃ a c, v = .slice a xs.length c ∧ xs.length ≤ maxLen ∧ ∀ i, i < xs.length → ∃ g, a = some ⟨g, 0, none⟩ ∧ w.cell? ⟨g, i, none⟩ = some (.int .i64 (ix xs i))

theorem isList_below {w w' : World} {v : Value} {xs : List Value} (h : IsList w v xs) (hb : Below w.heap.size w w') : IsList w' v xs := by
  obtain ⟨a, c, rfl, hl, hc⟩ := h
  refine ⟨a, c, rfl, hl, fun i hi => ?_⟩
  obtain ⟨g, ha, hcell⟩ := hc i hi
  exact ⟨g, ha, by rw [hb.cell (World.block_lt_of_cell? w _ hcell)]; exact hcell⟩

theorem isInts_below {w w' : World} {v : Value} {xs : List Int} (h : IsInts w v xs) (hb : Below w.heap.size w w') : IsInts w' v xs := by
  obtain ⟨a, c, rfl, hl, hc⟩ := h
  refine ⟨a, c, rfl, hl, fun i hi => ?_⟩
  obtain ⟨g, ha, hcell⟩ := hc i hi
  exact ⟨g, ha, by rw [hb.cell (World.block_lt_of_cell? w _ hcell)]; exact hcell⟩

/-- the call's own slice: it may grow by append -/
def Own (w : World) (B : Nat) (e : TypeId) (v : Value) (xs : List Value) : Prop := w.ownsRow B e 1 v xs.length xs

theorem own_nil (w : World) (B : Nat) (e : TypeId) : Own w B e (.slice none 0 0) [] := World.ownsRow_nil _ _ _ _

theorem own_isList {w : World} {B : Nat} {e : TypeId} {v : Value} {xs : List Value} (h : Own w B e v xs) : IsList w v xs := by
  obtain ⟨h1, h2 | ⟨g, cap, cur, rfl, hB, hh, hn, hm, hs, ht⟩⟩ := h
  · obtain ⟨rfl, h0⟩ := h2
    refine ⟨none, 0, by rw [h0], by omega, fun i hi => by omega⟩
  · refine ⟨_, cap, rfl, by omega, fun i hi => ⟨g, rfl, ?_⟩⟩
    rw [World.cell?, hh]
    have hlen : xs.length = ((cur.toList.take (xs.length * 1))).length := by rw [ht]
    have : xs.getD i undef = (cur.toList.take (xs.length * 1)).getD i undef := by rw [ht]
    rw [this]
    have hi2 : i < cur.size := by omega
    simp [hi, hi2]

theorem own_isInts {w : World} {B : Nat} {e : TypeId} {v : Value} {xs : List Int} (h : Own w B e v (ints xs)) : IsInts w v xs := by
  obtain ⟨a, c, hv, hl, hc⟩ := own_isList h
  rw [ints_length] at hv hl hc
  refine ⟨a, c, hv, hl, fun i hi => ?_⟩
  obtain ⟨g, ha, hcell⟩ := hc i hi
  exact ⟨g, ha, by rw [hcell, ints_getD xs i hi]⟩

theorem own_below {w w' : World} {B : Nat} {e : TypeId} {v : Value} {xs : List Value} (h : Own w B e v xs) (hb : Below w.heap.size w w') : Own w' B e v xs := by
  have hlt := h.lt
  obtain ⟨h1, h2⟩ := h
  refine ⟨h1, h2.imp_right ?_⟩
  rintro ⟨g, cap, cur, rfl, hB, hh, r⟩
  exact ⟨g, cap, cur, rfl, hB, by rw [hb.block g (hlt g rfl).2]; exact hh, r⟩

theorem own_drew {w : World} {B : Nat} {e : TypeId} {v : Value} {xs : List Value} (h : Own w B e v xs) (n : Nat) : Own (w.drewN n) B e v xs := h

theorem below_drewN' (B : Nat) (w : World) (n : Nat) : Below B w (w.drewN n) := ⟨rfl, rfl, rfl, Nat.le_refl _, fun _ _ => rfl⟩
theorem below_drewN_r {B : Nat} {w w' : World} (h : Below B w w') (n : Nat) : Below B w (w'.drewN n) := h.trans (below_drewN' _ _ _)
theorem below_of_drewN {B : Nat} {w w' : World} {n : Nat} (h : Below B (w.drewN n) w') : Below B w w' := (below_drewN' _ _ _).trans h

/-- append of one value of one cell, that the walk has just boxed -/
theorem wpl_app {P : Program} {ops : Array Oper} {rest : List Oper} {o : Oper} {a : Act} {Q : Exit → Act → World → Prop} {W : World}
    (hgd : o.guard = none) (s x : Operand) (t e : TypeId) (ho : o.op = .call { callee := .builtin .append, args := #[s, x], argTypes := #[t, t] })
    (z : Value) (bytes : Nat) (hi : (P.info? e).map (fun i => (i.zero, i.size, i.bytes)) = some (some z, 1, bytes)) (hz : z.cells.size = 1)
    (ht : P.underlying t = some (.slice e)) (v : Value) (B : Nat) (xs : List Value) (hs : a.eval s = v) (hown : Own W B e v xs)
    (u : Value) (hu : u.oneCell' = true) (hx : a.eval x = .slice (some ⟨W.heap.size, 0, none⟩) 1 1)
    (hlen : (xs.length + 1) * bytes ≤ 140737488355328) (hl2 : xs.length + 1 ≤ maxLen) (hB : B ≤ W.heap.size)
    (h : ∀ v' w', Own w' B e v' (xs ++ [u]) → Below B W w' → wpList P ops Q rest (a.put o.dst v') w') :
    wpList P ops Q (o :: rest) a (W.alloc (.cells #[u] e)) := by
  cases hi0 : P.info? e with
  | none => rw [hi0] at hi; cases hi
  | some i =>
    rw [hi0] at hi
    simp only [Option.map_some, Option.some.injEq, Prod.mk.injEq] at hi
    obtain ⟨h1, h2, h3⟩ := hi
    refine wpList_append_own _ hgd s x t ho B e i z 1 bytes ht hi0 h1 h2 h3 hz (by decide) v xs.length xs hs
      (World.ownsRow.alloc hown _) ⟨W.heap.size, 0, none⟩ 1 1 [u] hx rfl ?_ (by simpa using hu) hl2 hlen (by simp; omega) ?_
    · exact cell_one_new _ _ _
    · intro v' w' hown' hg _
      refine h v' w' (by unfold Own; rw [List.length_append]; exact hown') ?_
      refine ((Below.refl B W).alloc hB (.cells #[u] e)).trans ?_
      refine (Below.refl B _).grown hg (by simp; omega) (fun k hk => (hown.lt k hk).1)

theorem info3 : (Tryd.prog.info? 3).map (fun i => (i.zero, i.size, i.bytes)) = some (some (.int .i64 0), 1, 8) := by kernel_rfl

/-- append of one int -/
theorem wpl_app_int {ops : Array Oper} {rest : List Oper} {o : Oper} {a : Act} {Q : Exit → Act → World → Prop} {W : World} {z : Int}
    (s x : Operand) (v : Value) (B : Nat) (xs : List Int)
    (hgd : o.guard = none) (ho : o.op = .call { callee := .builtin .append, args := #[s, x], argTypes := #[23, 23] })
    (hs : a.eval s = v) (hx : a.eval x = .slice (some ⟨W.heap.size, 0, none⟩) 1 1)
    (hown : Own W B 3 v (ints xs)) (hlen : xs.length < 1099511627776) (hB : B ≤ W.heap.size)
    (h : ∀ v' w', Own w' B 3 v' (ints (xs ++ [z])) → Below B W w' → wpList Tryd.prog ops Q rest (a.put o.dst v') w') :
    wpList Tryd.prog ops Q (o :: rest) a (W.alloc (.cells #[.int .i64 z] 3)) :=
  wpl_app hgd s x 23 3 ho (.int .i64 0) 8 info3 rfl Tryd.underlying23 v B (ints xs) hs hown (.int .i64 z) rfl hx (by rw [ints_length]; omega) (by rw [ints_length]; unfold maxLen; omega) hB
    (fun v' w' h1 h2 => h v' w' (by rw [ints_append]; exact h1) h2)
end Go.Proofs.YtpoekblolicehaaDoor
