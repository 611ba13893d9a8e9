/-
  Words for the walks over chapter 6: the region in which a statement cuts an oven and a list of numbers, operation by operation.
-/
import Derived.Test.YtjonbhimbhidpaaDoorWalkX
import Derived.Test.YtjonbhimbhidpaaDoorBaseM
namespace Go.Proofs.YtjonbhimbhidpaaDoor
open Go.RowKit
section
variable {md : Region.Mode} {ops : Array Oper} {Q : Exit → Act → World → Prop} {S : World → Prop} {fuel : Nat} {listed : Array Bool} {a : Act} {w : World} {i : Nat} {o : Oper} {rs : List Nat}
theorem node_call14 (d k : Nat) (v : Value) (hi : ops[i]? = some o) (hgd : o.guard = none) (ho : o.op = .call { callee := .value (.func 14), args := #[.tmp k], argTypes := #[26] }) (hd : o.dst = some d)
    (hp : a.tmps[k]?.getD undef = v)
    (h : Calls Tryd.prog 14 #[v] w fun e w' => ∃ u, e = .returned u ∧ S w' ∧ wpAnyH Tryd.prog md ops Q S fuel (listed.setIfInBounds i true) (a.put (some d) u) w')
    (hs : AllReadyH Tryd.prog md ops Q S fuel listed a w rs) : AllReadyH Tryd.prog md ops Q S fuel listed a w (i :: rs) := by
  refine AllReadyH.cons hi (fun K hK => ?_) hs
  have hw : Region.wanted o (yielded ops a.tmps) = true := by simp [Region.wanted, hgd]
  rw [if_pos hw]
  unfold Oper.wp execOp
  simp [ho, go_sem, hp]
  refine h.mono ?_
  rintro e w' ⟨u, rfl, h1, h2⟩
  have hk := hK.out _ _ h1 (fun _ => h2)
  rw [hd]
  exact hk
end
/-- an argument that is a list of numbers -/
def ArgInts (w : World) (v : Value) (xs : List Int) : Prop := ∃ a c, v = .slice a xs.length c ∧ xs.length ≤ c ∧ c ≤ maxLen ∧ ((a = none ∧ c = 0) ∨ ∃ ad, a = some ad ∧ (0 < xs.length → ad.block < w.heap.size) ∧ ∀ j u, (ints xs)[j]? = some u → w.cell? (ad.add j) = some u)
theorem ints_take (xs : List Int) (n : Nat) : ints (xs.take n) = (ints xs).take n := by simp [ints, List.map_take]
theorem rd_ints {w : World} {v : Value} {xs : List Int} (h : ArgInts w v xs) (k m : Nat) (hk : k = min xs.length m) : ∃ a c, v = .slice a xs.length c ∧ xs.length ≤ c ∧ c ≤ maxLen ∧ (a = none → c = 0) ∧ Rd w (.slice a k c) k 1 (ints (xs.take m)) := by
  obtain ⟨a, c, rfl, h1, h2, h3⟩ := h
  have hl : (ints (xs.take m)).length = k * 1 := by
    have e : (ints (xs.take m)).length = (xs.take m).length := by simp [ints]
    rw [e, List.length_take, hk, Nat.mul_one, Nat.min_comm]
  have h1c : ∀ u ∈ ints (xs.take m), u.oneCell' = true := by
    intro u hu
    unfold ints at hu
    rw [List.mem_map] at hu
    obtain ⟨z, _, rfl⟩ := hu
    rfl
  rcases h3 with ⟨rfl, rfl⟩ | ⟨ad, rfl, hlt, hc⟩
  · have hx : xs = [] := List.length_eq_zero_iff.1 (by omega)
    subst hx
    obtain rfl : k = 0 := by simpa using hk
    exact ⟨none, 0, rfl, h1, h2, fun _ => rfl, by simpa [ints] using rd_nil w 1⟩
  · refine ⟨some ad, c, rfl, h1, h2, fun e => (by cases e), hl, h1c, .inr ⟨ad, c, rfl, fun h0 => hlt (by rw [hl] at h0; omega), fun j u hj => hc j u ?_⟩⟩
    rw [ints_take, List.getElem?_take] at hj
    split at hj
    · exact hj
    · cases hj
/-- the region's state -/
structure R3 (W : World) (q : Ov) (xs : List Int) (w : World) (e2 x9 : Option Nat) (ov : Option (Value × Value × Value)) (m : Option Value) : Prop where
  below : Below W.heap.size W w
  h2 : ∀ g, e2 = some g → W.heap.size ≤ g ∧ w.heap[g]? = some (.cells #[] 3)
  h9 : ∀ g, x9 = some g → W.heap.size ≤ g ∧ w.heap[g]? = some (.cells #[.slice none 0 0, .slice none 0 0, .slice none 0 0] 26)
  hov : ∀ t, ov = some t → OwnOv w W.heap.size t.1 t.2.1 t.2.2 q
  hm : ∀ v, m = some v → w.ownsRow W.heap.size 3 1 v xs.length (ints xs)
section
variable {W w w' : World} {q : Ov} {xs : List Int} {e2 x9 : Option Nat} {ov : Option (Value × Value × Value)} {m : Option Value}
theorem R3.start (W : World) (q : Ov) (xs : List Int) : R3 W q xs W.drew none none none none :=
  ⟨(Below.refl _ _).drew, fun _ h => (nomatch h), fun _ h => (nomatch h), fun _ h => (nomatch h), fun _ h => (nomatch h)⟩
theorem R3.step (h : R3 W q xs w e2 x9 ov m) (hb : Below w.heap.size w w') : R3 W q xs w' e2 x9 ov m :=
  ⟨h.below.trans (hb.mono h.below.size), fun g e => ⟨(h.h2 g e).1, (hb.block g (heap_lt (h.h2 g e).2)).trans (h.h2 g e).2⟩, fun g e => ⟨(h.h9 g e).1, (hb.block g (heap_lt (h.h9 g e).2)).trans (h.h9 g e).2⟩,
    fun t e => (h.hov t e).below hb, fun v e => row_below (h.hm v e) hb⟩
theorem R3.cut {a b c : Value} (h : R3 W q xs w e2 x9 none m) (hb : Below w.heap.size w w') (ho : OwnOv w' w.heap.size a b c q) : R3 W q xs w' e2 x9 (some (a, b, c)) m :=
  let h2 := h.step hb
  ⟨h2.below, h2.h2, h2.h9, fun _ e => by cases e; exact ⟨ownG_mono ho.g h.below.size, row_mono ho.mv h.below.size, row_mono ho.jl h.below.size⟩, h2.hm⟩
theorem R3.build (h : R3 W q xs w none x9 ov m) : R3 W q xs (w.alloc (.cells #[] 3)) (some w.heap.size) x9 ov m :=
  let h2 := h.step ((Below.refl _ _).alloc (Nat.le_refl _) (.cells #[] 3))
  ⟨h2.below, fun _ e => by cases e; exact ⟨h.below.size, heap_alloc_new _ _⟩, h2.h9, h2.hov, h2.hm⟩
theorem R3.box (h : R3 W q xs w e2 none ov m) : R3 W q xs (w.alloc (.cells #[.slice none 0 0, .slice none 0 0, .slice none 0 0] 26)) e2 (some w.heap.size) ov m :=
  let h2 := h.step ((Below.refl _ _).alloc (Nat.le_refl _) (.cells #[.slice none 0 0, .slice none 0 0, .slice none 0 0] 26))
  ⟨h2.below, h2.h2, fun _ e => by cases e; exact ⟨h.below.size, heap_alloc_new _ _⟩, h2.hov, h2.hm⟩
theorem R3.app {g : Nat} {v : Value} (h : R3 W q xs w (some g) x9 ov none) (hg : w.grownBy w' (some g)) (ho : w'.ownsRow W.heap.size 3 1 v xs.length (ints xs)) : R3 W q xs w' none x9 ov (some v) := by
  obtain ⟨hB, hh⟩ := h.h2 g rfl
  refine ⟨h.below.grown hg h.below.size (fun k hk => by cases hk; exact hB), fun _ e => (nomatch e), fun g' e => ⟨(h.h9 g' e).1, ?_⟩, fun t e => (h.hov t e).other hg hh (by decide) (by decide) (by decide) (by decide), fun v' e => by cases e; exact ho⟩
  exact (hg.block g' (heap_lt (h.h9 g' e).2) (fun e2 => block_ne (h.h9 g' e).2 hh (by decide) (Option.some.inj e2))).trans (h.h9 g' e).2
theorem R3.fin {X : Nat} {a b c v : Value} (h : R3 W q xs w none (some X) (some (a, b, c)) (some v)) :
    W.heap.size ≤ X ∧ (((w.setCell ⟨X, 0, none⟩ a).setCell ⟨X, 1, none⟩ b).setCell ⟨X, 2, none⟩ c).heap[X]? = some (.cells #[a, b, c] 26) ∧
      Hid (OwnOv (((w.setCell ⟨X, 0, none⟩ a).setCell ⟨X, 1, none⟩ b).setCell ⟨X, 2, none⟩ c) W.heap.size a b c q) ∧
      Hid ((((w.setCell ⟨X, 0, none⟩ a).setCell ⟨X, 1, none⟩ b).setCell ⟨X, 2, none⟩ c).ownsRow W.heap.size 3 1 v xs.length (ints xs)) ∧
      Hid (Below W.heap.size W (((w.setCell ⟨X, 0, none⟩ a).setCell ⟨X, 1, none⟩ b).setCell ⟨X, 2, none⟩ c)) := by
  obtain ⟨hB, hh⟩ := h.h9 X rfl
  have hs := grown_store3 (a := w) (b := w) (x := X) ⟨rfl, rfl, rfl, Nat.le_refl _, fun _ _ _ => rfl⟩ a b c
  have ht : ∀ k, some X = some k → ∃ cs, w.heap[k]? = some (.cells cs 26) := by intro k hk; cases hk; exact ⟨_, hh⟩
  exact ⟨hB, store3 hh, (h.hov _ rfl).other hs hh (by decide) (by decide) (by decide) (by decide), row_other (h.hm v rfl) hs ht (by decide), below_store3 h.below hB⟩
end
end Go.Proofs.YtjonbhimbhidpaaDoor
