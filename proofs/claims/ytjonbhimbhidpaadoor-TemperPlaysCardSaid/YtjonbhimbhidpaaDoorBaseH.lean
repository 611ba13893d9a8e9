/-
  Words for the walks over chapter 6: append of a row of strings in a region that draws its order; a new oven in the making.
-/
import Derived.Test.YtjonbhimbhidpaaDoorPlainE
import Derived.RangeFuncBox
namespace Go.Proofs.YtjonbhimbhidpaaDoor
open Go.RowKit

/-- append of one row at a step of a region that draws its order -/
theorem step_app_row {ops : Array Oper} {o : Oper} {a : Act} {K : Act → World → Prop} {Q : Exit → Act → World → Prop} {E : Prop} {W : World}
    (s x : Operand) (v : Value) (B : Nat) (g : Grid) (gb : Nat) (u : Value) (z : List Str)
    (hgd : o.guard = none) (ho : o.op = .call { callee := .builtin .append, args := #[s, x], argTypes := #[22, 22] })
    (hs : a.eval s = v) (hx : a.eval x = .slice (some ⟨gb, 0, none⟩) 1 1) (hz : W.heap[gb]? = some (.cells #[u] 71 (0, 0)))
    (hown : OwnG W B v g) (hu : OwnT W B u z) (hlen : g.length < 1000000) (hB : B ≤ W.heap.size)
    (h : ∀ sa sn sc w', OwnG w' B (.slice sa sn sc) (g ++ [z]) → W.grownBy w' v.ownBlock → K (a.put o.dst (.slice sa sn sc)) w') :
    if Region.wanted o (yielded ops a.tmps) = true then Oper.wp Tryd.prog o a W K Q else E := by
  have hty := ownG_type hown
  obtain ⟨us, h1, h2, h3⟩ := hown
  have hu1 : u.oneCell' = true := by obtain ⟨a, c, rfl⟩ := ownT_slice hu; rfl
  cases hi0 : Tryd.prog.info? 71 with
  | none => have := info71; rw [hi0] at this; cases this
  | some i =>
    have hi := info71
    rw [hi0] at hi
    simp only [Option.map_some, Option.some.injEq, Prod.mk.injEq] at hi
    obtain ⟨e1, e2, e3⟩ := hi
    refine step_append_lies _ hgd s x 22 ho B 71 i (.slice none 0 0) 1 24 Tryd.underlying22 hi0 e1 e2 e3 rfl (by decide) v g.length us hs h1 ⟨gb, 0, none⟩ 1 1 [u] hx rfl ?_ (by simpa using hu1) (by decide) (by unfold maxLen; omega) (by omega) hB _ rfl ?_
    · exact World.news_of_block hz
    · intro g' cap w1 hown1 hgrow hat hlt
      refine h _ _ _ _ ⟨us ++ [u], by rw [List.length_append]; exact hown1, by simp [h2], fun i hi => ?_⟩ hgrow
      have hkeep : ∀ (q : Value) (ys : List Str), OwnT W B q ys → OwnT w1 B q ys := fun q ys hq => row_other hq hgrow hty (by decide)
      rw [List.length_append] at hi
      by_cases hi2 : i < g.length
      · have e1 : (us ++ [u]).getD i undef = us.getD i undef := by simp [List.getD, List.getElem?_append, h2 ▸ hi2]
        have e2 : (g ++ [z]).getD i [] = g.getD i [] := by simp [List.getD, List.getElem?_append, hi2]
        rw [e1, e2]
        exact hkeep _ _ (h3 i hi2)
      · obtain rfl : i = g.length := by simp at hi; omega
        have e1 : (us ++ [u]).getD g.length undef = u := by rw [← h2]; simp [List.getD]
        have e2 : (g ++ [z]).getD g.length [] = z := by simp [List.getD]
        rw [e1, e2]
        exact hkeep _ _ hu

theorem grown_set (w : World) (a : Addr) (u : Value) : w.grownBy (w.setCell a u) (some a.block) :=
  ⟨rfl, rfl, rfl, by simp, fun k _ hk => Below.heap_setCell _ _ _ _ (fun e => hk (by rw [e]))⟩
theorem row_set {w : World} {B n size : Nat} {e : TypeId} {v : Value} {xs : List Value} (h : w.ownsRow B e size v n xs) {a : Addr} (ha : a.block < B) (u : Value) : (w.setCell a u).ownsRow B e size v n xs := by
  have hlt := h.lt
  refine World.ownsRow.kept h (grown_set w a u) ?_
  cases hk : v.ownBlock with
  | none => exact .inl rfl
  | some k =>
    refine .inr fun e2 => ?_
    have := (hlt k hk).1
    cases e2
    omega
/-- an oven in the making: its box, its own grid so far, its own moves and jolts -/
structure Cut (B bx : Nat) (v vm vj : Value) (g : Grid) (ms : List Mv) (js : List (Int × Int)) (w : World) : Prop where
  hB : B ≤ bx
  box : w.heap[bx]? = some (.cells #[v, vm, vj] 26)
  g : OwnG w B v g
  mv : w.ownsRow B 53 4 vm ms.length (mcells ms)
  jl : w.ownsRow B 55 2 vj js.length (jcells js)
section
variable {B bx : Nat} {v vm vj : Value} {g : Grid} {ms : List Mv} {js : List (Int × Int)} {w w' : World}
theorem Cut.lt (h : Cut B bx v vm vj g ms js w) : bx < w.heap.size := World.block_lt_of_cell? w _ (cells3_of h.box).1
theorem Cut.below (h : Cut B bx v vm vj g ms js w) (hb : Below w.heap.size w w') : Cut B bx v vm vj g ms js w' :=
  ⟨h.hB, (hb.block bx h.lt).trans h.box, ownG_below h.g hb, row_below h.mv hb, row_below h.jl hb⟩
theorem Cut.grid (h : Cut B bx v vm vj g ms js w) (hg : w.grownBy w' v.ownBlock) :
    w'.heap[bx]? = some (.cells #[v, vm, vj] 26) ∧ w'.ownsRow B 53 4 vm ms.length (mcells ms) ∧ w'.ownsRow B 55 2 vj js.length (jcells js) := by
  have hty := ownG_type h.g
  refine ⟨(hg.block bx h.lt ?_).trans h.box, row_other h.mv hg hty (by decide), row_other h.jl hg hty (by decide)⟩
  intro e
  obtain ⟨cs, hc⟩ := hty bx e.symm
  rw [h.box] at hc
  simp at hc
theorem Cut.step {v' : Value} {g' : Grid} (h : Cut B bx v vm vj g ms js w) (hg : w.grownBy w' v.ownBlock) (ho : OwnG w' B v' g') :
    Cut B bx v' vm vj g' ms js (w'.setCell ⟨bx, 0, none⟩ v') := by
  obtain ⟨h1, h2, h3⟩ := h.grid hg
  have hs := grownBy_setCell' w' bx v'
  have ht : ∀ k, some bx = some k → ∃ cs, w'.heap[k]? = some (.cells cs 26) := by
    intro k hk; cases hk; exact ⟨_, h1⟩
  obtain ⟨us, g1, g2, g3⟩ := ho
  exact ⟨h.hB, by simp [World.setCell, Array.getElem?_modify, h1], ⟨us, row_other g1 hs ht (by decide), g2, fun i hi => row_other (g3 i hi) hs ht (by decide)⟩, row_other h2 hs ht (by decide), row_other h3 hs ht (by decide)⟩
theorem Cut.set (h : Cut B bx v vm vj g ms js w) {a : Addr} (ha : a.block < B) (u : Value) : Cut B bx v vm vj g ms js (w.setCell a u) := by
  obtain ⟨us, g1, g2, g3⟩ := h.g
  exact ⟨h.hB, (Below.heap_setCell _ _ _ _ (by have := h.hB; omega)).trans h.box, ⟨us, row_set g1 ha u, g2, fun i hi => row_set (g3 i hi) ha u⟩, row_set h.mv ha u, row_set h.jl ha u⟩
theorem Cut.ov (h : Cut B bx v vm vj g ms js w) (h1 : g.length ≤ 1000000) (h2 : ∀ p ∈ g, p.length ≤ 1000000) (h3 : ms.length ≤ 1000000) (h4 : js.length ≤ 1000000) : IsOv w v vm vj ⟨g, ms, js⟩ :=
  ⟨ownG_isGrid h.g h1 h2, row_isMv h.mv h3, row_isJl h.jl h4⟩
/-- an oven whose three lists are the call's own -/
structure OwnOv (w : World) (B : Nat) (v vm vj : Value) (o : Ov) : Prop where
  g : OwnG w B v o.safe
  mv : w.ownsRow B 53 4 vm o.moves.length (mcells o.moves)
  jl : w.ownsRow B 55 2 vj o.jolts.length (jcells o.jolts)
theorem Cut.own (h : Cut B bx v vm vj g ms js w) {B' : Nat} (hB : B' ≤ B) : OwnOv w B' v vm vj ⟨g, ms, js⟩ := ⟨ownG_mono h.g hB, row_mono h.mv hB, row_mono h.jl hB⟩
theorem OwnOv.below {o : Ov} (h : OwnOv w B v vm vj o) (hb : Below w.heap.size w w') : OwnOv w' B v vm vj o := ⟨ownG_below h.g hb, row_below h.mv hb, row_below h.jl hb⟩
theorem OwnOv.other {o : Ov} {x : Nat} {cs : Array Value} {t : TypeId} (h : OwnOv w B v vm vj o) (hg : w.grownBy w' (some x)) (hx : w.heap[x]? = some (.cells cs t)) (h1 : t ≠ 71) (h2 : t ≠ 9) (h3 : t ≠ 53) (h4 : t ≠ 55) : OwnOv w' B v vm vj o := by
  have ht : ∀ k, some x = some k → ∃ cs, w.heap[k]? = some (.cells cs t) := by intro k hk; cases hk; exact ⟨_, hx⟩
  obtain ⟨us, g1, g2, g3⟩ := h.g
  exact ⟨⟨us, row_other g1 hg ht (Ne.symm h1), g2, fun i hi => row_other (g3 i hi) hg ht (Ne.symm h2)⟩, row_other h.mv hg ht (Ne.symm h3), row_other h.jl hg ht (Ne.symm h4)⟩
theorem OwnOv.isOv {o : Ov} (h : OwnOv w B v vm vj o) (h1 : o.safe.length ≤ 1000000) (h2 : ∀ p ∈ o.safe, p.length ≤ 1000000) (h3 : o.moves.length ≤ 1000000) (h4 : o.jolts.length ≤ 1000000) : IsOv w v vm vj o :=
  ⟨ownG_isGrid h.g h1 h2, row_isMv h.mv h3, row_isJl h.jl h4⟩
theorem cutOv_isOv {o : Ov} (h : OwnOv w B v vm vj (cutOv o)) : IsOv w v vm vj (cutOv o) := by
  refine h.isOv (by simp [cutOv]; omega) (fun p hp => ?_) (by simp [cutOv]; omega) (by simp [cutOv]; omega)
  unfold cutOv at hp
  rw [List.mem_map] at hp
  obtain ⟨q, _, rfl⟩ := hp
  rw [cutStrs_len]
  split <;> omega
end
end Go.Proofs.YtjonbhimbhidpaaDoor
