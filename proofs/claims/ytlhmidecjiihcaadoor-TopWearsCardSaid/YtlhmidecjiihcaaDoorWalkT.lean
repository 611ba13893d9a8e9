/-
  Lists of rationals.
-/
import Derived.Test.YtlhmidecjiihcaaDoorWalkS
import Derived.Handy
namespace Go.Proofs.YtlhmidecjiihcaaDoor
open Go.RowKit
section
variable {md : Region.Mode} {ops : Array Oper} {Q : Exit → Act → World → Prop} {S : World → Prop} {fuel : Nat} {listed : Array Bool} {a : Act} {w : World} {i : Nat} {o : Oper} {rs : List Nat}
set_option maxRecDepth 100000 in
theorem node_iMul (d kr k2 : Nat) (v1 v2 : Value) (hi : ops[i]? = some o) (hgd : Region.wanted o (yielded ops a.tmps) = true) (ho : o.op = .call { callee := .invoke (.tmp kr) "Mul", args := #[.tmp k2], argTypes := #[54] }) (hd : o.dst = some d)
    (hv1 : a.tmps[kr]?.getD undef = .iface 54 v1) (hv2 : a.tmps[k2]?.getD undef = v2)
    (h : Calls Tryd.prog 39 #[v1, v2] w fun e w' => ∃ u, e = .returned u ∧ S w' ∧ wpAnyH Tryd.prog md ops Q S fuel (listed.setIfInBounds i true) (a.put (some d) u) w')
    (hs : AllReadyH Tryd.prog md ops Q S fuel listed a w rs) : AllReadyH Tryd.prog md ops Q S fuel listed a w (i :: rs) := by
  refine AllReadyH.cons hi (fun K hK => ?_) hs
  rw [if_pos hgd]
  unfold Oper.wp execOp
  simp [ho, go_sem, hv1, hv2]
  go_invoke
  simp [go_sem]
  refine h.mono ?_
  rintro e w' ⟨u, rfl, h1, h2⟩
  have hk := hK.out _ _ h1 (fun _ => h2)
  rw [hd]
  exact hk
set_option maxRecDepth 100000 in
theorem node_iAdd (d kr k2 : Nat) (v1 v2 : Value) (hi : ops[i]? = some o) (hgd : Region.wanted o (yielded ops a.tmps) = true) (ho : o.op = .call { callee := .invoke (.tmp kr) "Add", args := #[.tmp k2], argTypes := #[54] }) (hd : o.dst = some d)
    (hv1 : a.tmps[kr]?.getD undef = .iface 54 v1) (hv2 : a.tmps[k2]?.getD undef = v2)
    (h : Calls Tryd.prog 45 #[v1, v2] w fun e w' => ∃ u, e = .returned u ∧ S w' ∧ wpAnyH Tryd.prog md ops Q S fuel (listed.setIfInBounds i true) (a.put (some d) u) w')
    (hs : AllReadyH Tryd.prog md ops Q S fuel listed a w rs) : AllReadyH Tryd.prog md ops Q S fuel listed a w (i :: rs) := by
  refine AllReadyH.cons hi (fun K hK => ?_) hs
  rw [if_pos hgd]
  unfold Oper.wp execOp
  simp [ho, go_sem, hv1, hv2]
  go_invoke
  simp [go_sem]
  refine h.mono ?_
  rintro e w' ⟨u, rfl, h1, h2⟩
  have hk := hK.out _ _ h1 (fun _ => h2)
  rw [hd]
  exact hk
end
/-- a list of rationals, read -/
def RatR (w : World) (v : Value) (zs : List Int) : Prop := ∃ s k, v = .slice s zs.length k ∧ zs.length ≤ 1000 ∧ ∀ i, i < zs.length → ∃ G b a n c g d, s = some ⟨G, 0, none⟩ ∧ w.cell? ⟨G, i * 4, none⟩ = some (.bool b) ∧ w.cell? ⟨G, i * 4 + 1, none⟩ = some (.slice a n c) ∧ w.cell? ⟨G, i * 4 + 2, none⟩ = some (.bool false) ∧ w.cell? ⟨G, i * 4 + 3, none⟩ = some (.slice (some ⟨g, 0, none⟩) 1 d) ∧ RatZ w (.agg #[.bool b, .slice a n c, .bool false, .slice (some ⟨g, 0, none⟩) 1 d]) (zs.getD i 0)
/-- the call's own list of rationals -/
def RatL (w : World) (B : Nat) (v : Value) (zs : List Int) : Prop := ∃ rs, OwnS w B 54 4 v rs ∧ rs.length = zs.length ∧ (zs = [] → v = .slice none 0 0) ∧ ∀ i, i < zs.length → ∃ b a n c g d, rs.getD i [] = [.bool b, .slice a n c, .bool false, .slice (some ⟨g, 0, none⟩) 1 d] ∧ RatZ w (.agg #[.bool b, .slice a n c, .bool false, .slice (some ⟨g, 0, none⟩) 1 d]) (zs.getD i 0)
/-- a rational in its box -/
def BoxR (w : World) (X : Nat) (z : Int) : Prop := ∃ b a n c g d, w.heap[X]? = some (.cells #[.bool b, .slice a n c, .bool false, .slice (some ⟨g, 0, none⟩) 1 d] 54) ∧ RatZ w (.agg #[.bool b, .slice a n c, .bool false, .slice (some ⟨g, 0, none⟩) 1 d]) z
theorem RatR.below {w w' : World} {v : Value} {zs : List Int} (h : RatR w v zs) (hb : Below w.heap.size w w') : RatR w' v zs := by
  obtain ⟨s, k, rfl, hl, h⟩ := h
  refine ⟨s, k, rfl, hl, fun i hi => ?_⟩
  obtain ⟨G, b, a, n, c, g, d, hs, h0, h1, h2, h3, hr⟩ := h i hi
  have f : ∀ {j : Nat} {x : Value}, w.cell? ⟨G, j, none⟩ = some x → w'.cell? ⟨G, j, none⟩ = some x := fun hx => (hb.cell (World.block_lt_of_cell? w _ hx)).trans hx
  exact ⟨G, b, a, n, c, g, d, hs, f h0, f h1, f h2, f h3, hr.below hb⟩
theorem RatR.sh {w : World} {v : Value} {zs : List Int} (h : RatR w v zs) : ∃ s k, v = .slice s zs.length k := by
  obtain ⟨s, k, h, _⟩ := h
  exact ⟨s, k, h⟩
theorem RatR.at {w : World} {s : Option Addr} {m k : Nat} {zs : List Int} (h : RatR w (.slice s m k) zs) (i : Nat) (hi : i < zs.length) : ∃ G b a n c g d, s = some ⟨G, 0, none⟩ ∧ w.cell? ⟨G, i * 4, none⟩ = some (.bool b) ∧ w.cell? ⟨G, i * 4 + 1, none⟩ = some (.slice a n c) ∧ w.cell? ⟨G, i * 4 + 2, none⟩ = some (.bool false) ∧ w.cell? ⟨G, i * 4 + 3, none⟩ = some (.slice (some ⟨g, 0, none⟩) 1 d) ∧ RatZ w (.agg #[.bool b, .slice a n c, .bool false, .slice (some ⟨g, 0, none⟩) 1 d]) (zs.getD i 0) := by
  obtain ⟨s', k', hv, _, h⟩ := h
  cases hv
  exact h i hi
theorem RatL.nil (w : World) (B : Nat) : RatL w B (.slice none 0 0) [] := ⟨[], ownS_nil _ _ _ _, rfl, fun _ => rfl, fun i hi => absurd hi (Nat.not_lt_zero _)⟩
theorem RatL.below {w w' : World} {B : Nat} {v : Value} {zs : List Int} (h : RatL w B v zs) (hb : Below w.heap.size w w') : RatL w' B v zs := by
  obtain ⟨rs, ho, hl, hn, h⟩ := h
  refine ⟨rs, ownS_below ho hb, hl, hn, fun i hi => ?_⟩
  obtain ⟨b, a, n, c, g, d, h1, hr⟩ := h i hi
  exact ⟨b, a, n, c, g, d, h1, hr.below hb⟩
theorem RatL.sh {w : World} {B : Nat} {v : Value} {zs : List Int} (h : RatL w B v zs) : ∃ s k, v = .slice s zs.length k := by
  obtain ⟨rs, ho, hl, _⟩ := h
  obtain ⟨s, k, h⟩ := ownS_sh ho
  exact ⟨s, k, by rw [← hl]; exact h⟩
theorem RatL.mono {w : World} {B B' : Nat} {v : Value} {zs : List Int} (h : RatL w B v zs) (hb : B' ≤ B) : RatL w B' v zs := by
  obtain ⟨rs, ho, hl, hn, h⟩ := h
  exact ⟨rs, ownS_mono ho hb, hl, hn, h⟩
theorem RatL.lt {w : World} {B : Nat} {v : Value} {zs : List Int} (h : RatL w B v zs) : ∀ k, v.ownBlock = some k → B ≤ k ∧ k < w.heap.size := by
  obtain ⟨rs, ho, _⟩ := h
  exact ownS_lt ho
theorem RatL.R {w : World} {B : Nat} {v : Value} {zs : List Int} (h : RatL w B v zs) (hl2 : zs.length ≤ 1000) : RatR w v zs := by
  obtain ⟨s, k, rfl⟩ := h.sh
  obtain ⟨rs, ho, hl, hn, h⟩ := h
  refine ⟨s, k, rfl, hl2, fun i hi => ?_⟩
  obtain ⟨b, a, n, c, g, d, h1, hr⟩ := h i hi
  obtain ⟨G, k', hv, _, _⟩ := ownS_some ho (by omega)
  injection hv with e1 e2 e3
  subst e1
  have f : ∀ j, j < 4 → w.cell? ⟨G, i * 4 + j, none⟩ = some ((rs.getD i []).getD j undef) := fun j hj => ownS_cell ho i j (by omega) hj
  rw [h1] at f
  exact ⟨G, b, a, n, c, g, d, rfl, f 0 (by omega), f 1 (by omega), f 2 (by omega), f 3 (by omega), hr⟩
theorem Lb.grown {w w' : World} {v : Value} {k : Nat} {row : Option Nat} (h : Lb w v k) (hg : w.grownBy w' row) (hr : ∀ X, row = some X → ∀ z, w.cell? ⟨X, 0, none⟩ ≠ some (.int .u32 z)) : Lb w' v k := by
  obtain ⟨a, c, rfl, h0, h1, h2⟩ := h
  refine ⟨a, c, rfl, h0, h1, fun hk => ?_⟩
  obtain ⟨g, e, hc⟩ := h2 hk
  refine ⟨g, e, ?_⟩
  have hlt := World.block_lt_of_cell? w _ hc
  rw [← hc]
  exact cell_same (hg.block g hlt (fun e2 => hr g e2.symm _ hc))
theorem IntZ.grown {w w' : World} {v : Value} {k : Int} {row : Option Nat} (h : IntZ w v k) (hg : w.grownBy w' row) (hr : ∀ X, row = some X → ∀ z, w.cell? ⟨X, 0, none⟩ ≠ some (.int .u32 z)) : IntZ w' v k := by
  obtain ⟨s, rfl, h⟩ := h
  exact ⟨s, rfl, h.grown hg hr⟩
theorem RatZ.grown {w w' : World} {v : Value} {k : Int} {row : Option Nat} (h : RatZ w v k) (hg : w.grownBy w' row) (hr : ∀ X, row = some X → ∀ z, w.cell? ⟨X, 0, none⟩ ≠ some (.int .u32 z)) : RatZ w' v k := by
  obtain ⟨a, n, c, g, d, rfl, h1, h2⟩ := h
  exact ⟨a, n, c, g, d, rfl, h1.grown hg hr, h2.grown hg hr⟩
theorem RatL.free {w : World} {B : Nat} {v : Value} {zs : List Int} (h : RatL w B v zs) : ∀ X, v.ownBlock = some X → ∀ z, w.cell? ⟨X, 0, none⟩ ≠ some (.int .u32 z) := by
  obtain ⟨rs, ho, hl, hn, h⟩ := h
  intro X hX z e
  by_cases h0 : zs = []
  · rw [hn h0] at hX
    cases hX
  · have h1 : 0 < zs.length := List.length_pos_iff.2 h0
    obtain ⟨b, a, n, c, g, d, h2, _⟩ := h 0 h1
    obtain ⟨G, k', rfl, _, _⟩ := ownS_some ho (by omega)
    have f := ownS_cell ho 0 0 (by omega) (by decide)
    rw [h2] at f
    cases hX
    rw [show 0 * 4 + 0 = 0 from rfl, e] at f
    cases f
theorem info54 : (Tryd.prog.info? 54).map (fun i => (i.zero, i.size, i.bytes)) = some (some (.agg #[.bool false, .slice none 0 0, .bool false, .slice none 0 0]), 4, 64) := by kernel_rfl
/-- append of a rational -/
theorem wpl_app_r {ops : Array Oper} {rest : List Oper} {o : Oper} {a0 : Act} {Q : Exit → Act → World → Prop} {W : World} (b : Bool) (a : Option Addr) (n c g d : Nat) (z : Int) (s y : Operand) (v : Value) (B : Nat) (zs : List Int)
    (hgd : o.guard = none) (ho : o.op = .call { callee := .builtin .append, args := #[s, y], argTypes := #[46, 46] })
    (hs : a0.eval s = v) (hx : a0.eval y = .slice (some ⟨W.heap.size, 0, none⟩) 1 1)
    (hown : RatL W B v zs) (hz : RatZ W (.agg #[.bool b, .slice a n c, .bool false, .slice (some ⟨g, 0, none⟩) 1 d]) z) (hlen : zs.length < 1000) (hB : B ≤ W.heap.size)
    (h : ∀ v' w', Hid (RatL w' B v' (zs ++ [z])) → Hid (Below B W w') → Hid (W.grownBy w' v.ownBlock) → Hid (∀ r k, RatZ W r k → RatZ w' r k) → wpList Tryd.prog ops Q rest (a0.put o.dst v') w') :
    wpList Tryd.prog ops Q (o :: rest) a0 (W.alloc (.cells #[.bool b, .slice a n c, .bool false, .slice (some ⟨g, 0, none⟩) 1 d] 54)) := by
  have hfree := hown.free
  obtain ⟨rs, hos, hl, hn, hr⟩ := hown
  refine wpl_app_s 46 54 (.agg #[.bool false, .slice none 0 0, .bool false, .slice none 0 0]) 4 64 info54 rfl (by decide) (by kernel_rfl) (by decide) [.bool b, .slice a n c, .bool false, .slice (some ⟨g, 0, none⟩) 1 d] rfl (by simp [Value.oneCell']) s y v B rs hgd ho hs hx hos (by omega) hB (fun v' w' h1 h2 h3 => ?_)
  have hk : ∀ r k, RatZ W r k → RatZ w' r k := fun r k h => h.grown h3 hfree
  refine h v' w' ⟨rs ++ [[.bool b, .slice a n c, .bool false, .slice (some ⟨g, 0, none⟩) 1 d]], h1, by rw [List.length_append, List.length_append, hl]; rfl, fun e => absurd e (by simp), fun i hi => ?_⟩ h2 h3 hk
  by_cases hi2 : i < zs.length
  · obtain ⟨b, a, n, c, g, d, h4, h5⟩ := hr i hi2
    exact ⟨b, a, n, c, g, d, by rw [getD_snoc _ _ _ _ (by omega)]; exact h4, by rw [getD_snoc _ _ _ _ hi2]; exact hk _ _ h5⟩
  · obtain rfl : i = zs.length := by rw [List.length_append] at hi; simp at hi; omega
    exact ⟨b, a, n, c, g, d, by rw [← hl, getD_last], by rw [getD_last]; exact hk _ _ hz⟩
theorem BoxR.below {w w' : World} {X : Nat} {z : Int} (h : BoxR w X z) (hb : Below w.heap.size w w') : BoxR w' X z := by
  obtain ⟨b, a, n, c, g, d, h1, h2⟩ := h
  exact ⟨b, a, n, c, g, d, cells_box h1 hb, h2.below hb⟩
theorem put4_at {w : World} {X : Nat} {x0 x1 x2 x3 : Value} {b e : Bool} {p q : Option Addr} {n c m d : Nat} (h : w.heap[X]? = some (.cells #[x0, x1, x2, x3] 54)) : (put4 w X b p n c e q m d).heap[X]? = some (.cells #[.bool b, .slice p n c, .bool e, .slice q m d] 54) := by
  unfold put4 World.setCell
  simp [Array.getElem?_modify, h]
theorem BoxR.put {w : World} {X : Nat} {z : Int} {x0 x1 x2 x3 : Value} {b : Bool} {a : Option Addr} {n c g d : Nat} (h : w.heap[X]? = some (.cells #[x0, x1, x2, x3] 54)) (hx : ∀ z, x0 ≠ .int .u32 z) (hz : RatZ w (.agg #[.bool b, .slice a n c, .bool false, .slice (some ⟨g, 0, none⟩) 1 d]) z) : BoxR (put4 w X b a n c false (some ⟨g, 0, none⟩) 1 d) X z :=
  ⟨b, a, n, c, g, d, put4_at h, hz.off (fun z e => by rw [(cells4_of h).1] at e; cases e; exact hx z rfl) put4_off⟩
/-- the sum of the first numbers -/
def psum (z0 : Int) (f : Nat → Int) : Nat → Int
  | 0 => z0
  | i + 1 => psum z0 f i + f i
end Go.Proofs.YtlhmidecjiihcaaDoor
