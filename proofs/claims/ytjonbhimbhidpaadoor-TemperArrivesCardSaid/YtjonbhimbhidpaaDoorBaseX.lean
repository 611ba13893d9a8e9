/-
  Words for the law of losses of chapter 6.
-/
import Derived.Test.YtjonbhimbhidpaaDoorBaseW
namespace Go.Proofs.YtjonbhimbhidpaaDoor
open Go.RowKit
/-- in how many steps a cell is lost, as the law writes it: -1 if never -/
def Ov.valL (o : Ov) (c : Sp) : Int := match o.LL c with | some j => (j : Int) | none => -1
theorem valD_ex {o : Ov} {d : Sp} (h : o.ex d = true) : o.valD d = o.valL d := by
  unfold Ov.valD
  rw [if_pos h]
  rfl
theorem valD_no {o : Ov} {d : Sp} (h : o.ex d = false) : o.valD d = 0 := by
  unfold Ov.valD
  rw [if_neg (by rw [h]; decide)]
theorem valL_none {o : Ov} {c : Sp} (h : o.LL c = none) : o.valL c = -1 := by unfold Ov.valL; rw [h]
theorem valL_some {o : Ov} {c : Sp} {j : Nat} (h : o.LL c = some j) : o.valL c = (j : Int) := by unfold Ov.valL; rw [h]
theorem N_le {o : Ov} (h : o.Ok) : o.N ≤ 1024 := by rw [← cells_len]; exact cells_small h
theorem valL_range {o : Ov} (h : o.Ok) (c : Sp) : -1 ≤ o.valL c ∧ o.valL c ≤ 1024 := by
  cases hl : o.LL c with
  | none => rw [valL_none hl]; omega
  | some j =>
    rw [valL_some hl]
    have h1 := ((lost_some o o.N c j).1 hl).1
    have := N_le h
    omega
theorem valD_range {o : Ov} (h : o.Ok) (c : Sp) : -1 ≤ o.valD c ∧ o.valD c ≤ 1024 := by
  cases he : o.ex c with
  | false => rw [valD_no he]; omega
  | true => rw [valD_ex he]; exact valL_range h c
theorem LL_zero {o : Ov} {c : Sp} (he : o.ex c = true) (h : o.LL c = some 0) : inG o.safe c = false := by
  have h1 := ((lost_some o o.N c 0).1 h).2.1
  simp only [Ov.K] at h1
  rw [he, Bool.true_and] at h1
  exact h1
theorem LL_succ {o : Ov} {c : Sp} {j : Nat} (h : o.LL c = some (j + 1)) : inG o.safe c = true := K_safe o 0 c (((lost_some o o.N c (j + 1)).1 h).2.2 0 (by omega))
theorem LL_kk {o : Ov} {c : Sp} {j : Nat} (h : o.LL c = some j) : o.KK c = false := by
  cases hk : o.KK c with
  | false => rfl
  | true => rw [(LL_none o c).2 hk] at h; cases h
theorem take_vals {o : Ov} (f : Sp → Int) {i : Nat} (h : i < o.cells.length) : (o.cells.take i).map f ++ [f (sAt o.cells i)] = (o.cells.take (i + 1)).map f := by
  rw [List.take_succ_eq_append_getElem h, List.map_append]
  unfold sAt
  rw [List.getD_eq_getElem?_getD, List.getElem?_eq_getElem h]; rfl
theorem vals_at {o : Ov} (f : Sp → Int) {i : Nat} (h : i < o.cells.length) : (o.cells.map f).getD i 0 = f (sAt o.cells i) := by
  unfold sAt
  rw [List.getD_eq_getElem?_getD, List.getD_eq_getElem?_getD, List.getElem?_map, List.getElem?_eq_getElem h]; rfl
theorem vals_pos {o : Ov} (f : Sp → Int) {d : Sp} (h : o.ex d = true) : o.pos d < o.cells.length ∧ (o.cells.map f).getD (o.pos d) 0 = f d := by
  obtain ⟨h1, h2⟩ := pos_lt o d h
  have h3 : o.pos d < o.cells.length := by rw [cells_len]; exact h1
  refine ⟨h3, ?_⟩
  rw [vals_at f h3, sAt_cells o _ h1, h2]
theorem fold_take {α : Type} (f : Int → α → Int) (b : Int) (xs : List α) (d : α) (i : Nat) (h : i < xs.length) : (xs.take (i + 1)).foldl f b = f ((xs.take i).foldl f b) (xs.getD i d) := by
  rw [List.take_succ_eq_append_getElem h, List.foldl_append, List.getD_eq_getElem?_getD, List.getElem?_eq_getElem h]; rfl
theorem worst_range {o : Ov} (c : Sp) (m : Mv) : ∀ (js : List (Int × Int)) (w : Int), 0 ≤ w → w ≤ 1000000 → 0 ≤ js.foldl (o.worstF c m) w ∧ js.foldl (o.worstF c m) w ≤ 1000000
  | [], w, h0, h1 => ⟨h0, h1⟩
  | j :: js, w, h0, h1 => by
    rw [List.foldl_cons]
    refine worst_range c m js _ ?_ ?_
    all_goals
      unfold Ov.worstF
      split <;> omega
theorem best_range {o : Ov} (c : Sp) : ∀ (ms : List Mv) (b : Int), 0 ≤ b → b ≤ 1000000 → 0 ≤ ms.foldl (o.bestF c) b ∧ ms.foldl (o.bestF c) b ≤ 1000000
  | [], w, h0, h1 => ⟨h0, h1⟩
  | m :: ms, w, h0, h1 => by
    rw [List.foldl_cons]
    have := worst_range (o := o) c m o.jolts 1000000 (by omega) (by omega)
    refine best_range c ms _ ?_ ?_
    all_goals
      unfold Ov.bestF Ov.worst
      split <;> omega
theorem inR_ex {o : Ov} (h : o.Ok) {c : Sp} (he : o.ex c = true) : InR c := by
  unfold Ov.ex at he
  simp only [decide_eq_true_eq] at he
  have h1 := h.p
  have h2 := h.r
  have h3 := h.c
  unfold InR
  omega
theorem sp_all {w : World} {B n l2 : Nat} {e : TypeId} {g : Nat} {xs : List Sp} (h : OwnS w B e (.slice (some ⟨g, 0, none⟩) n l2) xs) {i : Nat} (hi : i < xs.length) {p x y : Int} (hs : sAt xs i = (p, x, y)) : w.cell? ⟨g, i * 3, none⟩ = some (.int .i64 p) ∧ w.cell? ⟨g, i * 3 + 1, none⟩ = some (.int .i64 x) ∧ w.cell? ⟨g, i * 3 + 2, none⟩ = some (.int .i64 y) := by
  have h1 := ownS_read h i hi
  rw [hs] at h1
  exact ⟨h1.1, h1.2.1, h1.2.2.1⟩
theorem mvAt_ok {o : Ov} (h : o.Ok) {i : Nat} (hi : i < o.moves.length) : (-5 ≤ (mvAt o.moves i).2.2.1 ∧ (mvAt o.moves i).2.2.1 ≤ 5) ∧ (-5 ≤ (mvAt o.moves i).2.2.2 ∧ (mvAt o.moves i).2.2.2 ≤ 5) := by
  have h1 := h.mv _ (List.getElem_mem hi)
  have e : mvAt o.moves i = o.moves[i] := by unfold mvAt; rw [List.getD_eq_getElem?_getD, List.getElem?_eq_getElem hi]; rfl
  rw [e]
  exact mv5 h1
theorem jlAt_ok {o : Ov} (h : o.Ok) {i : Nat} (hi : i < o.jolts.length) : (-5 ≤ (jlAt o.jolts i).1 ∧ (jlAt o.jolts i).1 ≤ 5) ∧ (-5 ≤ (jlAt o.jolts i).2 ∧ (jlAt o.jolts i).2 ≤ 5) := by
  have h1 := h.jl _ (List.getElem_mem hi)
  have e : jlAt o.jolts i = o.jolts[i] := by unfold jlAt; rw [List.getD_eq_getElem?_getD, List.getElem?_eq_getElem hi]; rfl
  rw [e]
  exact jl5 h1
section
variable {md : Region.Mode} {ops : Array Oper} {Q : Exit → Act → World → Prop} {S : World → Prop} {fuel : Nat} {listed : Array Bool} {a : Act} {w : World} {i : Nat} {o : Oper} {rs : List Nat}
theorem node_alloc28 (d : Nat) (hi : ops[i]? = some o) (hgd : o.guard = none) (ho : o.op = .alloc 28) (hd : o.dst = some d) (hS : S (w.alloc (.cells #[.int .i64 0, .int .i64 0, .int .i64 0] 28)))
    (h : S (w.alloc (.cells #[.int .i64 0, .int .i64 0, .int .i64 0] 28)) → wpAnyH Tryd.prog md ops Q S fuel (listed.setIfInBounds i true) (a.put (some d) (.pointer (some ⟨w.heap.size, 0, none⟩))) (w.alloc (.cells #[.int .i64 0, .int .i64 0, .int .i64 0] 28)))
    (hs : AllReadyH Tryd.prog md ops Q S fuel listed a w rs) : AllReadyH Tryd.prog md ops Q S fuel listed a w (i :: rs) := by
  refine AllReadyH.cons hi (fun K hK => ?_) hs
  have hw : Region.wanted o (yielded ops a.tmps) = true := by simp [Region.wanted, hgd]
  rw [if_pos hw]
  have hk := hK.out _ _ hS h
  unfold Oper.wp execOp
  simp [ho, go_sem]
  rw [hd]
  exact hk
end
end Go.Proofs.YtjonbhimbhidpaaDoor
