/-
  Words for the walks over chapter 6: a loop over a set of cells.
-/
import Derived.Test.YtjonbhimbhidpaaDoorWalkZ
import Derived.Maps.RangeWalk
namespace Go.Proofs.YtjonbhimbhidpaaDoor
open Go.RowKit

/-- block r is an iterator over the set at block b; T: the cells that are still to come -/
def RangeS (W : World) (b r : Nat) (L T : List Sp) : Prop :=
  ∃ D left cnt, W.ranges (H := Unit) Tryd.prog 87 (plainElem Tryd.prog 4) b r L.length D left cnt ∧ SetD D L ∧ (∀ z, left z = true → Maps.has D z = true) ∧ (∀ c, InR c → left (kl c) = decide (c ∈ T)) ∧ T.Nodup ∧ ∀ c ∈ T, c ∈ L
theorem RangeS.set {W : World} {b r : Nat} {L T : List Sp} (h : RangeS W b r L T) : SetW W b L := by
  obtain ⟨D, left, cnt, h, hD, _⟩ := h
  exact ⟨D, h.owns, hD⟩
theorem RangeS.kept {W W' : World} {b r : Nat} {L T : List Sp} {row : Option Nat} (h : RangeS W b r L T) (hg : W.grownBy W' row) (h1 : some b ≠ row) (h2 : some r ≠ row) : RangeS W' b r L T := by
  obtain ⟨D, left, cnt, h, hD⟩ := h
  exact ⟨D, left, cnt, h.kept hg h1 h2, hD⟩
theorem left_same {W W' : World} {b r : Nat} (h1 : W'.heap[b]? = W.heap[b]?) (h2 : W'.heap[r]? = W.heap[r]?) : W'.rangeLeft b r = W.rangeLeft b r := by
  unfold World.rangeLeft
  rw [h1, h2]
theorem RangeS.lt {W : World} {b r : Nat} {L T : List Sp} (h : RangeS W b r L T) : r < W.heap.size ∧ b < W.heap.size ∧ r ≠ b := by
  have hs := setW_lt h.set
  obtain ⟨D, left, cnt, h, hD⟩ := h
  exact ⟨h.lt, hs, h.ne⟩
section
variable {w : World} {ops : Array Oper} {rest : List Oper} {o : Oper} {a : Act} {Q : Exit → Act → World → Prop}
theorem wpl_range_set (hg : o.guard = none) (m : Operand) (b : Nat) (L : List Sp) (hop : o.op = Op.range 90 m) (hm : a.eval m = .map (some b)) (hs : SetW w b L)
    (hK : ∀ w', RangeS w' b w.heap.size L L → w.grownBy w' none → w'.heap.size = w.heap.size + 1 → wpList Tryd.prog ops Q rest (a.put o.dst (.pointer (some ⟨w.heap.size, 0, none⟩))) w') :
    wpList Tryd.prog ops Q (o :: rest) a w := by
  obtain ⟨D, hD, hS⟩ := hs
  refine wpList_range_own w hg m 90 hop 87 4 K87 Tryd.underlying90 (plainElem Tryd.prog 4) b L.length D hm hD (fun w' r1 r2 r3 => hK w' ?_ r2 r3)
  exact ⟨D, _, _, r1, hS, fun z h => h, fun c hc => hS.has_kl hc, hS.nodup, fun c h => h⟩
theorem wpl_next_set (hg : o.guard = none) (it : Operand) (hop : o.op = Op.next it false) (b r : Nat) (L T : List Sp) (hit : a.eval it = .pointer (some ⟨r, 0, none⟩)) (h : RangeS w b r L T)
    (hDone : T = [] → wpList Tryd.prog ops Q rest (a.put o.dst (.tuple #[.bool false])) w)
    (hMore : ∀ (c : Sp) (v : Value) (w' : World), c ∈ T → c ∈ L → InR c → RangeS w' b r L (T.erase c) → w'.rangeLeft b r < w.rangeLeft b r → w.grownBy w' (some r) → w'.heap.size = w.heap.size →
      (Instr.entry (.pointer (some ⟨r, 0, none⟩))).run Tryd.prog w' = .ok (.tuple #[spv c, v]) w' → wpList Tryd.prog ops Q rest (a.put o.dst (.tuple #[.bool true, spv c, v])) w') :
    wpList Tryd.prog ops Q (o :: rest) a w := by
  obtain ⟨D, left, cnt, h, hD, hl, hT, hn, hsub⟩ := h
  refine wpList_plain hg fun K' hK' => ?_
  unfold Oper.wp
  rcases h.next K87 o.type with ⟨h0, hl0, hrun⟩ | ⟨key, v, z, y, w', cnt', hkey, hlk, hv, hat, hrun, hrg, hlt, hgr, hsz, hen⟩
  · simp [execOp, hop, hit, hrun, Result.andThen]
    refine hK' _ _ (hDone ?_)
    cases T with
    | nil => rfl
    | cons c T =>
      have hc := hD.inR c (hsub c List.mem_cons_self)
      have := hT c hc
      rw [hl0] at this
      simp at this
  · have hz := hl z hlk
    rw [hD.has, List.any_eq_true] at hz
    obtain ⟨c, hcL, hs⟩ := hz
    have hc := hD.inR c hcL
    obtain rfl := WideAt.sameKey_eq hs
    obtain rfl : key = spv c := K87.inj hkey (keyOf_sp hc)
    have hcT : c ∈ T := by
      have := hT c hc
      rw [hlk] at this
      simpa using this.symm
    simp [execOp, hop, hit, hrun, Result.andThen]
    refine hK' _ _ (hMore c v w' hcT hcL hc ⟨D, _, cnt', hrg, hD, fun z hz => ?_, fun d hd => ?_, hn.erase _, fun d hd => hsub d (List.mem_of_mem_erase hd)⟩ (by rw [hrg.left_eq, h.left_eq]; exact hlt) hgr hsz hen)
    · simp only [Bool.and_eq_true] at hz
      exact hl z hz.1
    · rw [hT d hd, kl_same hd hc, Bool.eq_iff_iff]
      simp only [Bool.and_eq_true, decide_eq_true_eq, Bool.not_eq_true', decide_eq_false_iff_not]
      rw [hn.mem_erase_iff]
      exact And.comm
end
end Go.Proofs.YtjonbhimbhidpaaDoor
