/-
  Words on memory: maps of numbers to numbers, and how many there are.
-/
import Derived.Test.YtppkgilpmmhpoaaDoorBaseC
namespace Go.Proofs.YtppkgilpmmhpoaaDoor
open Go.RowKit
/-- block b is a map of n numbers to numbers -/
def NumZ (W : World) (b n : Nat) (f : Int → Option Nat) : Prop := ∃ D, W.ownsMap (H := Unit) Tryd.prog 3 (plainElem Tryd.prog 3) b n D ∧ NumD D f ∧ Maps.size D = n
theorem numZ_made (W : World) : NumZ (W.alloc (.map #[] 0)) W.heap.size 0 (fun _ => none) := ⟨_, World.ownsMap_made W Tryd.prog 3 _, ⟨fun _ _ => rfl, fun _ _ _ h => by cases h⟩, rfl⟩
theorem numZ_w {W : World} {b n : Nat} {f : Int → Option Nat} (h : NumZ W b n f) : NumW W b n f := by
  obtain ⟨D, h, hD, _⟩ := h
  exact ⟨D, h, hD⟩
theorem numZ_kept {W W' : World} {b n : Nat} {f : Int → Option Nat} {row : Option Nat} (h : NumZ W b n f) (hg : W.grownBy W' row) (hr : some b ≠ row) : NumZ W' b n f := by
  obtain ⟨D, h, hD, hs⟩ := h
  exact ⟨D, h.kept hg hr, hD, hs⟩
theorem numZ_lt {W : World} {b n : Nat} {f : Int → Option Nat} (h : NumZ W b n f) : b < W.heap.size := numW_lt (numZ_w h)
theorem numZ_len {W : World} {b n : Nat} {f : Int → Option Nat} (h : NumZ W b n f) (ty : TypeId) : (Builtin.len_ #[60] ty #[.map (some b)]).run Tryd.prog W = .ok (.int .i64 n) W := by
  obtain ⟨D, h, hD, hs⟩ := h
  rw [h.len Tryd.underlying60 ty, hs]
theorem numW_look0 {W : World} {b n : Nat} {f : Int → Option Nat} (h : NumW W b n f) {c : Int} (hc : InR c) {k : Nat} (hk : f c = some k) :
    (Instr.lookup 60 (.map (some b)) (.int .i64 c) false).run Tryd.prog W = .ok (.int .i64 (k : Int)) W := by
  obtain ⟨D, h, hD⟩ := h
  obtain ⟨v, ps, hr, hv⟩ := h.lookup K3 Tryd.underlying60 (zero3 W) (zd := .lit (.int .i64 0)) (zp := []) (plainElem_int Tryd.underlying3 (by decide)) (keyOf_sp hc)
  rw [hr]
  obtain ⟨q, rfl, h1, _⟩ := plainElem_int_inv Tryd.underlying3 hv
  simp only [Prod.mk.injEq] at h1
  rw [hD.at' c hc k hk] at h1
  simp only [DataW.lit.injEq, Lit.int.injEq, true_and] at h1
  rw [← h1.1]
theorem numZ_put {W : World} {b n : Nat} {f : Int → Option Nat} (h : NumZ W b n f) {c : Int} (hc : InR c) (hf : f c = none) (m : Nat) (hmm : m ≤ 1000000) (hn : n < 1000000000) :
    ∃ W', (Instr.mapUpdate 60 (.map (some b)) (.int .i64 c) (.int .i64 m)).run Tryd.prog W = .ok () W' ∧ NumZ W' b (n + 1) (fun d => if d = c then some m else f d) ∧ W.grownBy W' (some b) ∧ W'.heap.size = W.heap.size := by
  obtain ⟨D, h, hD, hs⟩ := h
  obtain ⟨W', hr, h2, h3⟩ := h.store K3 Tryd.underlying60 (by unfold maxLen; omega) (keyOf_sp hc) (d := .lit (.int .i64 m)) (ps := []) (val := .int .i64 m) (plainElem_int Tryd.underlying3 (wf64 (by omega)))
  have hnh : Maps.has D (kl c) = false := by rw [hD.has c hc, hf]; rfl
  have hti := h.tidy K3
  refine ⟨W', hr, ⟨_, h2, ⟨fun d hd => ?_, fun d hd k hk z => ?_⟩, ?_⟩, h3.grown, ?_⟩
  · by_cases e : d = c
    · rw [e, Maps.has_put_same h.isMap (kl_key c)]; simp
    · rw [Maps.has_put_other (fun e2 => e (kl_inj hd hc e2)), hD.has d hd]; simp [e]
  · by_cases e : d = c
    · subst e
      rw [if_pos rfl] at hk
      cases hk
      rw [Maps.atKey_put_same h.isMap (kl_key d)]
    · rw [if_neg e] at hk
      rw [Maps.atKey_put_other (fun e2 => e (kl_inj hd hc e2)), hD.at' d hd k hk]
  · rw [Maps.size_put hti, hnh, if_neg (by decide), hs]
  · obtain ⟨es, clock, es', clock', _, rfl⟩ := h3
    simp [ChangeMaps.setBlock]
/-- 'm[c] = k', a new key -/
theorem wpl_put_numz {ops : Array Oper} {rest : List Oper} {o : Oper} {a : Act} {Q : Exit → Act → World → Prop} {W : World}
    (hg : o.guard = none) (m x v : Operand) (hop : o.op = Op.mapUpdate 60 m x v) (b n : Nat) (f : Int → Option Nat) (hm : a.eval m = .map (some b)) (h : NumZ W b n f)
    (c : Int) (hx : a.eval x = .int .i64 c) (k : Nat) (hv : a.eval v = .int .i64 k) (hc : InR c) (hf : f c = none) (hk : k ≤ 1000000) (hl : n < 1000000000)
    (hK : ∀ W', NumZ W' b (n + 1) (fun d => if d = c then some k else f d) → W.grownBy W' (some b) → W'.heap.size = W.heap.size → wpList Tryd.prog ops Q rest (a.put o.dst undef) W') :
    wpList Tryd.prog ops Q (o :: rest) a W := by
  refine wpList_plain hg fun K' hK' => ?_
  obtain ⟨w', hrun, r1, r2, r3⟩ := numZ_put h hc hf k hk hl
  unfold Oper.wp
  simp [execOp, hop, hm, hx, hv, hrun, Result.andThen]
  exact hK' _ _ (hK w' r1 r2 r3)
end Go.Proofs.YtppkgilpmmhpoaaDoor
