/-
  Words on memory: maps whose keys are numbers (turned from the seat of chapter 6).
-/
import Derived.Test.YtppkgilpmmhpoaaDoorBaseB
import Derived.Maps.Own
import Derived.Maps.OwnSet
import Derived.Maps.OwnOps
import Derived.Maps.Views
import Derived.Maps.Keyed
namespace Go.Proofs.YtppkgilpmmhpoaaDoor
open Go.RowKit
/-! keys that are numbers -/
def InR (c : Int) : Prop := (Lit.int .i64 c).wf = true
def kl (c : Int) : Lit := .int .i64 c
theorem K3 : Maps.Keyed Tryd.prog 3 := Maps.int_keyed Tryd.underlying3
theorem keyOf_sp {c : Int} (h : InR c) : keyOf Tryd.prog 3 (.int .i64 c) = some (kl c) := Maps.keyOf_int_mk Tryd.underlying3 h
theorem kl_key (c : Int) : WideAt.IsKeyLit (kl c) := trivial
theorem kl_inj {c d : Int} (_ : InR c) (_ : InR d) (h : kl c = kl d) : c = d := by
  unfold kl at h
  cases h; rfl
theorem kl_same {c d : Int} (hc : InR c) (hd : InR d) : (kl c).sameKey (kl d) = decide (c = d) := by
  by_cases h : c = d
  · subst h
    rw [WideAt.sameKey_self (kl_key c)]; simp
  · have : (kl c).sameKey (kl d) = false := by
      cases e : (kl c).sameKey (kl d)
      · rfl
      · exact absurd (kl_inj hc hd (WideAt.sameKey_eq e)) h
    rw [this]; simp [h]
theorem wf64 {z : Int} (h : -9223372036854775808 ≤ z ∧ z ≤ 9223372036854775807) : (Lit.int .i64 z).wf = true := by
  unfold Lit.wf
  rw [Bool.and_eq_true, decide_eq_true_eq, decide_eq_true_eq]
  have h1 : IntKind.i64.min = -9223372036854775808 := by decide
  have h2 : IntKind.i64.max = 9223372036854775807 := by decide
  omega
/-! ### Sets of cells -/
/-- the datum of a map reads as a set of cells -/
structure SetD (D : DataW Unit) (L : List Int) : Prop where
  nodup : L.Nodup
  inR : ∀ c ∈ L, InR c
  has : ∀ k, Maps.has D k = L.any fun c => (kl c).sameKey k
  size : Maps.size D = L.length
  at' : ∀ c ∈ L, ∀ z, D.atKey (kl c) z = .lit (.bool true)
theorem SetD.has_kl {D : DataW Unit} {L : List Int} (h : SetD D L) {c : Int} (hc : InR c) : Maps.has D (kl c) = decide (c ∈ L) := by
  rw [h.has, Bool.eq_iff_iff, List.any_eq_true, decide_eq_true_eq]
  constructor
  · rintro ⟨d, hd, e⟩
    rw [kl_same (h.inR d hd) hc, decide_eq_true_eq] at e
    exact e ▸ hd
  · intro hm
    exact ⟨c, hm, by rw [kl_same hc hc]; simp⟩
theorem SetD.atKey {D : DataW Unit} {L : List Int} (h : SetD D L) {c : Int} (hc : InR c) : D.atKey (kl c) (.lit (.bool false)) = .lit (.bool (decide (c ∈ L))) := by
  by_cases hm : c ∈ L
  · rw [h.at' c hm]; simp [hm]
  · rw [Maps.atKey_of_not_has (by rw [h.has_kl hc]; simpa using hm)]; simp [hm]
theorem setD_nil : SetD (.map []) [] := ⟨List.nodup_nil, fun _ h => by simp at h, fun _ => rfl, rfl, fun _ h => by simp at h⟩
theorem setD_put {D : DataW Unit} {L : List Int} (h : SetD D L) (ht : Maps.Tidy D) {c : Int} (hc : InR c) (hm : c ∉ L) : SetD (D.put (kl c) (.lit (.bool true))) (L ++ [c]) := by
  have hD : Maps.IsMap D := ⟨_, ht.choose_spec.1⟩
  have hh : Maps.has D (kl c) = false := by rw [h.has_kl hc]; simpa using hm
  refine ⟨?_, ?_, ?_, ?_, ?_⟩
  · rw [List.nodup_append]
    refine ⟨h.nodup, by simp, fun a ha b hb e => ?_⟩
    simp at hb
    subst hb
    exact hm (e ▸ ha)
  · intro d hd
    rcases List.mem_append.1 hd with hd | hd
    · exact h.inR d hd
    · simp at hd; exact hd ▸ hc
  · intro k
    rw [List.any_append, List.any_cons, List.any_nil, Bool.or_false, ← h.has]
    by_cases e : k = kl c
    · rw [e, Maps.has_put_same hD (kl_key c), WideAt.sameKey_self (kl_key c)]; simp
    · rw [Maps.has_put_other e]
      have : (kl c).sameKey k = false := by
        cases e2 : (kl c).sameKey k
        · rfl
        · exact absurd (WideAt.sameKey_eq e2).symm e
      rw [this]; simp
  · rw [Maps.size_put ht, hh, List.length_append, h.size]; rfl
  · intro d hd z
    rcases List.mem_append.1 hd with hd | hd
    · rw [Maps.atKey_put_other (fun e => hm (kl_inj (h.inR d hd) hc e ▸ hd)), h.at' d hd]
    · simp at hd
      subst hd
      rw [Maps.atKey_put_same hD (kl_key _)]
/-- block b is a map that reads as a set of cells -/
def SetW (W : World) (b : Nat) (L : List Int) : Prop := ∃ D, W.ownsMap (H := Unit) Tryd.prog 3 (plainElem Tryd.prog 4) b L.length D ∧ SetD D L
theorem setW_made (W : World) : SetW (W.alloc (.map #[] 0)) W.heap.size [] := ⟨_, World.ownsMap_made W Tryd.prog 3 _, setD_nil⟩
theorem setW_lt {W : World} {b : Nat} {L : List Int} (h : SetW W b L) : b < W.heap.size := by
  obtain ⟨D, h, _⟩ := h
  exact h.lt
theorem setW_kept {W W' : World} {b : Nat} {L : List Int} {row : Option Nat} (h : SetW W b L) (hg : W.grownBy W' row) (hr : some b ≠ row) : SetW W' b L := by
  obtain ⟨D, h, hD⟩ := h
  exact ⟨D, h.kept hg hr, hD⟩
theorem setW_below {W W' : World} {b B : Nat} {L : List Int} (h : SetW W b L) (hb : Below B W W') (hB : b < B) : SetW W' b L := by
  obtain ⟨D, ⟨es, clock, hh, F, hs, hE⟩, hD⟩ := h
  exact ⟨D, ⟨es, clock, (hb.block b hB).trans hh, F, hs, hE⟩, hD⟩
theorem setW_perm {W : World} {b : Nat} {L L' : List Int} (h : SetW W b L) (hp : L'.Perm L) : SetW W b L' := by
  obtain ⟨D, h, hD⟩ := h
  refine ⟨D, by rw [hp.length_eq]; exact h, hp.nodup_iff.2 hD.nodup, fun c hc => hD.inR c (hp.mem_iff.1 hc), fun k => ?_, by rw [hp.length_eq]; exact hD.size, fun c hc => hD.at' c (hp.mem_iff.1 hc)⟩
  rw [hD.has, Bool.eq_iff_iff, List.any_eq_true, List.any_eq_true]
  exact ⟨fun ⟨x, hx, e⟩ => ⟨x, hp.mem_iff.2 hx, e⟩, fun ⟨x, hx, e⟩ => ⟨x, hp.mem_iff.1 hx, e⟩⟩
theorem zero4 (w : World) : (zeroValue 4).run Tryd.prog w = .ok (.bool false) w := by kernel_rfl
theorem zero3 (w : World) : (zeroValue 3).run Tryd.prog w = .ok (.int .i64 0) w := by kernel_rfl
theorem setW_look {W : World} {b : Nat} {L : List Int} (h : SetW W b L) {c : Int} (hc : InR c) : (Instr.lookup 68 (.map (some b)) (.int .i64 c) false).run Tryd.prog W = .ok (.bool (decide (c ∈ L))) W := by
  obtain ⟨D, h, hD⟩ := h
  obtain ⟨v, ps, hr, hv⟩ := h.lookup K3 Tryd.underlying68 (zero4 W) (zd := .lit (.bool false)) (zp := []) (by simp [plainElem, Tryd.underlying4]) (keyOf_sp hc)
  rw [hD.atKey hc] at hv
  rw [hr]
  cases v <;> simp [plainElem, Tryd.underlying4] at hv
  rw [hv.1]
theorem setW_put {W : World} {b : Nat} {L : List Int} (h : SetW W b L) {c : Int} (hc : InR c) (hm : c ∉ L) (hn : L.length < 1000000) :
    ∃ W', (Instr.mapUpdate 68 (.map (some b)) (.int .i64 c) (.bool true)).run Tryd.prog W = .ok () W' ∧ SetW W' b (L ++ [c]) ∧ W.grownBy W' (some b) ∧ W'.heap.size = W.heap.size := by
  obtain ⟨D, h, hD⟩ := h
  obtain ⟨W', hr, h2, h3⟩ := h.store K3 Tryd.underlying68 (by unfold maxLen; omega) (keyOf_sp hc) (d := .lit (.bool true)) (ps := []) (val := .bool true) (by simp [plainElem, Tryd.underlying4])
  refine ⟨W', hr, ⟨_, by rw [List.length_append]; exact h2, setD_put hD (h.tidy K3) hc hm⟩, h3.grown, ?_⟩
  obtain ⟨es, clock, es', clock', _, rfl⟩ := h3
  simp [ChangeMaps.setBlock]
theorem setW_len {W : World} {b : Nat} {L : List Int} (h : SetW W b L) (ty : TypeId) : (Builtin.len_ #[68] ty #[.map (some b)]).run Tryd.prog W = .ok (.int .i64 L.length) W := by
  obtain ⟨D, h, hD⟩ := h
  rw [h.len Tryd.underlying68 ty, hD.size]

/-! ### Maps of cells to numbers -/
structure NumD (D : DataW Unit) (f : Int → Option Nat) : Prop where
  has : ∀ c, InR c → Maps.has D (kl c) = (f c).isSome
  at' : ∀ c, InR c → ∀ n, f c = some n → ∀ z, D.atKey (kl c) z = .lit (.int .i64 n)
def NumW (W : World) (b n : Nat) (f : Int → Option Nat) : Prop := ∃ D, W.ownsMap (H := Unit) Tryd.prog 3 (plainElem Tryd.prog 3) b n D ∧ NumD D f
theorem numW_made (W : World) : NumW (W.alloc (.map #[] 0)) W.heap.size 0 (fun _ => none) := ⟨_, World.ownsMap_made W Tryd.prog 3 _, fun _ _ => rfl, fun _ _ _ h => by cases h⟩
theorem numW_lt {W : World} {b n : Nat} {f : Int → Option Nat} (h : NumW W b n f) : b < W.heap.size := by
  obtain ⟨D, h, _⟩ := h
  exact h.lt
theorem numW_kept {W W' : World} {b n : Nat} {f : Int → Option Nat} {row : Option Nat} (h : NumW W b n f) (hg : W.grownBy W' row) (hr : some b ≠ row) : NumW W' b n f := by
  obtain ⟨D, h, hD⟩ := h
  exact ⟨D, h.kept hg hr, hD⟩
theorem numW_below {W W' : World} {b B n : Nat} {f : Int → Option Nat} (h : NumW W b n f) (hb : Below B W W') (hB : b < B) : NumW W' b n f := by
  obtain ⟨D, ⟨es, clock, hh, F, hs, hE⟩, hD⟩ := h
  exact ⟨D, ⟨es, clock, (hb.block b hB).trans hh, F, hs, hE⟩, hD⟩
theorem numW_put {W : World} {b n : Nat} {f : Int → Option Nat} (h : NumW W b n f) {c : Int} (hc : InR c) (m : Nat) (hmm : m ≤ 1000000) (hn : n < 1000000000) :
    ∃ W', (Instr.mapUpdate 60 (.map (some b)) (.int .i64 c) (.int .i64 m)).run Tryd.prog W = .ok () W' ∧ NumW W' b (n + 1) (fun d => if d = c then some m else f d) ∧ W.grownBy W' (some b) ∧ W'.heap.size = W.heap.size := by
  obtain ⟨D, h, hD⟩ := h
  obtain ⟨W', hr, h2, h3⟩ := h.store K3 Tryd.underlying60 (by unfold maxLen; omega) (keyOf_sp hc) (d := .lit (.int .i64 m)) (ps := []) (val := .int .i64 m) (plainElem_int Tryd.underlying3 (wf64 (by omega)))
  refine ⟨W', hr, ⟨_, h2, fun d hd => ?_, fun d hd k hk z => ?_⟩, h3.grown, ?_⟩
  · by_cases e : d = c
    · rw [e, Maps.has_put_same h.isMap (kl_key c)]; simp
    · rw [Maps.has_put_other (fun e2 => e (kl_inj hd hc e2)), hD.has d hd]; simp [e]
  · by_cases e : d = c
    · subst e
      rw [if_pos rfl] at hk
      cases hk
      rw [Maps.atKey_put_same h.isMap (kl_key d)]
    · rw [if_neg e] at hk
      rw [Maps.atKey_put_other (fun e2 => e (kl_inj hd hc e2)), hD.at' d hd k hk]
  · obtain ⟨es, clock, es', clock', _, rfl⟩ := h3
    simp [ChangeMaps.setBlock]
theorem numW_look {W : World} {b n : Nat} {f : Int → Option Nat} (h : NumW W b n f) {c : Int} (hc : InR c) :
    (Instr.lookup 60 (.map (some b)) (.int .i64 c) true).run Tryd.prog W = .ok (.tuple #[.int .i64 ((f c).getD 0 : Nat), .bool (f c).isSome]) W := by
  obtain ⟨D, h, hD⟩ := h
  obtain ⟨v, ps, hr, hv⟩ := h.look_ok K3 Tryd.underlying60 (zero3 W) (zd := .lit (.int .i64 0)) (zp := []) (plainElem_int Tryd.underlying3 (by decide)) (keyOf_sp hc)
  rw [hr, hD.has c hc]
  obtain ⟨q, rfl, h1, _⟩ := plainElem_int_inv Tryd.underlying3 hv
  simp only [Prod.mk.injEq] at h1
  have e : q = ((f c).getD 0 : Nat) := by
    cases hf : f c with
    | none =>
      rw [Maps.atKey_of_not_has (by rw [hD.has c hc, hf]; rfl)] at h1
      simp only [DataW.lit.injEq, Lit.int.injEq, true_and] at h1
      rw [← h1.1]; rfl
    | some m =>
      rw [hD.at' c hc m hf] at h1
      simp only [DataW.lit.injEq, Lit.int.injEq, true_and] at h1
      rw [← h1.1]; rfl
  rw [e]
/-- 'm[c] = true' -/
theorem wpl_put_set {ops : Array Oper} {rest : List Oper} {o : Oper} {a : Act} {Q : Exit → Act → World → Prop} {W : World}
    (hg : o.guard = none) (m x v : Operand) (hop : o.op = Op.mapUpdate 68 m x v) (b : Nat) (L : List Int) (hm : a.eval m = .map (some b)) (h : SetW W b L)
    (c : Int) (hx : a.eval x = .int .i64 c) (hv : a.eval v = .bool true) (hc : InR c) (hn : c ∉ L) (hl : L.length < 1000000)
    (hK : ∀ W', SetW W' b (L ++ [c]) → W.grownBy W' (some b) → W'.heap.size = W.heap.size → wpList Tryd.prog ops Q rest (a.put o.dst undef) W') :
    wpList Tryd.prog ops Q (o :: rest) a W := by
  refine wpList_plain hg fun K' hK' => ?_
  obtain ⟨w', hrun, r1, r2, r3⟩ := setW_put h hc hn hl
  unfold Oper.wp
  simp [execOp, hop, hm, hx, hv, hrun, Result.andThen]
  exact hK' _ _ (hK w' r1 r2 r3)

/-- 'm[c] = n' -/
theorem wpl_put_num {ops : Array Oper} {rest : List Oper} {o : Oper} {a : Act} {Q : Exit → Act → World → Prop} {W : World}
    (hg : o.guard = none) (m x v : Operand) (hop : o.op = Op.mapUpdate 60 m x v) (b n : Nat) (f : Int → Option Nat) (hm : a.eval m = .map (some b)) (h : NumW W b n f)
    (c : Int) (hx : a.eval x = .int .i64 c) (k : Nat) (hv : a.eval v = .int .i64 k) (hc : InR c) (hk : k ≤ 1000000) (hl : n < 1000000000)
    (hK : ∀ W', NumW W' b (n + 1) (fun d => if d = c then some k else f d) → W.grownBy W' (some b) → W'.heap.size = W.heap.size → wpList Tryd.prog ops Q rest (a.put o.dst undef) W') :
    wpList Tryd.prog ops Q (o :: rest) a W := by
  refine wpList_plain hg fun K' hK' => ?_
  obtain ⟨w', hrun, r1, r2, r3⟩ := numW_put h hc k hk hl
  unfold Oper.wp
  simp [execOp, hop, hm, hx, hv, hrun, Result.andThen]
  exact hK' _ _ (hK w' r1 r2 r3)
theorem numW_mono {W : World} {b n n' : Nat} {f : Int → Option Nat} (h : NumW W b n f) (hn : n ≤ n') : NumW W b n' f := by
  obtain ⟨D, h, hD⟩ := h
  exact ⟨D, h.mono hn, hD⟩
end Go.Proofs.YtppkgilpmmhpoaaDoor
