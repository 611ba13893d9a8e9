/-
  Words on memory for chapter 6: cells as keys of maps; sets of cells; maps of cells to numbers.
-/
import Derived.Test.YtjonbhimbhidpaaDoorProg
import Derived.Test.YtjonbhimbhidpaaDoorPlainA
import Derived.WalkKit
import Derived.WalkSpells
import Derived.WalkLawsBesides
import Derived.Deep.QuietTactic
import Derived.BigQuiet
import Derived.Lib.Strings
import Derived.DeepKeys4
import Derived.WideKeyArr
import Derived.Maps.Own
import Derived.Maps.OwnSet
import Derived.Maps.OwnOps
import Derived.Maps.Views
import Derived.Maps.RangeWalk
import Derived.Test.YtjonbhimbhidpaaDoorShelf
namespace Go.Proofs.YtjonbhimbhidpaaDoor
open Go.RowKit

theorem hid {p : Prop} (h : p) : Hid p := h

/-! ### Cells as keys -/
def spv (c : Sp) : Value := .agg #[.int .i64 c.1, .int .i64 c.2.1, .int .i64 c.2.2]
/-- a cell that is near enough to be a key -/
def InR (c : Sp) : Prop := (-1000000 ≤ c.1 ∧ c.1 ≤ 1000000) ∧ (-1000000 ≤ c.2.1 ∧ c.2.1 ≤ 1000000) ∧ (-1000000 ≤ c.2.2 ∧ c.2.2 ≤ 1000000)
def kl (c : Sp) : Lit := .string (keyBytes [.int .i64 c.1, .int .i64 c.2.1, .int .i64 c.2.2])
theorem row87 : (87 : TypeId) < Tryd.prog.types.size := of_decide_eq_true (by kernel_rfl)
theorem cells87 : Tryd.prog.cellsOf 87 = 3 := by kernel_rfl
theorem arr87 : WideMaps.ArrKey Tryd.prog 87 3 3 := ⟨Tryd.underlying87, by kernel_rfl, by kernel_rfl, cells87⟩
theorem wide87 : (match Tryd.prog.underlying 87 with | some (.array _ _) | some (.struct _) => true | _ => false) = true := by rw [Tryd.underlying87]
theorem K87 : Maps.Keyed Tryd.prog 87 := Maps.Keyed.of_law arr87.law
theorem keyType87 : Tryd.prog.keyType 87 = true := by kernel_rfl
theorem wf64 {z : Int} (h : -1000000 ≤ z ∧ z ≤ 1000000) : (Lit.int .i64 z).wf = true := by
  have h1 : IntKind.i64.min ≤ z := by have : IntKind.i64.min = -9223372036854775808 := by decide
                                      omega
  have h2 : z ≤ IntKind.i64.max := by have : IntKind.i64.max = 9223372036854775807 := by decide
                                      omega
  unfold Lit.wf
  rw [Bool.and_eq_true, decide_eq_true_eq, decide_eq_true_eq]
  exact ⟨h1, h2⟩
theorem types_succ : Tryd.prog.types.size + 1 = (Tryd.prog.types.size - 1) + 1 + 1 := by
  have : 87 < Tryd.prog.types.size := row87
  omega
theorem keyLits3 (d : Nat) {z : Int} (h : (Lit.int .i64 z).wf = true) : Tryd.prog.keyLits (d + 1) 3 [.int .i64 z] = some [.int .i64 z] := by
  unfold Program.keyLits
  rw [Tryd.underlying3]
  simp [h]
theorem keyLits87 (d : Nat) {a b c : Int} (ha : (Lit.int .i64 a).wf = true) (hb : (Lit.int .i64 b).wf = true) (hc : (Lit.int .i64 c).wf = true) :
    Tryd.prog.keyLits (d + 1 + 1) 87 [.int .i64 a, .int .i64 b, .int .i64 c] = some [.int .i64 a, .int .i64 b, .int .i64 c] := by
  have c3 : Tryd.prog.cellsOf 3 = 1 := by kernel_rfl
  have r3 : List.range 3 = [0, 1, 2] := by decide
  have k1 := keyLits3 d ha
  have k2 := keyLits3 d hb
  have k3 := keyLits3 d hc
  generalize hK : Tryd.prog.keyLits (d + 1) = K at *
  unfold Program.keyLits
  rw [Tryd.underlying87]
  simp only [cells87, c3, r3, hK]
  simp [k1, k2, k3]
theorem keyOf_sp {c : Sp} (h : InR c) : keyOf Tryd.prog 87 (spv c) = some (kl c) := by
  obtain ⟨p, x, y⟩ := c
  have hf : (spv (p, x, y)).formed Tryd.prog 87 = true := by simp [spv, Value.formed, Tryd.underlying87, cells87]
  unfold keyOf
  rw [Tryd.underlying87]
  simp only [keyType87, hf, Bool.and_self, if_true]
  rw [types_succ]
  rw [show (spv (p, x, y)).cells.toList = [.int .i64 p, .int .i64 x, .int .i64 y] from rfl, keyLits87 _ (wf64 h.1) (wf64 h.2.1) (wf64 h.2.2)]
  rfl
theorem spv_inj {c d : Sp} (h : spv c = spv d) : c = d := by
  obtain ⟨a, b, e⟩ := c
  obtain ⟨a', b', e'⟩ := d
  simp [spv] at h
  obtain ⟨rfl, rfl, rfl⟩ := h
  rfl
theorem kl_key (c : Sp) : WideAt.IsKeyLit (kl c) := trivial
theorem kl_inj {c d : Sp} (hc : InR c) (hd : InR d) (h : kl c = kl d) : c = d :=
  spv_inj (K87.inj (keyOf_sp hc) (h ▸ keyOf_sp hd))
theorem kl_same {c d : Sp} (hc : InR c) (hd : InR d) : (kl c).sameKey (kl d) = decide (c = d) := by
  by_cases h : c = d
  · subst h
    rw [WideAt.sameKey_self (kl_key c)]; simp
  · have : (kl c).sameKey (kl d) = false := by
      cases e : (kl c).sameKey (kl d)
      · rfl
      · exact absurd (kl_inj hc hd (WideAt.sameKey_eq e)) h
    rw [this]; simp [h]

/-! ### Sets of cells -/
/-- the datum of a map reads as a set of cells -/
structure SetD (D : DataW Unit) (L : List Sp) : Prop where
  nodup : L.Nodup
  inR : ∀ c ∈ L, InR c
  has : ∀ k, Maps.has D k = L.any fun c => (kl c).sameKey k
  size : Maps.size D = L.length
  at' : ∀ c ∈ L, ∀ z, D.atKey (kl c) z = .lit (.bool true)
theorem SetD.has_kl {D : DataW Unit} {L : List Sp} (h : SetD D L) {c : Sp} (hc : InR c) : Maps.has D (kl c) = decide (c ∈ L) := by
  rw [h.has, Bool.eq_iff_iff, List.any_eq_true, decide_eq_true_eq]
  constructor
  · rintro ⟨d, hd, e⟩
    rw [kl_same (h.inR d hd) hc, decide_eq_true_eq] at e
    exact e ▸ hd
  · intro hm
    exact ⟨c, hm, by rw [kl_same hc hc]; simp⟩
theorem SetD.atKey {D : DataW Unit} {L : List Sp} (h : SetD D L) {c : Sp} (hc : InR c) : D.atKey (kl c) (.lit (.bool false)) = .lit (.bool (decide (c ∈ L))) := by
  by_cases hm : c ∈ L
  · rw [h.at' c hm]; simp [hm]
  · rw [Maps.atKey_of_not_has (by rw [h.has_kl hc]; simpa using hm)]; simp [hm]
theorem setD_nil : SetD (.map []) [] := ⟨List.nodup_nil, fun _ h => by simp at h, fun _ => rfl, rfl, fun _ h => by simp at h⟩
theorem setD_put {D : DataW Unit} {L : List Sp} (h : SetD D L) (ht : Maps.Tidy D) {c : Sp} (hc : InR c) (hm : c ∉ L) : SetD (D.put (kl c) (.lit (.bool true))) (L ++ [c]) := by
  have hD : Maps.IsMap D := ⟨_, ht.choose_spec.1⟩
  have hh : Maps.has D (kl c) = false := by rw [h.has_kl hc]; simpa using hm
  refine ⟨?_, ?_, ?_, ?_, ?_⟩
  · rw [List.nodup_append]
    refine ⟨h.nodup, by simp, fun a ha b hb e => ?_⟩
    simp at hb
    subst hb
    exact hm (e ▸ ha)
  · intro d hd
    rcases List.mem_append.1 hd with hd | hd
    · exact h.inR d hd
    · simp at hd; exact hd ▸ hc
  · intro k
    rw [List.any_append, List.any_cons, List.any_nil, Bool.or_false, ← h.has]
    by_cases e : k = kl c
    · rw [e, Maps.has_put_same hD (kl_key c), WideAt.sameKey_self (kl_key c)]; simp
    · rw [Maps.has_put_other e]
      have : (kl c).sameKey k = false := by
        cases e2 : (kl c).sameKey k
        · rfl
        · exact absurd (WideAt.sameKey_eq e2).symm e
      rw [this]; simp
  · rw [Maps.size_put ht, hh, List.length_append, h.size]; rfl
  · intro d hd z
    rcases List.mem_append.1 hd with hd | hd
    · rw [Maps.atKey_put_other (fun e => hm (kl_inj (h.inR d hd) hc e ▸ hd)), h.at' d hd]
    · simp at hd
      subst hd
      rw [Maps.atKey_put_same hD (kl_key _)]
theorem setD_del {D : DataW Unit} {L : List Sp} (h : SetD D L) (ht : Maps.Tidy D) {c : Sp} (hc : InR c) (hm : c ∈ L) : SetD (D.del (kl c)) (L.erase c) := by
  have hh : Maps.has D (kl c) = true := by rw [h.has_kl hc]; simpa using hm
  refine ⟨h.nodup.erase _, fun d hd => h.inR d (List.mem_of_mem_erase hd), ?_, ?_, ?_⟩
  · intro k
    by_cases e : k = kl c
    · rw [e, Maps.has_del_same]
      symm
      rw [List.any_eq_false]
      intro d hd
      rw [kl_same (h.inR d (List.mem_of_mem_erase hd)) hc]
      simp only [decide_eq_true_eq]
      intro e2
      exact (List.Nodup.mem_erase_iff h.nodup).1 hd |>.1 e2
    · rw [Maps.has_del_other e, h.has, Bool.eq_iff_iff, List.any_eq_true, List.any_eq_true]
      constructor
      · rintro ⟨d, hd, hk⟩
        refine ⟨d, (List.Nodup.mem_erase_iff h.nodup).2 ⟨fun e2 => e ?_, hd⟩, hk⟩
        rw [← WideAt.sameKey_eq hk, e2]
      · rintro ⟨d, hd, hk⟩
        exact ⟨d, List.mem_of_mem_erase hd, hk⟩
  · have := Maps.size_del (k := kl c) ht
    rw [hh, h.size] at this
    rw [List.length_erase_of_mem hm]
    simp at this
    omega
  · intro d hd z
    have h2 := (List.Nodup.mem_erase_iff h.nodup).1 hd
    rw [Maps.atKey_del_other (fun e => h2.1 (kl_inj (h.inR d h2.2) hc e)), h.at' d h2.2]

/-- block b is a map that reads as a set of cells -/
def SetW (W : World) (b : Nat) (L : List Sp) : Prop := ∃ D, W.ownsMap (H := Unit) Tryd.prog 87 (plainElem Tryd.prog 4) b L.length D ∧ SetD D L
theorem setW_made (W : World) : SetW (W.alloc (.map #[] 0)) W.heap.size [] := ⟨_, World.ownsMap_made W Tryd.prog 87 _, setD_nil⟩
theorem setW_lt {W : World} {b : Nat} {L : List Sp} (h : SetW W b L) : b < W.heap.size := by
  obtain ⟨D, h, _⟩ := h
  exact h.lt
theorem setW_kept {W W' : World} {b : Nat} {L : List Sp} {row : Option Nat} (h : SetW W b L) (hg : W.grownBy W' row) (hr : some b ≠ row) : SetW W' b L := by
  obtain ⟨D, h, hD⟩ := h
  exact ⟨D, h.kept hg hr, hD⟩
theorem setW_below {W W' : World} {b B : Nat} {L : List Sp} (h : SetW W b L) (hb : Below B W W') (hB : b < B) : SetW W' b L := by
  obtain ⟨D, ⟨es, clock, hh, F, hs, hE⟩, hD⟩ := h
  exact ⟨D, ⟨es, clock, (hb.block b hB).trans hh, F, hs, hE⟩, hD⟩
theorem setW_perm {W : World} {b : Nat} {L L' : List Sp} (h : SetW W b L) (hp : L'.Perm L) : SetW W b L' := by
  obtain ⟨D, h, hD⟩ := h
  refine ⟨D, by rw [hp.length_eq]; exact h, hp.nodup_iff.2 hD.nodup, fun c hc => hD.inR c (hp.mem_iff.1 hc), fun k => ?_, by rw [hp.length_eq]; exact hD.size, fun c hc => hD.at' c (hp.mem_iff.1 hc)⟩
  rw [hD.has, Bool.eq_iff_iff, List.any_eq_true, List.any_eq_true]
  exact ⟨fun ⟨x, hx, e⟩ => ⟨x, hp.mem_iff.2 hx, e⟩, fun ⟨x, hx, e⟩ => ⟨x, hp.mem_iff.1 hx, e⟩⟩
theorem zero4 (w : World) : (zeroValue 4).run Tryd.prog w = .ok (.bool false) w := by kernel_rfl
theorem zero3 (w : World) : (zeroValue 3).run Tryd.prog w = .ok (.int .i64 0) w := by kernel_rfl
theorem setW_look {W : World} {b : Nat} {L : List Sp} (h : SetW W b L) {c : Sp} (hc : InR c) : (Instr.lookup 90 (.map (some b)) (spv c) false).run Tryd.prog W = .ok (.bool (decide (c ∈ L))) W := by
  obtain ⟨D, h, hD⟩ := h
  obtain ⟨v, ps, hr, hv⟩ := h.lookup K87 Tryd.underlying90 (zero4 W) (zd := .lit (.bool false)) (zp := []) (by simp [plainElem, Tryd.underlying4]) (keyOf_sp hc)
  rw [hD.atKey hc] at hv
  rw [hr]
  cases v <;> simp [plainElem, Tryd.underlying4] at hv
  rw [hv.1]
theorem setW_put {W : World} {b : Nat} {L : List Sp} (h : SetW W b L) {c : Sp} (hc : InR c) (hm : c ∉ L) (hn : L.length < 1000000) :
    ∃ W', (Instr.mapUpdate 90 (.map (some b)) (spv c) (.bool true)).run Tryd.prog W = .ok () W' ∧ SetW W' b (L ++ [c]) ∧ W.grownBy W' (some b) ∧ W'.heap.size = W.heap.size := by
  obtain ⟨D, h, hD⟩ := h
  obtain ⟨W', hr, h2, h3⟩ := h.store K87 Tryd.underlying90 (by unfold maxLen; omega) (keyOf_sp hc) (d := .lit (.bool true)) (ps := []) (val := .bool true) (by simp [plainElem, Tryd.underlying4])
  refine ⟨W', hr, ⟨_, by rw [List.length_append]; exact h2, setD_put hD (h.tidy K87) hc hm⟩, h3.grown, ?_⟩
  obtain ⟨es, clock, es', clock', _, rfl⟩ := h3
  simp [ChangeMaps.setBlock]
theorem setW_del {W : World} {b : Nat} {L : List Sp} (h : SetW W b L) {c : Sp} (hc : InR c) (hm : c ∈ L) (ty : TypeId) :
    ∃ W', (Builtin.delete_ #[90, 87] ty #[.map (some b), spv c]).run Tryd.prog W = .ok (.tuple #[]) W' ∧ SetW W' b (L.erase c) ∧ W.grownBy W' (some b) ∧ W'.heap.size = W.heap.size := by
  obtain ⟨D, h, hD⟩ := h
  obtain ⟨W', hr, h2, h3⟩ := h.drop K87 Tryd.underlying90 (keyOf_sp hc) ty
  have hD2 := setD_del hD (h.tidy K87) hc hm
  refine ⟨W', hr, ⟨_, ?_, hD2⟩, h3.grown, ?_⟩
  · obtain ⟨es, clock, hb, F, _, hE⟩ := h2
    refine ⟨es, clock, hb, F, ?_, hE⟩
    rw [← hD2.size, hE]
    simp [Maps.size, length_sorted]
  · obtain ⟨es, clock, es', clock', _, rfl⟩ := h3
    simp [ChangeMaps.setBlock]
theorem setW_len {W : World} {b : Nat} {L : List Sp} (h : SetW W b L) (ty : TypeId) : (Builtin.len_ #[90] ty #[.map (some b)]).run Tryd.prog W = .ok (.int .i64 L.length) W := by
  obtain ⟨D, h, hD⟩ := h
  rw [h.len Tryd.underlying90 ty, hD.size]

/-! ### Maps of cells to numbers -/
structure NumD (D : DataW Unit) (f : Sp → Option Nat) : Prop where
  has : ∀ c, InR c → Maps.has D (kl c) = (f c).isSome
  at' : ∀ c, InR c → ∀ n, f c = some n → ∀ z, D.atKey (kl c) z = .lit (.int .i64 n)
def NumW (W : World) (b n : Nat) (f : Sp → Option Nat) : Prop := ∃ D, W.ownsMap (H := Unit) Tryd.prog 87 (plainElem Tryd.prog 3) b n D ∧ NumD D f
theorem numW_made (W : World) : NumW (W.alloc (.map #[] 0)) W.heap.size 0 (fun _ => none) := ⟨_, World.ownsMap_made W Tryd.prog 87 _, fun _ _ => rfl, fun _ _ _ h => by cases h⟩
theorem numW_lt {W : World} {b n : Nat} {f : Sp → Option Nat} (h : NumW W b n f) : b < W.heap.size := by
  obtain ⟨D, h, _⟩ := h
  exact h.lt
theorem numW_kept {W W' : World} {b n : Nat} {f : Sp → Option Nat} {row : Option Nat} (h : NumW W b n f) (hg : W.grownBy W' row) (hr : some b ≠ row) : NumW W' b n f := by
  obtain ⟨D, h, hD⟩ := h
  exact ⟨D, h.kept hg hr, hD⟩
theorem numW_below {W W' : World} {b B n : Nat} {f : Sp → Option Nat} (h : NumW W b n f) (hb : Below B W W') (hB : b < B) : NumW W' b n f := by
  obtain ⟨D, ⟨es, clock, hh, F, hs, hE⟩, hD⟩ := h
  exact ⟨D, ⟨es, clock, (hb.block b hB).trans hh, F, hs, hE⟩, hD⟩
theorem numW_put {W : World} {b n : Nat} {f : Sp → Option Nat} (h : NumW W b n f) {c : Sp} (hc : InR c) (m : Nat) (hmm : m ≤ 1000000) (hn : n < 1000000000) :
    ∃ W', (Instr.mapUpdate 91 (.map (some b)) (spv c) (.int .i64 m)).run Tryd.prog W = .ok () W' ∧ NumW W' b (n + 1) (fun d => if d = c then some m else f d) ∧ W.grownBy W' (some b) ∧ W'.heap.size = W.heap.size := by
  obtain ⟨D, h, hD⟩ := h
  obtain ⟨W', hr, h2, h3⟩ := h.store K87 Tryd.underlying91 (by unfold maxLen; omega) (keyOf_sp hc) (d := .lit (.int .i64 m)) (ps := []) (val := .int .i64 m) (plainElem_int Tryd.underlying3 (wf64 (by omega)))
  refine ⟨W', hr, ⟨_, h2, fun d hd => ?_, fun d hd k hk z => ?_⟩, h3.grown, ?_⟩
  · by_cases e : d = c
    · rw [e, Maps.has_put_same h.isMap (kl_key c)]; simp
    · rw [Maps.has_put_other (fun e2 => e (kl_inj hd hc e2)), hD.has d hd]; simp [e]
  · by_cases e : d = c
    · subst e
      rw [if_pos rfl] at hk
      cases hk
      rw [Maps.atKey_put_same h.isMap (kl_key d)]
    · rw [if_neg e] at hk
      rw [Maps.atKey_put_other (fun e2 => e (kl_inj hd hc e2)), hD.at' d hd k hk]
  · obtain ⟨es, clock, es', clock', _, rfl⟩ := h3
    simp [ChangeMaps.setBlock]
theorem numW_look {W : World} {b n : Nat} {f : Sp → Option Nat} (h : NumW W b n f) {c : Sp} (hc : InR c) :
    (Instr.lookup 91 (.map (some b)) (spv c) true).run Tryd.prog W = .ok (.tuple #[.int .i64 ((f c).getD 0 : Nat), .bool (f c).isSome]) W := by
  obtain ⟨D, h, hD⟩ := h
  obtain ⟨v, ps, hr, hv⟩ := h.look_ok K87 Tryd.underlying91 (zero3 W) (zd := .lit (.int .i64 0)) (zp := []) (plainElem_int Tryd.underlying3 (by decide)) (keyOf_sp hc)
  rw [hr, hD.has c hc]
  obtain ⟨q, rfl, h1, _⟩ := plainElem_int_inv Tryd.underlying3 hv
  simp only [Prod.mk.injEq] at h1
  have e : q = ((f c).getD 0 : Nat) := by
    cases hf : f c with
    | none =>
      rw [Maps.atKey_of_not_has (by rw [hD.has c hc, hf]; rfl)] at h1
      simp only [DataW.lit.injEq, Lit.int.injEq, true_and] at h1
      rw [← h1.1]; rfl
    | some m =>
      rw [hD.at' c hc m hf] at h1
      simp only [DataW.lit.injEq, Lit.int.injEq, true_and] at h1
      rw [← h1.1]; rfl
  rw [e]
end Go.Proofs.YtjonbhimbhidpaaDoor
