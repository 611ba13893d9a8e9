/-
  Words on memory: rows of the call's own; appends; rows of structs.
  Maps whose keys are bytes: sorted lists of pairs. Plain.
  Maps whose keys are bytes: their values turned.
  The disk, in plain words.
  What a store writes, in plain words: numbers, blocks, changes, tables, heads.
  A store is opened, in plain words.
  Numbers in eight bytes; blocks; plain.
  The entries of a store, in plain words.
  What a store finds on its disk after a power failure, in plain words.
  Acts one after the other; a head is replaced; in plain words.
-/
import Derived.Test.YtpenleogafdbhaaGreatDoorProg
import Derived.WalkKit
import Derived.WalkSpells
import Derived.WalkLawsBesides
import Derived.Deep.QuietTactic
import Derived.BigQuiet
import Derived.Deep.RegionWith
import Derived.Deep.RegionHeld3
import Derived.Deep.DrawnRows
import Derived.Deep.DeepCutAuto
import Derived.Laws.BitsAllLaws
import Derived.Laws.BitsLemmas
import Derived.WideShapes
import Derived.WideAt
import Derived.Maps.Ext
import Derived.Lib.ItoaNum
import Derived.Lib.Atoi
namespace Go.Proofs.YtpenleogafdbhaaGreatDoor
open Go.RowKit
theorem hid {p : Prop} (h : p) : Hid p := h
theorem heap_lt {W : World} {g : Nat} {x : Obj} (h : W.heap[g]? = some x) : g < W.heap.size := (Array.getElem?_eq_some_iff.1 h).1
theorem add_block (a : Addr) (i : Nat) : (a.add i).block = a.block := by
  unfold Addr.add; split <;> rfl
theorem box1 {W : World} {g : Nat} {v : Value} {t : TypeId} (h : W.heap[g]? = some (.cells #[v] t)) : W.cell? ⟨g, 0, none⟩ = some v := by simp [World.cell?, h]
theorem box1_free {W : World} {g : Nat} {v : Value} {t : TypeId} (h : W.heap[g]? = some (.cells #[v] t)) : W.frozen? ⟨g, 0, none⟩ = false := by simp [World.frozen?, h]
theorem heap_setCell1 {W : World} {g : Nat} {v u : Value} {t : TypeId} (h : W.heap[g]? = some (.cells #[v] t)) : (W.setCell ⟨g, 0, none⟩ u).heap[g]? = some (.cells #[u] t) := by
  simp [World.setCell, Array.getElem?_modify, h]
theorem cells2_of {W : World} {g : Nat} {a b : Value} {t : TypeId} (h : W.heap[g]? = some (.cells #[a, b] t)) : W.cell? ⟨g, 0, none⟩ = some a ∧ W.cell? ⟨g, 1, none⟩ = some b := by
  constructor <;> simp [World.cell?, h]
theorem cells3_of {W : World} {g : Nat} {a b c : Value} {t : TypeId} (h : W.heap[g]? = some (.cells #[a, b, c] t)) : W.cell? ⟨g, 0, none⟩ = some a ∧ W.cell? ⟨g, 1, none⟩ = some b ∧ W.cell? ⟨g, 2, none⟩ = some c := by
  refine ⟨?_, ?_, ?_⟩ <;> simp [World.cell?, h]
theorem free3_of {W : World} {g : Nat} {cs : Array Value} {t : TypeId} (h : W.heap[g]? = some (.cells cs t)) : W.frozen? ⟨g, 0, none⟩ = false ∧ W.frozen? ⟨g, 1, none⟩ = false ∧ W.frozen? ⟨g, 2, none⟩ = false := by
  refine ⟨?_, ?_, ?_⟩ <;> simp [World.frozen?, h]
theorem below_step {A a b : World} (h1 : Below A.heap.size A a) (h2 : Below a.heap.size a b) : Below A.heap.size A b := h1.trans (h2.mono h1.size)
theorem below_drewN_r {B : Nat} {w w' : World} (h : Below B w w') (n : Nat) : Below B w (w'.drewN n) := h.trans ⟨rfl, rfl, rfl, Nat.le_refl _, fun _ _ => rfl⟩
theorem below_grown {w w' : World} (h : Below w.heap.size w w') : w.grownBy w' none := ⟨h.os, h.tape, h.output, h.size, fun k hk _ => h.block k hk⟩
theorem grown_below {a b c : World} {row : Option Nat} (h : a.grownBy b row) (k : Below a.heap.size b c) : a.grownBy c row :=
  ⟨k.os.trans h.os, k.tape.trans h.tape, k.output.trans h.output, Nat.le_trans h.size k.size, fun j hj hn => (k.block j hj).trans (h.block j hj hn)⟩
theorem run_app {P : Program} (w : World) (base : Nat) (t ty e : TypeId) (i : TypeInfo) (z : Value) (size bytes : Nat) (ht : P.underlying t = some (.slice e)) (hi : P.info? e = some i) (hz : i.zero = some z)
    (hsize : i.size = size) (hby : i.bytes = bytes) (hzs : z.cells.size = size) (hsz : 0 < size)
    (v : Value) (n : Nat) (xs : List Value) (hown : w.ownsRow base e size v n xs)
    (a : Addr) (m c : Nat) (news : List Value) (hm0 : 0 < m) (hl : news.length = m * size) (hnews : ∀ (j : Nat) u, news[j]? = some u → w.cell? (a.add j) = some u) (h1 : ∀ u ∈ news, u.oneCell' = true)
    (h63 : n + m ≤ maxLen) (hbytes : (n + m) * bytes ≤ 140737488355328) (hbase : base ≤ w.heap.size) :
    ∃ v' w', (Builtin.append_ #[t, t] ty #[v, .slice (some a) m c]).run P w = .ok v' w' ∧ w'.ownsRow base e size v' (n + m) (xs ++ news) ∧ w.grownBy w' v.ownBlock ∧
      (v'.ownBlock = v.ownBlock ∨ v'.ownBlock = some w.heap.size) := by
  obtain ⟨v', w', hr, h2, h3, _⟩ := run_append_own (P := P) w base t ty e i z size bytes ht hi hz hsize hby hzs hsz v n xs hown a m c news hl hnews h1 h63 hbytes hbase
  refine ⟨v', w', hr, h2, h3, ?_⟩
  subst hsize
  subst hby
  simp only [maxLen] at h63
  rcases hown.2 with ⟨rfl, rfl⟩ | ⟨g, cap, cur, rfl, hbg, hg, hnc, hcm, hcs, htake⟩
  · have hr2 := run_append_nil (P := P) w t ty e i z ht hi hz a m c news hl hnews hm0 (by omega) (by simp only [Nat.zero_add] at hbytes; omega)
    rw [hr2] at hr
    injection hr with e1 _
    subst e1
    exact .inr rfl
  · by_cases hroom : n + m ≤ cap
    · have hfit : n * i.size + news.length ≤ cur.size := by rw [hl, hcs, ← Nat.add_mul]; exact Nat.mul_le_mul_right _ hroom
      have hr2 := run_append_room (P := P) w t ty e i ht hi g n cap cur hg a m c news hl hnews h1 hroom hfit
      rw [hr2] at hr
      injection hr with e1 _
      subst e1
      exact .inl rfl
    · have holds : ∀ (j : Nat) u, xs[j]? = some u → w.cell? ((⟨g, 0, none⟩ : Addr).add j) = some u := hown.cells (g := g) rfl
      have hr2 := run_append_grow (P := P) w t ty e i z ht hi hz ⟨g, 0, none⟩ n cap xs hown.1 holds a m c news hl hnews (by omega) (by omega) (growslice_fits (by omega) hbytes)
      rw [hr2] at hr
      injection hr with e1 _
      subst e1
      exact .inr rfl
/-- what an append leaves: the world has grown, of what was there the row that was appended to alone may have turned -/
structure AppTo (w : World) (v : Value) (w' : World) (v' : Value) : Prop where
  grown : w.grownBy w' v.ownBlock
  block : v'.ownBlock = v.ownBlock ∨ v'.ownBlock = some w.heap.size
theorem below_app {w w' : World} {v v' : Value} {B : Nat} (ha : AppTo w v w' v') (hB : B ≤ w.heap.size) (hv : ∀ k, v.ownBlock = some k → B ≤ k) : Below B w w' :=
  (Below.refl B w).grown ha.grown hB hv
/-- append of one value of 'size' cells, that the walk has just laid in a block of its own -/
theorem wpl_appn {P : Program} {ops : Array Oper} {rest : List Oper} {o : Oper} {a : Act} {Q : Exit → Act → World → Prop} {W : World}
    (hgd : o.guard = none) (s x : Operand) (t e : TypeId) (ho : o.op = .call { callee := .builtin .append, args := #[s, x], argTypes := #[t, t] })
    (z : Value) (size bytes : Nat) (hi : (P.info? e).map (fun i => (i.zero, i.size, i.bytes)) = some (some z, size, bytes)) (hz : z.cells.size = size) (hsz : 0 < size)
    (ht : P.underlying t = some (.slice e)) (v : Value) (B n : Nat) (xs : List Value) (hs : a.eval s = v) (hown : W.ownsRow B e size v n xs)
    (us : List Value) (hul : us.length = size) (hu : ∀ u ∈ us, u.oneCell' = true) (hx : a.eval x = .slice (some ⟨W.heap.size, 0, none⟩) 1 1)
    (hlen : (n + 1) * bytes ≤ 140737488355328) (hl2 : n + 1 ≤ maxLen) (hB : B ≤ W.heap.size)
    (h : ∀ v' w', w'.ownsRow B e size v' (n + 1) (xs ++ us) → AppTo (W.alloc (.cells us.toArray e)) v w' v' → wpList P ops Q rest (a.put o.dst v') w') :
    wpList P ops Q (o :: rest) a (W.alloc (.cells us.toArray e)) := by
  cases hi0 : P.info? e with
  | none => rw [hi0] at hi; cases hi
  | some i =>
    rw [hi0] at hi
    simp only [Option.map_some, Option.some.injEq, Prod.mk.injEq] at hi
    obtain ⟨h1, h2, h3⟩ := hi
    have hcells : ∀ (j : Nat) u, us[j]? = some u → (W.alloc (.cells us.toArray e)).cell? ((⟨W.heap.size, 0, none⟩ : Addr).add j) = some u := by
      intro j u hu
      have hadd : (⟨W.heap.size, 0, none⟩ : Addr).add j = ⟨W.heap.size, j, none⟩ := by unfold Addr.add; split <;> simp_all
      rw [hadd, World.cell?, heap_alloc_new]
      simpa using hu
    obtain ⟨v', w', hr, g1, g2, g3⟩ := run_app (P := P) (W.alloc (.cells us.toArray e)) B t o.type e i z size bytes ht hi0 h1 h2 h3 hz hsz v n xs (World.ownsRow.alloc hown _)
      ⟨W.heap.size, 0, none⟩ 1 1 us (by decide) (by rw [hul]; simp) hcells hu hl2 hlen (by simp; omega)
    refine wpList_plain hgd fun K hK => ?_
    unfold Oper.wp execOp
    simp only [ho, resolve, invoke, builtin, Sem.run_bind, Sem.run_pure, Result.andThen_ok, List.map_toArray, List.map_cons, List.map_nil, hs, hx, hr]
    exact hK _ _ (h v' w' g1 ⟨g2, g3⟩)
theorem app_below {w w' : World} {v v' : Value} {B : Nat} (ha : AppTo w v w' v') (hB : B ≤ w.heap.size) (hv : ∀ k, v.ownBlock = some k → B ≤ k) : Below B w w' := (Below.refl B w).grown ha.grown hB hv
theorem row_mono {w : World} {B B' n size : Nat} {e : TypeId} {v : Value} {xs : List Value} (h : w.ownsRow B e size v n xs) (hb : B' ≤ B) : w.ownsRow B' e size v n xs := by
  obtain ⟨h1, h2⟩ := h
  refine ⟨h1, h2.imp_right ?_⟩
  rintro ⟨g, cap, cur, rfl, hB, r⟩
  exact ⟨g, cap, cur, rfl, Nat.le_trans hb hB, r⟩
theorem row_below {w w' : World} {B n size : Nat} {e : TypeId} {v : Value} {xs : List Value} (h : w.ownsRow B e size v n xs) (hb : Below w.heap.size w w') : w'.ownsRow B e size v n xs := by
  have hlt := h.lt
  obtain ⟨h1, h2⟩ := h
  refine ⟨h1, h2.imp_right ?_⟩
  rintro ⟨g, cap, cur, rfl, hB, hh, r⟩
  exact ⟨g, cap, cur, rfl, hB, by rw [hb.block g (hlt g rfl).2]; exact hh, r⟩
theorem row_slice {w : World} {B n size : Nat} {e : TypeId} {v : Value} {xs : List Value} (h : w.ownsRow B e size v n xs) : ∃ a c, v = .slice a n c := by
  obtain ⟨_, ⟨rfl, h2⟩ | ⟨g, cap, cur, rfl, _⟩⟩ := h
  · exact ⟨none, 0, by rw [h2]⟩
  · exact ⟨_, _, rfl⟩
theorem row_cells1 {w : World} {B n : Nat} {e : TypeId} {v : Value} {xs : List Value} (h : w.ownsRow B e 1 v n xs) : ∃ a c, v = .slice a n c ∧ n ≤ maxLen ∧ xs.length = n ∧ ∀ i, i < n → ∃ g, a = some ⟨g, 0, none⟩ ∧ w.cell? ⟨g, i, none⟩ = xs[i]? ∧ ∃ cs, w.heap[g]? = some (.cells cs e) := by
  obtain ⟨h1, h2 | ⟨g, cap, cur, rfl, hB, hh, hn, hm, hs, ht⟩⟩ := h
  · obtain ⟨rfl, h0⟩ := h2
    refine ⟨none, 0, by rw [h0], by omega, by omega, fun i hi => by omega⟩
  · refine ⟨_, cap, rfl, by omega, by omega, fun i hi => ⟨g, rfl, ?_, cur, hh⟩⟩
    rw [World.cell?, hh, ← ht, List.getElem?_take, if_pos (by omega)]
    simp
theorem row_type {w : World} {B n size : Nat} {e : TypeId} {v : Value} {xs : List Value} (h : w.ownsRow B e size v n xs) : ∀ k, v.ownBlock = some k → ∃ cs, w.heap[k]? = some (.cells cs e) := by
  obtain ⟨_, ⟨rfl, h2⟩ | ⟨g, cap, cur, rfl, hB, hh, _⟩⟩ := h
  · intro k hk; simp [Value.ownBlock] at hk
  · intro k hk
    simp [Value.ownBlock] at hk
    subst hk
    exact ⟨_, hh⟩
theorem row_other {W W' : World} {B n size : Nat} {e e' : TypeId} {q : Value} {xs : List Value} {row : Option Nat} (h : W.ownsRow B e size q n xs) (hg : W.grownBy W' row) (ht : ∀ k, row = some k → ∃ cs, W.heap[k]? = some (.cells cs e')) (hne : e ≠ e') : W'.ownsRow B e size q n xs := by
  have hqt := row_type h
  refine World.ownsRow.kept h hg ?_
  cases hk : q.ownBlock with
  | none => exact .inl rfl
  | some k =>
    refine .inr fun e2 => ?_
    obtain ⟨c1, e1⟩ := hqt k hk
    obtain ⟨c2, e2⟩ := ht k e2.symm
    rw [e1] at e2
    simp only [Option.some.injEq, Obj.cells.injEq] at e2
    exact hne e2.2.1
/-- the value src reads as m elements, of size cells each -/
def Rd (w : World) (src : Value) (m size : Nat) (us : List Value) : Prop :=
  us.length = m * size ∧ (∀ u ∈ us, u.oneCell' = true) ∧ ((src = .slice none 0 0 ∧ m = 0) ∨ ∃ ad c, src = .slice (some ad) m c ∧ (0 < us.length → ad.block < w.heap.size) ∧ ∀ j u, us[j]? = some u → w.cell? (ad.add j) = some u)
theorem rd_below {w w' : World} {src : Value} {m size : Nat} {us : List Value} (h : Rd w src m size us) (hb : Below w.heap.size w w') : Rd w' src m size us := by
  obtain ⟨h1, h2, h3⟩ := h
  refine ⟨h1, h2, h3.imp_right ?_⟩
  rintro ⟨ad, c, rfl, hlt, hc⟩
  exact ⟨ad, c, rfl, fun h0 => Nat.lt_of_lt_of_le (hlt h0) hb.size, fun j u hj => (hb.cell (by rw [add_block]; exact hlt (by have := (List.getElem?_eq_some_iff.1 hj).1; omega))).trans (hc j u hj)⟩
theorem row_of_block {w : World} {B g size : Nat} {e : TypeId} (h : w.heap[g]? = some (.cells #[] e)) (hB : B ≤ g) : w.ownsRow B e size (.slice (some ⟨g, 0, none⟩) 0 0) 0 [] :=
  ⟨by simp, .inr ⟨g, 0, #[], rfl, hB, h, Nat.le_refl _, by decide, by simp, by simp⟩⟩
/-- append of some elements to an empty slice, at a step of a region that draws its order -/
theorem step_app {ops : Array Oper} {o : Oper} {a : Act} {K : Act → World → Prop} {Q : Exit → Act → World → Prop} {E : Prop} {W : World}
    (B : Nat) (s x : Operand) (t e : TypeId) (z : Value) (size bytes : Nat) (hi : (Tryz.prog.info? e).map (fun i => (i.zero, i.size, i.bytes)) = some (some z, size, bytes)) (hz : z.cells.size = size) (hsz : 0 < size)
    (ht : Tryz.prog.underlying t = some (.slice e)) (g m : Nat) (us : List Value) (src : Value)
    (hgd : o.guard = none) (ho : o.op = .call { callee := .builtin .append, args := #[s, x], argTypes := #[t, t] })
    (hs : a.eval s = .slice (some ⟨g, 0, none⟩) 0 0) (hx : a.eval x = src) (hsrc : Rd W src m size us) (hg : W.heap[g]? = some (.cells #[] e)) (hB : B ≤ g)
    (hlen : m * bytes ≤ 100000000 ∧ m ≤ 1000000)
    (h : ∀ sa sn sc w', Hid (w'.ownsRow B e size (.slice sa sn sc) m us) → Hid (W.grownBy w' (some g)) → K (a.put o.dst (.slice sa sn sc)) w') :
    if Region.wanted o (yielded ops a.tmps) = true then Oper.wp Tryz.prog o a W K Q else E := by
  have hw : Region.wanted o (yielded ops a.tmps) = true := by simp [Region.wanted, hgd]
  rw [if_pos hw]
  cases hi0 : Tryz.prog.info? e with
  | none => rw [hi0] at hi; cases hi
  | some i =>
    rw [hi0] at hi
    simp only [Option.map_some, Option.some.injEq, Prod.mk.injEq] at hi
    obtain ⟨h1, h2, h3⟩ := hi
    have hown : W.ownsRow B e size (.slice (some ⟨g, 0, none⟩) 0 0) 0 [] := row_of_block hg hB
    have hgl := heap_lt hg
    obtain ⟨r1, r2, ⟨rfl, rfl⟩ | ⟨ad, c, rfl, hlt, hc⟩⟩ := hsrc
    · have hr := run_append_owned_none (P := Tryz.prog) W B t o.type e i size ht hi0 _ 0 [] hown
      unfold Oper.wp execOp
      simp only [ho, resolve, invoke, builtin, Sem.run_bind, Sem.run_pure, Result.andThen_ok, List.map_toArray, List.map_cons, List.map_nil, hs, hx, hr]
      have hus : us = [] := List.length_eq_zero_iff.1 (by simpa using r1)
      subst hus
      exact h _ _ _ _ hown ⟨rfl, rfl, rfl, Nat.le_refl _, fun _ _ _ => rfl⟩
    · refine wp_append_own W s x t ho B e i z size bytes ht hi0 h1 h2 h3 hz hsz _ 0 [] hs hown ad m c us hx r1 hc r2 (by unfold maxLen; omega) (by rw [Nat.zero_add]; have := hlen.1; omega) (by omega) ?_
      intro v' w' hv hgr _
      rw [Nat.zero_add, List.nil_append] at hv
      obtain ⟨sa, sc, rfl⟩ := row_slice hv
      exact h _ _ _ _ hv hgr
section
variable {md : Region.Mode} {ops : Array Oper} {Q : Exit → Act → World → Prop} {S : World → Prop} {fuel : Nat} {listed : Array Bool} {a : Act} {w : World} {i : Nat} {o : Oper} {rs : List Nat}
theorem take_at {v : Value} (d : Nat) (hi : ops[i]? = some o) (hs : Region.noSelect ops = true) (hf : Region.free md ops listed i = true) (hr : (Region.ready md ops listed).contains i = true)
    (hd : o.dst = some d) (hQ : ∀ c a w, Q (.panic c) (a.put (some d) v) w → Q (.panic c) a w) (hw : Region.wanted o (yielded ops a.tmps) = true) (hy : ∀ w, S w → (execOp a.eval o).run Tryz.prog w = .ok (.value v) w) (hS : S w)
    (h : wpAnyH Tryz.prog md ops Q S fuel (listed.setIfInBounds i true) (a.put (some d) v) w) : wpAnyH Tryz.prog md ops Q S (fuel + 1) listed a w :=
  wpAnyH_take hi hs hf hr (by rw [hd]; exact hQ) (.inl ⟨hw, hy⟩) hS (by rw [hd]; exact h)
theorem skip_at (d : Nat) (hi : ops[i]? = some o) (hs : Region.noSelect ops = true) (hf : Region.free md ops listed i = true) (hr : (Region.ready md ops listed).contains i = true)
    (hd : o.dst = some d) (hQ : ∀ c a w, Q (.panic c) (a.put (some d) undef) w → Q (.panic c) a w) (hw : Region.wanted o (yielded ops a.tmps) = false) (hS : S w)
    (h : wpAnyH Tryz.prog md ops Q S fuel (listed.setIfInBounds i true) (a.put (some d) undef) w) : wpAnyH Tryz.prog md ops Q S (fuel + 1) listed a w :=
  wpAnyH_take hi hs hf hr (by rw [hd]; exact hQ) (.inr ⟨hw, rfl⟩) hS (by rw [hd]; exact h)
end
/-- the call's own row of one-cell values -/
def OwnV (w : World) (B : Nat) (e : TypeId) (v : Value) (xs : List Value) : Prop := w.ownsRow B e 1 v xs.length xs
theorem ownV_nil (w : World) (B : Nat) (e : TypeId) : OwnV w B e (.slice none 0 0) [] := World.ownsRow_nil _ _ _ _
theorem ownV_made (w : World) (B : Nat) (e : TypeId) (hB : B ≤ w.heap.size) : OwnV (w.alloc (.cells #[] e)) B e (.slice (some ⟨w.heap.size, 0, none⟩) 0 0) [] := World.ownsRow_made w #[] 0 hB (by decide) rfl
theorem ownV_slice {w : World} {B : Nat} {e : TypeId} {v : Value} {xs : List Value} (h : OwnV w B e v xs) : ∃ a c, v = .slice a xs.length c := row_slice h
theorem ownV_sh {w : World} {B : Nat} {e : TypeId} {v : Value} {xs : List Value} (h : OwnV w B e v xs) : ∃ a n c, v = .slice a n c := by
  obtain ⟨a, c, h⟩ := row_slice h
  exact ⟨a, _, c, h⟩
theorem ownV_below {w w' : World} {B : Nat} {e : TypeId} {v : Value} {xs : List Value} (h : OwnV w B e v xs) (hb : Below w.heap.size w w') : OwnV w' B e v xs := row_below h hb
theorem ownV_mono {w : World} {B B' : Nat} {e : TypeId} {v : Value} {xs : List Value} (h : OwnV w B e v xs) (hb : B' ≤ B) : OwnV w B' e v xs := row_mono h hb
theorem ownV_lt {w : World} {B : Nat} {e : TypeId} {v : Value} {xs : List Value} (h : OwnV w B e v xs) : ∀ k, v.ownBlock = some k → B ≤ k ∧ k < w.heap.size := h.lt
/-- the value v reads, in the world w, as some one-cell values -/
def IsV (w : World) (v : Value) (xs : List Value) : Prop :=
  ∃ a c, v = .slice a xs.length c ∧ xs.length ≤ 1000000 ∧ ∀ i, i < xs.length → ∃ g, a = some ⟨g, 0, none⟩ ∧ w.cell? ⟨g, i, none⟩ = some (xs.getD i undef)
theorem isV_below {w w' : World} {v : Value} {xs : List Value} (h : IsV w v xs) (hb : Below w.heap.size w w') : IsV w' v xs := by
  obtain ⟨a, c, rfl, hl, hc⟩ := h
  refine ⟨a, c, rfl, hl, fun i hi => ?_⟩
  obtain ⟨g, ha, hcell⟩ := hc i hi
  exact ⟨g, ha, by rw [hb.cell (World.block_lt_of_cell? w _ hcell)]; exact hcell⟩
theorem ownV_isV {w : World} {B : Nat} {e : TypeId} {v : Value} {xs : List Value} (h : OwnV w B e v xs) (hl : xs.length ≤ 1000000) : IsV w v xs := by
  obtain ⟨a, c, rfl, _, _, hc⟩ := row_cells1 h
  refine ⟨a, c, rfl, hl, fun i hi => ?_⟩
  obtain ⟨g, ha, hcell, _⟩ := hc i hi
  refine ⟨g, ha, hcell.trans ?_⟩
  rw [List.getD_eq_getElem?_getD, List.getElem?_eq_getElem hi]; rfl
theorem isV_at {w : World} {a : Option Addr} {n c : Nat} {xs : List Value} (h : IsV w (.slice a n c) xs) (i : Nat) (hi : i < xs.length) : ∃ g, a = some ⟨g, 0, none⟩ ∧ n = xs.length ∧ w.cell? ⟨g, i, none⟩ = some (xs.getD i undef) := by
  obtain ⟨a', c', hv, _, hc⟩ := h
  cases hv
  obtain ⟨g, h1, h2⟩ := hc i hi
  exact ⟨g, h1, rfl, h2⟩
theorem isV_slice {w : World} {v : Value} {xs : List Value} (h : IsV w v xs) : ∃ a c, v = .slice a xs.length c := by
  obtain ⟨a, c, h, _⟩ := h
  exact ⟨a, c, h⟩
/-- numbers, and sets, as values -/
def iv (i : Nat) : Value := .int .i64 (i : Int)
theorem getD_map {α : Type} (f : α → Value) (xs : List α) (d : α) (i : Nat) (h : i < xs.length) : (xs.map f).getD i undef = f (xs.getD i d) := by
  rw [List.getD_eq_getElem?_getD, List.getElem?_map, List.getElem?_eq_getElem h, List.getD_eq_getElem?_getD, List.getElem?_eq_getElem h]; rfl
theorem wraps62 (n : Int) (h0 : 0 ≤ n) (h1 : n < 2 ^ 62) : IntKind.i64.wrap n = n := by
  rw [IntKind.wrap_i64]; omega
theorem grown_alloc {W w' : World} {o : Obj} {row : Option Nat} (h : (W.alloc o).grownBy w' row) : W.grownBy w' row :=
  ⟨h.os, h.tape, h.output, Nat.le_trans (by simp) h.size, fun j hj hn => (h.block j (by simp; omega) hn).trans (Below.heap_alloc _ _ _ hj)⟩
/-- append of one value of one cell -/
theorem wpl_app_v {ops : Array Oper} {rest : List Oper} {o : Oper} {a : Act} {Q : Exit → Act → World → Prop} {W : World} (t e : TypeId) (z0 : Value) (bytes : Nat)
    (hinf : (Tryz.prog.info? e).map (fun i => (i.zero, i.size, i.bytes)) = some (some z0, 1, bytes)) (hz : z0.cells.size = 1) (ht : Tryz.prog.underlying t = some (.slice e)) (hb24 : bytes ≤ 24)
    (x : Value) (hx1 : x.oneCell' = true) (s y : Operand) (v : Value) (B : Nat) (xs : List Value)
    (hgd : o.guard = none) (ho : o.op = .call { callee := .builtin .append, args := #[s, y], argTypes := #[t, t] })
    (hs : a.eval s = v) (hx : a.eval y = .slice (some ⟨W.heap.size, 0, none⟩) 1 1)
    (hown : OwnV W B e v xs) (hlen : xs.length < 1000000) (hB : B ≤ W.heap.size)
    (h : ∀ v' w', OwnV w' B e v' (xs ++ [x]) → Below B W w' → W.grownBy w' v.ownBlock → wpList Tryz.prog ops Q rest (a.put o.dst v') w') :
    wpList Tryz.prog ops Q (o :: rest) a (W.alloc (.cells #[x] e)) :=
  wpl_appn hgd s y t e ho z0 1 bytes hinf hz (by decide) ht v B xs.length xs hs hown [x] rfl (fun u hu => by simp at hu; rw [hu]; exact hx1) hx
    (by have : (xs.length + 1) * bytes ≤ 1000000 * 24 := Nat.mul_le_mul (by omega) hb24
        omega) (by unfold maxLen; omega) hB
    (fun v' w' h1 h2 => h v' w' (by unfold OwnV; rw [List.length_append]; exact h1) (((Below.refl B W).alloc hB _).trans (app_below h2 (by simp; omega) (fun k hk => (hown.lt k hk).1))) (grown_alloc h2.grown))
theorem ownV_cell {w : World} {B g m c : Nat} {e : TypeId} {xs : List Value} (h : OwnV w B e (.slice (some ⟨g, 0, none⟩) m c) xs) (i : Nat) (hi : i < xs.length) : w.cell? ⟨g, i, none⟩ = some (xs.getD i undef) := by
  obtain ⟨a', c', hv, _, _, hc⟩ := row_cells1 h
  obtain ⟨g', hg, hcell, _⟩ := hc i hi
  cases hv
  cases hg
  refine hcell.trans ?_
  rw [List.getD_eq_getElem?_getD, List.getElem?_eq_getElem hi]; rfl
theorem ownV_frozen {w : World} {B g m c : Nat} {e : TypeId} {xs : List Value} (h : OwnV w B e (.slice (some ⟨g, 0, none⟩) m c) xs) (j : Nat) : w.frozen? ⟨g, j, none⟩ = false := by
  obtain ⟨a', c', hv, _, _, _⟩ := row_cells1 h
  cases hv
  exact World.ownsRow.frozenAt h j
theorem ownV_set {w : World} {B g m c : Nat} {e : TypeId} {xs : List Value} (h : OwnV w B e (.slice (some ⟨g, 0, none⟩) m c) xs) (j : Nat) (x : Value) :
    OwnV (w.setCell ⟨g, j, none⟩ x) B e (.slice (some ⟨g, 0, none⟩) m c) (xs.set j x) ∧ w.grownBy (w.setCell ⟨g, j, none⟩ x) (some g) := by
  obtain ⟨a', c', hv, _, _, _⟩ := row_cells1 h
  cases hv
  have h2 := World.ownsRow.stored h j x
  refine ⟨?_, h2.2⟩
  unfold OwnV
  rw [List.length_set]
  exact h2.1
theorem ownV_le {w : World} {B g m c : Nat} {e : TypeId} {xs : List Value} (h : OwnV w B e (.slice (some ⟨g, 0, none⟩) m c) xs) : B ≤ g ∧ g < w.heap.size := h.lt g rfl
theorem ownV_kept {w w' : World} {B : Nat} {e : TypeId} {v : Value} {xs : List Value} {row : Option Nat} (h : OwnV w B e v xs) (hg : w.grownBy w' row) (hne : v.ownBlock = none ∨ v.ownBlock ≠ row) : OwnV w' B e v xs := World.ownsRow.kept h hg hne
theorem ownV_some {w : World} {B : Nat} {e : TypeId} {v : Value} {xs : List Value} (h : OwnV w B e v xs) (h0 : 0 < xs.length) : ∃ g c, v = .slice (some ⟨g, 0, none⟩) xs.length c ∧ B ≤ g ∧ g < w.heap.size := by
  have hlt := h.lt
  obtain ⟨_, ⟨rfl, h3⟩ | ⟨g, cap, cur, rfl, hB, _⟩⟩ := h
  · omega
  · exact ⟨g, cap, rfl, hB, (hlt g rfl).2⟩
theorem ba (w : World) (o : Obj) : Below w.heap.size w (w.alloc o) := (Below.refl _ _).alloc (Nat.le_refl _) _
theorem ownV_rd {w : World} {B : Nat} {e : TypeId} {g n c : Nat} {xs : List Value} (h : OwnV w B e (.slice (some ⟨g, 0, none⟩) n c) xs) (h1 : ∀ u ∈ xs, u.oneCell' = true) (i j : Nat) (hij : i ≤ j) (hj : j ≤ xs.length) (c' : Nat) :
    Rd w (.slice (some ⟨g, i, none⟩) (j - i) c') (j - i) 1 ((xs.drop i).take (j - i)) := by
  refine ⟨by rw [List.length_take, List.length_drop]; omega, fun u hu => h1 u (List.mem_of_mem_drop (List.mem_of_mem_take hu)), .inr ⟨⟨g, i, none⟩, c', rfl, fun _ => (ownV_le h).2, fun k u hk => ?_⟩⟩
  have hk2 := (List.getElem?_eq_some_iff.1 hk).1
  rw [List.length_take, List.length_drop] at hk2
  have hadd : (⟨g, i, none⟩ : Addr).add k = ⟨g, i + k, none⟩ := by
    unfold Addr.add
    split <;> simp_all
  rw [hadd, ownV_cell h (i + k) (by omega)]
  rw [List.getElem?_take_of_lt (by omega), List.getElem?_drop] at hk
  rw [List.getD_eq_getElem?_getD, hk]
  rfl
theorem ownV_capN {w : World} {B : Nat} {e : TypeId} {a : Option Addr} {n c : Nat} {xs : List Value} (h : OwnV w B e (.slice a n c) xs) : n ≤ c := by
  unfold OwnV World.ownsRow at h
  obtain ⟨_, h | ⟨g, c', cs, hv, _, _, hc, _⟩⟩ := h
  · have := h.1; simp_all
  · cases hv
    have := hc
    omega
/-- the call's own row of lists -/
theorem made1 (z : Value) (n : Nat) : (madeCells #[z] n).toList = List.replicate n z := by
  unfold madeCells
  refine List.ext_getElem (by simp) fun i h1 h2 => ?_
  simp [Nat.mod_one]
/-- n empty sets, newly made -/
theorem cell_same {w w' : World} {g i : Nat} (h : w'.heap[g]? = w.heap[g]?) : w'.cell? ⟨g, i, none⟩ = w.cell? ⟨g, i, none⟩ := by
  unfold World.cell?
  rw [h]
theorem grown_of {a b : World} {row : Option Nat} (h : Below a.heap.size a b) : a.grownBy b row := ⟨h.os, h.tape, h.output, h.size, fun j hj _ => h.block j hj⟩
theorem grown_trans {a b c : World} {row : Option Nat} (h : a.grownBy b row) (k : b.grownBy c row) : a.grownBy c row :=
  ⟨k.os.trans h.os, k.tape.trans h.tape, k.output.trans h.output, Nat.le_trans h.size k.size, fun j hj hn => (k.block j (Nat.lt_of_lt_of_le hj h.size) hn).trans (h.block j hj hn)⟩
theorem getD_snoc {α : Type} (xs : List α) (x d : α) (j : Nat) (h : j < xs.length) : (xs ++ [x]).getD j d = xs.getD j d := by
  rw [List.getD_eq_getElem?_getD, List.getD_eq_getElem?_getD, List.getElem?_append_left h]
theorem getD_last {α : Type} (xs : List α) (x d : α) : (xs ++ [x]).getD xs.length d = x := by
  rw [List.getD_eq_getElem?_getD, List.getElem?_append_right (Nat.le_refl _), Nat.sub_self]; rfl
theorem ownV_belowB {w w' : World} {B B' : Nat} {e : TypeId} {v : Value} {xs : List Value} (h : OwnV w B e v xs) (hb : Below B' w w') (hk : ∀ k, v.ownBlock = some k → k < B') : OwnV w' B e v xs := by
  obtain ⟨h1, h2⟩ := h
  refine ⟨h1, h2.imp_right ?_⟩
  rintro ⟨g, cap, cur, rfl, hB, hh, r⟩
  exact ⟨g, cap, cur, rfl, hB, (hb.block g (hk g rfl)).trans hh, r⟩
def lenOf : Value → Nat
  | .slice _ n _ => n
  | _ => 0
theorem ownV_len {w : World} {B : Nat} {e : TypeId} {v : Value} {xs : List Value} (h : OwnV w B e v xs) : lenOf v = xs.length := by
  obtain ⟨a, c, rfl⟩ := ownV_slice h
  rfl
/-- the call's own row of structs, of 'size' cells each -/
def OwnS (w : World) (B : Nat) (e : TypeId) (size : Nat) (v : Value) (rs : List (List Value)) : Prop := (∀ r ∈ rs, r.length = size) ∧ w.ownsRow B e size v rs.length rs.flatten
theorem flat_len {size : Nat} : ∀ {rs : List (List Value)}, (∀ r ∈ rs, r.length = size) → rs.flatten.length = rs.length * size
  | [], _ => by simp
  | r :: rs, h => by
    rw [List.flatten_cons, List.length_append, h r (List.mem_cons_self ..), flat_len (fun x hx => h x (List.mem_cons_of_mem _ hx)), List.length_cons, Nat.succ_mul]; omega
theorem flat_at {size : Nat} : ∀ {rs : List (List Value)}, (∀ r ∈ rs, r.length = size) → ∀ i j, i < rs.length → j < size → rs.flatten[i * size + j]? = some ((rs.getD i []).getD j undef)
  | [], _, i, j, hi, _ => by simp at hi
  | r :: rs, h, 0, j, _, hj => by
    have hr := h r (List.mem_cons_self ..)
    rw [List.flatten_cons, Nat.zero_mul, Nat.zero_add, List.getElem?_append_left (by omega), List.getD_cons_zero, List.getD_eq_getElem?_getD, List.getElem?_eq_getElem (by omega)]; rfl
  | r :: rs, h, i + 1, j, hi, hj => by
    have hr := h r (List.mem_cons_self ..)
    rw [List.flatten_cons, List.getElem?_append_right (by rw [hr, Nat.succ_mul]; omega), hr, show (i + 1) * size + j - size = i * size + j by rw [Nat.succ_mul]; omega, List.getD_cons_succ]
    exact flat_at (fun x hx => h x (List.mem_cons_of_mem _ hx)) i j (by simpa using hi) hj
theorem ownS_nil (w : World) (B : Nat) (e : TypeId) (size : Nat) : OwnS w B e size (.slice none 0 0) [] := ⟨fun r hr => by simp at hr, World.ownsRow_nil _ _ _ _⟩
theorem ownS_made (w : World) (B : Nat) (e : TypeId) (size : Nat) (hB : B ≤ w.heap.size) : OwnS (w.alloc (.cells #[] e)) B e size (.slice (some ⟨w.heap.size, 0, none⟩) 0 0) [] := ⟨fun r hr => by simp at hr, World.ownsRow_made w #[] 0 hB (by decide) (by simp)⟩
theorem ownS_sh {w : World} {B : Nat} {e : TypeId} {size : Nat} {v : Value} {rs : List (List Value)} (h : OwnS w B e size v rs) : ∃ a c, v = .slice a rs.length c := row_slice h.2
theorem ownS_below {w w' : World} {B : Nat} {e : TypeId} {size : Nat} {v : Value} {rs : List (List Value)} (h : OwnS w B e size v rs) (hb : Below w.heap.size w w') : OwnS w' B e size v rs := ⟨h.1, row_below h.2 hb⟩
theorem ownS_mono {w : World} {B B' : Nat} {e : TypeId} {size : Nat} {v : Value} {rs : List (List Value)} (h : OwnS w B e size v rs) (hb : B' ≤ B) : OwnS w B' e size v rs := ⟨h.1, row_mono h.2 hb⟩
theorem ownS_lt {w : World} {B : Nat} {e : TypeId} {size : Nat} {v : Value} {rs : List (List Value)} (h : OwnS w B e size v rs) : ∀ k, v.ownBlock = some k → B ≤ k ∧ k < w.heap.size := h.2.lt
theorem ownS_kept {w w' : World} {B : Nat} {e : TypeId} {size : Nat} {v : Value} {rs : List (List Value)} {row : Option Nat} (h : OwnS w B e size v rs) (hg : w.grownBy w' row) (hne : v.ownBlock = none ∨ v.ownBlock ≠ row) : OwnS w' B e size v rs := ⟨h.1, World.ownsRow.kept h.2 hg hne⟩
theorem ownS_some {w : World} {B : Nat} {e : TypeId} {size : Nat} {v : Value} {rs : List (List Value)} (h : OwnS w B e size v rs) (h0 : 0 < rs.length) : ∃ g c, v = .slice (some ⟨g, 0, none⟩) rs.length c ∧ B ≤ g ∧ g < w.heap.size := by
  have hlt := h.2.lt
  obtain ⟨_, ⟨rfl, h3⟩ | ⟨g, cap, cur, rfl, hB, _⟩⟩ := h.2
  · omega
  · exact ⟨g, cap, rfl, hB, (hlt g rfl).2⟩
theorem ownS_cell {w : World} {B g m c : Nat} {e : TypeId} {size : Nat} {rs : List (List Value)} (h : OwnS w B e size (.slice (some ⟨g, 0, none⟩) m c) rs) (i j : Nat) (hi : i < rs.length) (hj : j < size) : w.cell? ⟨g, i * size + j, none⟩ = some ((rs.getD i []).getD j undef) := by
  obtain ⟨h0, h1, ⟨h2, _⟩ | ⟨g', cap, cur, hv, hB, hh, hn, hm, hs, ht⟩⟩ := h
  · cases h2
  · cases hv
    have hlt : i * size + j < rs.length * size := by
      have : (i + 1) * size ≤ rs.length * size := Nat.mul_le_mul_right _ hi
      rw [Nat.succ_mul] at this; omega
    have h3 := flat_at h0 i j hi hj
    rw [← ht, List.getElem?_take, if_pos hlt] at h3
    rw [World.cell?, hh]
    simpa using h3
theorem ownS_free {w : World} {B g m c : Nat} {e : TypeId} {size : Nat} {rs : List (List Value)} (h : OwnS w B e size (.slice (some ⟨g, 0, none⟩) m c) rs) (k : Nat) : w.frozen? ⟨g, k, none⟩ = false := by
  obtain ⟨a', c', hv⟩ := ownS_sh h
  cases hv
  exact World.ownsRow.frozenAt h.2 k
theorem ownS_le {w : World} {B g m c : Nat} {e : TypeId} {size : Nat} {rs : List (List Value)} (h : OwnS w B e size (.slice (some ⟨g, 0, none⟩) m c) rs) : B ≤ g ∧ g < w.heap.size := h.2.lt g rfl
/-- append of one struct -/
theorem wpl_app_s {ops : Array Oper} {rest : List Oper} {o : Oper} {a : Act} {Q : Exit → Act → World → Prop} {W : World} (t e : TypeId) (z : Value) (size bytes : Nat)
    (hi : (Tryz.prog.info? e).map (fun i => (i.zero, i.size, i.bytes)) = some (some z, size, bytes)) (hz : z.cells.size = size) (hsz : 0 < size) (ht : Tryz.prog.underlying t = some (.slice e)) (hbm : bytes ≤ 100)
    (us : List Value) (hul : us.length = size) (hu1 : ∀ u ∈ us, u.oneCell' = true) (s y : Operand) (v : Value) (B : Nat) (rs : List (List Value))
    (hgd : o.guard = none) (ho : o.op = .call { callee := .builtin .append, args := #[s, y], argTypes := #[t, t] })
    (hs : a.eval s = v) (hx : a.eval y = .slice (some ⟨W.heap.size, 0, none⟩) 1 1)
    (hown : OwnS W B e size v rs) (hlen : rs.length < 1000000) (hB : B ≤ W.heap.size)
    (h : ∀ v' w', OwnS w' B e size v' (rs ++ [us]) → Below B W w' → W.grownBy w' v.ownBlock → wpList Tryz.prog ops Q rest (a.put o.dst v') w') :
    wpList Tryz.prog ops Q (o :: rest) a (W.alloc (.cells us.toArray e)) :=
  wpl_appn hgd s y t e ho z size bytes hi hz hsz ht v B rs.length rs.flatten hs hown.2 us hul hu1 hx
    (by have : (rs.length + 1) * bytes ≤ 1000000 * 100 := Nat.mul_le_mul (by omega) hbm
        omega) (by unfold maxLen; omega) hB
    (fun v' w' h1 h2 => h v' w' ⟨fun r hr => by
        rcases List.mem_append.1 hr with hr | hr
        · exact hown.1 r hr
        · simp at hr; rw [hr]; exact hul, by rw [List.length_append, List.flatten_append]; simpa using h1⟩ (((Below.refl B W).alloc hB _).trans (app_below h2 (by simp; omega) (fun k hk => (World.ownsRow.lt hown.2 k hk).1))) (grown_alloc h2.grown))
end Go.Proofs.YtpenleogafdbhaaGreatDoor

namespace Go.Proofs.YtpenleogafdbhaaGreatDoor
open Go.WideShapes Go.WideAt
abbrev Bs := List UInt8
abbrev Mp (α : Type) := List (Bs × α)
section
variable {α : Type}
/-- the value of a key -/
def mget (k : Bs) : Mp α → Option α
  | [] => none
  | p :: r => if p.1 = k then some p.2 else mget k r
theorem mget_cons (k : Bs) (p : Bs × α) (r : Mp α) : mget k (p :: r) = if p.1 = k then some p.2 else mget k r := rfl
/-- a pair put in at its place -/
def mins (x : Bs × α) : Mp α → Mp α
  | [] => [x]
  | y :: r => if bytesBefore x.1 y.1 = true then x :: y :: r else y :: mins x r
def mdel (k : Bs) (m : Mp α) : Mp α := m.filter fun p => !(p.1 == k)
def mput (k : Bs) (v : α) (m : Mp α) : Mp α := mins (k, v) (mdel k m)
/-- the keys rise -/
def Srt (m : Mp α) : Prop := m.Pairwise fun a b => bytesBefore a.1 b.1 = true
theorem srt_nil : Srt ([] : Mp α) := List.Pairwise.nil
theorem bb_ne {a b : Bs} (h : bytesBefore a b = true) : a ≠ b := fun e => by rw [e, bytes_irrefl] at h; cases h
theorem bb_not {a b : Bs} (h : bytesBefore a b = true) : bytesBefore b a = false := by
  cases e : bytesBefore b a with
  | false => rfl
  | true => have := bytes_trans _ _ _ h e; rw [bytes_irrefl] at this; cases this
theorem mem_mins (x p : Bs × α) : ∀ m : Mp α, p ∈ mins x m ↔ p = x ∨ p ∈ m
  | [] => by simp [mins]
  | y :: r => by
    unfold mins
    split
    · simp
    · rw [List.mem_cons, mem_mins x p r, List.mem_cons]
      constructor
      · rintro (h | h | h)
        · exact .inr (.inl h)
        · exact .inl h
        · exact .inr (.inr h)
      · rintro (h | h | h)
        · exact .inr (.inl h)
        · exact .inl h
        · exact .inr (.inr h)
theorem length_mins (x : Bs × α) : ∀ m : Mp α, (mins x m).length = m.length + 1
  | [] => rfl
  | y :: r => by
    unfold mins
    split
    · rfl
    · rw [List.length_cons, length_mins x r, List.length_cons]
theorem srt_mins (x : Bs × α) : ∀ m : Mp α, Srt m → (∀ p ∈ m, p.1 ≠ x.1) → Srt (mins x m)
  | [], _, _ => List.pairwise_singleton _ _
  | y :: r, h, hn => by
    unfold mins
    obtain ⟨h1, h2⟩ := List.pairwise_cons.1 h
    split
    · rename_i hb
      refine List.pairwise_cons.2 ⟨fun p hp => ?_, h⟩
      rcases List.mem_cons.1 hp with rfl | hp
      · exact hb
      · exact bytes_trans _ _ _ hb (h1 p hp)
    · rename_i hb
      refine List.pairwise_cons.2 ⟨fun p hp => ?_, srt_mins x r h2 (fun p hp => hn p (List.mem_cons_of_mem _ hp))⟩
      rcases (mem_mins x p r).1 hp with rfl | hp
      · rcases bytes_total _ _ (hn y List.mem_cons_self) with h' | h'
        · exact h'
        · exact absurd h' hb
      · exact h1 p hp
theorem srt_mdel (k : Bs) {m : Mp α} (h : Srt m) : Srt (mdel k m) := List.Pairwise.filter _ h
theorem mem_mdel {k : Bs} {m : Mp α} {p : Bs × α} : p ∈ mdel k m ↔ p ∈ m ∧ p.1 ≠ k := by
  unfold mdel
  rw [List.mem_filter]
  simp
theorem srt_mput (k : Bs) (v : α) {m : Mp α} (h : Srt m) : Srt (mput k v m) :=
  srt_mins _ _ (srt_mdel k h) fun _ hp => (mem_mdel.1 hp).2
theorem mem_mput {k : Bs} {v : α} {m : Mp α} {p : Bs × α} : p ∈ mput k v m ↔ p = (k, v) ∨ (p ∈ m ∧ p.1 ≠ k) := by
  unfold mput
  rw [mem_mins, mem_mdel]
theorem mget_mem {k : Bs} {v : α} : ∀ {m : Mp α}, mget k m = some v → (k, v) ∈ m
  | [], h => by cases h
  | p :: r, h => by
    unfold mget at h
    split at h
    · rename_i e
      cases h
      subst e
      exact List.mem_cons_self
    · exact List.mem_cons_of_mem _ (mget_mem h)
theorem mem_mget {k : Bs} {v : α} : ∀ {m : Mp α}, Srt m → (k, v) ∈ m → mget k m = some v
  | [], _, h => by cases h
  | p :: r, hs, h => by
    obtain ⟨h1, h2⟩ := List.pairwise_cons.1 hs
    unfold mget
    rcases List.mem_cons.1 h with rfl | h
    · rw [if_pos rfl]
    · rw [if_neg (bb_ne (h1 _ h))]
      exact mem_mget h2 h
theorem mget_none {k : Bs} : ∀ {m : Mp α}, mget k m = none ↔ ∀ p ∈ m, p.1 ≠ k
  | [] => by simp [mget]
  | p :: r => by
    unfold mget
    split
    · rename_i e
      simp [e]
    · rename_i e
      rw [mget_none (m := r)]
      simp [e]
theorem mext {m m' : Mp α} (hs : Srt m) (hs' : Srt m') (h : ∀ k, mget k m = mget k m') : m = m' := by
  induction m generalizing m' with
  | nil =>
    cases m' with
    | nil => rfl
    | cons q r => have := h q.1; unfold mget at this; rw [if_pos rfl] at this; cases this
  | cons p l ih =>
    cases m' with
    | nil => have := h p.1; unfold mget at this; rw [if_pos rfl] at this; cases this
    | cons q r =>
      obtain ⟨h1, h2⟩ := List.pairwise_cons.1 hs
      obtain ⟨g1, g2⟩ := List.pairwise_cons.1 hs'
      have hp : p ∈ q :: r := mget_mem (by rw [← h p.1]; unfold mget; rw [if_pos rfl])
      have hq : q ∈ p :: l := mget_mem (by rw [h q.1]; unfold mget; rw [if_pos rfl])
      have e : p = q := by
        rcases List.mem_cons.1 hp with e | hp
        · exact e
        · rcases List.mem_cons.1 hq with e | hq
          · exact e.symm
          · have a := g1 _ hp
            have b := bb_not (h1 _ hq)
            rw [a] at b; cases b
      subst e
      rw [ih h2 g2 fun k => ?_]
      by_cases hk : p.1 = k
      · rw [mget_none.2 fun x hx => by rw [← hk]; exact (bb_ne (h1 x hx)).symm, mget_none.2 fun x hx => by rw [← hk]; exact (bb_ne (g1 x hx)).symm]
      · have := h k
        unfold mget at this
        rwa [if_neg hk, if_neg hk] at this
theorem mget_mdel_same (k : Bs) (m : Mp α) : mget k (mdel k m) = none := mget_none.2 fun _ hp => (mem_mdel.1 hp).2
theorem mget_mdel_other {k j : Bs} (hne : j ≠ k) : ∀ m : Mp α, mget j (mdel k m) = mget j m
  | [] => rfl
  | p :: r => by
    unfold mdel
    rw [List.filter_cons]
    split
    · show (if p.1 = j then some p.2 else mget j (mdel k r)) = if p.1 = j then some p.2 else mget j r
      rw [mget_mdel_other hne r]
    · rename_i e
      have e2 : p.1 = k := by simpa using e
      show mget j (mdel k r) = if p.1 = j then some p.2 else mget j r
      rw [if_neg (by rw [e2]; exact hne.symm), mget_mdel_other hne r]
theorem mget_mins_same (x : Bs × α) : ∀ m : Mp α, (∀ p ∈ m, p.1 ≠ x.1) → mget x.1 (mins x m) = some x.2
  | [], _ => by simp [mins, mget]
  | y :: r, h => by
    unfold mins
    split
    · simp [mget]
    · show (if y.1 = x.1 then some y.2 else mget x.1 (mins x r)) = _
      rw [if_neg (h y List.mem_cons_self), mget_mins_same x r fun p hp => h p (List.mem_cons_of_mem _ hp)]
theorem mget_mins_other (x : Bs × α) {j : Bs} (hne : j ≠ x.1) : ∀ m : Mp α, mget j (mins x m) = mget j m
  | [] => by simp [mins, mget, hne.symm]
  | y :: r => by
    unfold mins
    split
    · show (if x.1 = j then some x.2 else mget j (y :: r)) = _
      rw [if_neg hne.symm]
    · show (if y.1 = j then some y.2 else mget j (mins x r)) = if y.1 = j then some y.2 else mget j r
      rw [mget_mins_other x hne r]
theorem mget_mput_same (k : Bs) (v : α) (m : Mp α) : mget k (mput k v m) = some v := mget_mins_same (k, v) _ fun _ hp => (mem_mdel.1 hp).2
theorem mget_mput_other {k j : Bs} (hne : j ≠ k) (v : α) (m : Mp α) : mget j (mput k v m) = mget j m := by
  unfold mput
  rw [mget_mins_other (k, v) hne, mget_mdel_other hne]
theorem mdel_none {k : Bs} {m : Mp α} (h : mget k m = none) : mdel k m = m := by
  unfold mdel
  exact List.filter_eq_self.2 fun p hp => by simpa using mget_none.1 h p hp
theorem length_mdel {k : Bs} : ∀ {m : Mp α}, Srt m → (mdel k m).length + (if (mget k m).isSome then 1 else 0) = m.length
  | [], _ => rfl
  | p :: r, hs => by
    obtain ⟨h1, h2⟩ := List.pairwise_cons.1 hs
    by_cases hk : p.1 = k
    · have e : mdel k (p :: r) = mdel k r := by
        unfold mdel
        rw [List.filter_cons, if_neg (by simp [hk])]
      have e2 : mget k r = none := mget_none.2 fun x hx => by rw [← hk]; exact (bb_ne (h1 x hx)).symm
      rw [e, mdel_none e2]
      unfold mget
      rw [if_pos hk]
      rfl
    · have e : mdel k (p :: r) = p :: mdel k r := by
        unfold mdel
        rw [List.filter_cons, if_pos (by simp [hk])]
      have ih := length_mdel (k := k) h2
      rw [e]
      unfold mget
      rw [if_neg hk, List.length_cons, List.length_cons]
      omega
theorem length_mput {k : Bs} {v : α} {m : Mp α} (hs : Srt m) : (mput k v m).length = if (mget k m).isSome then m.length else m.length + 1 := by
  unfold mput
  rw [length_mins]
  have := length_mdel (k := k) hs
  split
  · rename_i h; rw [if_pos h] at this; omega
  · rename_i h; rw [if_neg h] at this; omega
/-- the map as a datum of the kit -/
def dm {H : Type} (f : α → DataW H) (m : Mp α) : DataW H := .map (m.map fun p => (.string p.1, f p.2))
section
variable {H : Type} (f : α → DataW H)
theorem sk (a b : Bs) : Lit.sameKey (.string a) (.string b) = (a == b) := rfl
theorem dm_filter (k : Bs) (m : Mp α) : ((m.map fun p => (Lit.string p.1, f p.2)).filter fun p => !p.1.sameKey (.string k)) = (mdel k m).map fun p => (Lit.string p.1, f p.2) := by
  unfold mdel
  rw [List.filter_map]
  rfl
theorem dm_insert (x : Bs × α) : ∀ m : Mp α, DataW.insert (Lit.string x.1, f x.2) (m.map fun p => (Lit.string p.1, f p.2)) = (mins x m).map fun p => (Lit.string p.1, f p.2)
  | [] => rfl
  | y :: r => by
    show (if Lit.before (.string x.1) (.string y.1) = true then _ else _) = _
    unfold mins
    rw [show Lit.before (.string x.1) (.string y.1) = bytesBefore x.1 y.1 from rfl]
    split
    · rfl
    · rw [List.map_cons, ← dm_insert x r]
theorem dm_put (k : Bs) (v : α) (m : Mp α) : (dm f m).put (.string k) (f v) = dm f (mput k v m) := by
  unfold dm DataW.put mput
  simp only
  rw [dm_filter, dm_insert f (k, v)]
theorem dm_del (k : Bs) (m : Mp α) : (dm f m).del (.string k) = dm f (mdel k m) := by
  unfold dm DataW.del
  simp only
  rw [dm_filter]
theorem dm_at (k : Bs) (z : DataW H) : ∀ m : Mp α, (dm f m).atKey (.string k) z = match mget k m with | some v => f v | none => z
  | [] => rfl
  | p :: r => by
    have ih := dm_at k z r
    unfold dm DataW.atKey at ih ⊢
    simp only at ih ⊢
    rw [List.map_cons, List.find?_cons]
    unfold mget
    by_cases h : p.1 = k
    · rw [if_pos h, show Lit.sameKey (Lit.string p.1) (Lit.string k) = true by rw [sk, h]; simp]
    · rw [if_neg h, show Lit.sameKey (Lit.string p.1) (Lit.string k) = false by rw [sk]; simpa using h]
      exact ih
theorem dm_has (k : Bs) : ∀ m : Mp α, Maps.has (dm f m) (.string k) = (mget k m).isSome
  | [] => rfl
  | p :: r => by
    have ih := dm_has k r
    unfold dm at ih ⊢
    rw [Maps.has_eq] at ih ⊢
    rw [List.map_cons, List.any_cons, ih]
    rw [mget_cons]
    by_cases h : p.1 = k
    · rw [if_pos h, show Lit.sameKey (Lit.string p.1) (Lit.string k) = true by rw [sk, h]; simp]; rfl
    · rw [if_neg h, show Lit.sameKey (Lit.string p.1) (Lit.string k) = false by rw [sk]; simpa using h]
      rfl
theorem dm_size (m : Mp α) : Maps.size (dm f m) = m.length := by
  unfold dm
  rw [Maps.size_eq, List.length_map]
end
end
end Go.Proofs.YtpenleogafdbhaaGreatDoor

namespace Go.Proofs.YtpenleogafdbhaaGreatDoor
open Go.WideShapes Go.WideAt
section
variable {α β : Type}
def mmap (f : α → β) (m : Mp α) : Mp β := m.map fun p => (p.1, f p.2)
theorem mmap_nil (f : α → β) : mmap f [] = [] := rfl
theorem mmap_cons (f : α → β) (p : Bs × α) (m : Mp α) : mmap f (p :: m) = (p.1, f p.2) :: mmap f m := rfl
theorem mmap_length (f : α → β) (m : Mp α) : (mmap f m).length = m.length := List.length_map _
theorem mget_mmap (f : α → β) (k : Bs) : ∀ m : Mp α, mget k (mmap f m) = (mget k m).map f
  | [] => rfl
  | p :: r => by
    rw [mmap_cons, mget_cons, mget_cons]
    split
    · rfl
    · exact mget_mmap f k r
theorem srt_mmap (f : α → β) {m : Mp α} (h : Srt m) : Srt (mmap f m) := List.Pairwise.map _ (fun _ _ h => h) h
theorem srt_of_mmap (f : α → β) {m : Mp α} (h : Srt (mmap f m)) : Srt m := (List.pairwise_map.1 h)
theorem mmap_mins (f : α → β) (x : Bs × α) : ∀ m : Mp α, mmap f (mins x m) = mins (x.1, f x.2) (mmap f m)
  | [] => rfl
  | y :: r => by
    rw [mmap_cons]
    unfold mins
    split
    · rfl
    · rw [mmap_cons, mmap_mins f x r]
theorem mmap_mdel (f : α → β) (k : Bs) (m : Mp α) : mmap f (mdel k m) = mdel k (mmap f m) := by
  unfold mmap mdel
  rw [List.filter_map]
  rfl
theorem mmap_mput (f : α → β) (k : Bs) (v : α) (m : Mp α) : mmap f (mput k v m) = mput k (f v) (mmap f m) := by
  unfold mput
  rw [mmap_mins, mmap_mdel]
theorem mput_same {k : Bs} {v : α} {m : Mp α} (hs : Srt m) (h : mget k m = some v) : mput k v m = m := by
  refine mext (srt_mput k v hs) hs fun j => ?_
  by_cases hj : j = k
  · rw [hj, mget_mput_same, h]
  · rw [mget_mput_other hj]
theorem mput_mput {k : Bs} {u v : α} {m : Mp α} (hs : Srt m) : mput k v (mput k u m) = mput k v m := by
  refine mext (srt_mput k v (srt_mput k u hs)) (srt_mput k v hs) fun j => ?_
  by_cases hj : j = k
  · rw [hj, mget_mput_same, mget_mput_same]
  · rw [mget_mput_other hj, mget_mput_other hj, mget_mput_other hj]
theorem mem_mmap {f : α → β} {m : Mp α} {k : Bs} {y : β} : (k, y) ∈ mmap f m ↔ ∃ x, (k, x) ∈ m ∧ f x = y := by
  unfold mmap
  rw [List.mem_map]
  constructor
  · rintro ⟨p, hp, e⟩
    cases e
    exact ⟨p.2, hp, rfl⟩
  · rintro ⟨x, hx, rfl⟩
    exact ⟨(k, x), hx, rfl⟩
theorem mmap_mmap {γ : Type} (g : β → γ) (f : α → β) (m : Mp α) : mmap g (mmap f m) = mmap (fun x => g (f x)) m := by
  unfold mmap
  rw [List.map_map]
  rfl
theorem mmap_congr {f g : α → β} {m : Mp α} (h : ∀ p ∈ m, f p.2 = g p.2) : mmap f m = mmap g m := List.map_congr_left fun p hp => by rw [h p hp]
/-- the entry of a key -/
theorem mem_unique {m : Mp α} (hs : Srt m) {k : Bs} {u v : α} (h1 : (k, u) ∈ m) (h2 : (k, v) ∈ m) : u = v := by
  have a := mem_mget hs h1
  rw [mem_mget hs h2] at a
  exact (Option.some.inj a).symm
end
end Go.Proofs.YtpenleogafdbhaaGreatDoor

namespace Go.Proofs.YtpenleogafdbhaaGreatDoor
/-- a file: its bytes, and how many of them are synced -/
structure Fl where
  data : Bs
  safe : Nat
deriving DecidableEq
/-- a disk: files, down or not, acts until it goes down, how often it was opened -/
structure Dk where
  files : Mp Fl
  down : Bool
  left : Nat
  opened : Nat
deriving DecidableEq
def Dk.new : Dk := ⟨[], false, 0, 0⟩
/-- an act is counted -/
def Dk.act (d : Dk) : Dk := if 0 < d.left then { d with down := d.left == 1, left := d.left - 1 } else d
/-- how an act ends -/
def Dk.told (d : Dk) : Nat × Dk := (if d.act.down = true then 8 else 0, d.act)
def badName (s : Bs) : Bool := s.length == 0 || decide (16 < s.length)
/-- why nothing can be done with a name -/
def Dk.ready (d : Dk) (s : Bs) : Nat := if badName s = true then 1 else if d.down = true then 8 else 0
def Dk.ready2 (d : Dk) (s t : Bs) : Nat := if badName s = true ∨ badName t = true ∨ s = t then 1 else if d.down = true then 8 else 0
def Dk.size (d : Dk) : Nat := (d.files.map fun p => p.2.data.length).sum
def Dk.full (d : Dk) (s b : Bs) : Prop := (mget s d.files = none ∧ 60 ≤ d.files.length) ∨ 262144 < d.size + b.length
instance (d : Dk) (s b : Bs) : Decidable (d.full s b) := by unfold Dk.full; exact inferInstance
def Dk.append (d : Dk) (s b : Bs) : Nat × Dk :=
  if d.ready s ≠ 0 then (d.ready s, d)
  else if d.full s b then (7, d)
  else Dk.told { d with files := mput s ⟨((mget s d.files).getD ⟨[], 0⟩).data ++ b, ((mget s d.files).getD ⟨[], 0⟩).safe⟩ d.files }
def Dk.sync (d : Dk) (s : Bs) : Nat × Dk :=
  if d.ready s ≠ 0 then (d.ready s, d)
  else match mget s d.files with
    | none => (5, d)
    | some f => if d.act.down = true then (8, d.act) else (0, { d.act with files := mput s ⟨f.data, f.data.length⟩ d.files })
def Dk.remove (d : Dk) (s : Bs) : Nat × Dk :=
  if d.ready s ≠ 0 then (d.ready s, d)
  else match mget s d.files with
    | none => (5, d)
    | some _ => Dk.told { d with files := mdel s d.files }
def Dk.rename (d : Dk) (s t : Bs) : Nat × Dk :=
  if d.ready2 s t ≠ 0 then (d.ready2 s t, d)
  else match mget s d.files with
    | none => (5, d)
    | some f => Dk.told { d with files := mput t f (mdel s d.files) }
def Dk.arm (d : Dk) (n : Int) : Dk := { d with left := n.toNat }
def Fl.cut (f : Fl) (keep : Nat) : Fl :=
  ⟨f.data.take (f.safe + keep % (f.data.length - f.safe + 1)), f.safe + keep % (f.data.length - f.safe + 1)⟩
def Dk.restart (d : Dk) (keep : Int) : Dk :=
  ⟨d.files.map fun p => (p.1, p.2.cut keep.toNat), false, 0, d.opened + 1⟩
def Dk.names (d : Dk) : List Bs := d.files.map (·.1)
def Dk.bytes (d : Dk) (s : Bs) : Bs := match mget s d.files with | none => [] | some f => f.data
/-- what holds of every disk that was made by its own functions -/
structure Dk.Ok (d : Dk) : Prop where
  srt : Srt d.files
  few : d.files.length ≤ 60
  size : d.size ≤ 262144
  left : d.left < 9223372036854775808
  opened : d.opened < 1000000000
  safe : ∀ p ∈ d.files, p.2.safe ≤ p.2.data.length
  name : ∀ p ∈ d.files, badName p.1 = false
end Go.Proofs.YtpenleogafdbhaaGreatDoor

namespace Go.Proofs.YtpenleogafdbhaaGreatDoor
/-- eight bytes of a number -/
def le8 (n : Nat) : Bs := (List.range 8).map fun i => UInt8.ofNat (n / 256 ^ i % 256)
/-- a sum goes on by a byte -/
def sumStep (h : Nat) (c : UInt8) : Nat := (h ^^^ c.toNat) * 1099511628211 % 18446744073709551616
def sumOf (b : Bs) : Nat := max (b.foldl sumStep 14695981039346656037) 1
/-- a block: its length, its sum, its bytes -/
def blk (b : Bs) : Bs := le8 b.length ++ le8 (sumOf b) ++ b
/-- a change -/
structure Ch where
  key : Bs
  val : Bs
  del : Bool
def Ch.bytes (c : Ch) : Bs :=
  [if c.del = true then 45 else 61, UInt8.ofNat c.key.length] ++ c.key ++ (if c.del = true then [0] else UInt8.ofNat c.val.length :: c.val)
def chBytes (l : List Ch) : Bs := l.flatMap Ch.bytes
/-- a table: keys, each with its value, or deleted -/
abbrev Tab := Mp (Bs × Bool)
def Tab.do (t : Tab) (c : Ch) : Tab := mput c.key (if c.del = true then [] else c.val, c.del) t
def Tab.apply (t : Tab) (l : List Ch) : Tab := l.foldl Tab.do t
def Tab.changes (t : Tab) : List Ch := t.map fun p => ⟨p.1, p.2.1, p.2.2⟩
/-- a number in decimal -/
def itoa (n : Nat) : Bs := Lib.decDigits n
/-- a head: the log, the runs, the next number -/
structure Hd where
  log : Nat
  runs : List Nat
  next : Nat
def Hd.text (h : Hd) : Bs := h.runs.foldl (fun s r => s ++ 32 :: itoa r) (itoa h.log ++ 32 :: itoa h.next)
def Hd.bytes (h : Hd) : Bs := blk h.text
def nHead : Bs := [104, 101, 97, 100]
def nFresh : Bs := [104, 101, 97, 100, 46, 110, 101, 119]
def nLog (n : Nat) : Bs := [108, 111, 103] ++ itoa n
def nRun (n : Nat) : Bs := [114, 117, 110] ++ itoa n
/-- a key, and a value, that a store takes -/
def okKV (k v : Bs) : Bool := k.length != 0 && decide (k.length ≤ 16) && decide (v.length ≤ 64)
def Ch.bad (c : Ch) : Bool := !okKV c.key c.val && (!c.del || !okKV c.key [])
/-- a store: what it says beside its disk -/
structure St where
  turn : Nat
  broken : Bool
  head : Hd
  mem : Tab
  runs : List Tab
  views : List (Int × Tab)
  next : Nat
/-- acts one after the other, up to the first one that fails -/
def acts : List (Dk → Nat × Dk) → Dk → Nat × Dk
  | [], d => (0, d)
  | f :: r, d => if (f d).1 ≠ 0 then f d else acts r (f d).2
def St.fail (s : St) (e : Nat) : St := { s with broken := s.broken || e == 8 }
def St.ready (s : St) (d : Dk) : Bool := !s.broken && s.turn == d.opened
/-- new keys over old ones -/
def over (a b : Tab) : Tab := b.foldl (fun t p => mput p.1 p.2 t) a
def St.all (s : St) : Tab := (over (s.runs.reverse.foldl over []) s.mem).filter fun p => !p.2.2
/-- files that are not used any more are removed -/
def removes : List Bs → List (Dk → Nat × Dk)
  | [] => []
  | s :: r => (fun d => d.remove s) :: removes r
def St.replace (s : St) (d : Dk) (fresh : Tab) (rest : List Nat) (tabs : List Tab) : Nat × St × Dk :=
  let h : Hd := ⟨s.head.next, if fresh.length = 0 then rest else (s.head.next + 1) :: rest, s.head.next + 2⟩
  let l := (if fresh.length = 0 then [] else [fun d => d.append (nRun (s.head.next + 1)) (blk (chBytes fresh.changes)), fun d => d.sync (nRun (s.head.next + 1))])
    ++ [fun d => d.append nFresh h.bytes, fun d => d.sync nFresh, fun d => d.rename nFresh nHead]
  let r := acts l d
  if r.1 ≠ 0 then (r.1, s.fail r.1, r.2) else
  let s2 : St := { s with head := h, mem := [], runs := if fresh.length = 0 then tabs else fresh :: tabs }
  let gone := (nLog s.head.log :: s.head.runs.map nRun).filter fun x => (mget x r.2.files).isSome && !(h.runs.map nRun).contains x
  let q := acts (removes gone) r.2
  (q.1, s2.fail q.1, q.2)
def St.compact (s : St) (d : Dk) : Nat × St × Dk := s.replace d s.all [] []
def St.flush (s : St) (d : Dk) : Nat × St × Dk := if 8 ≤ s.runs.length then s.compact d else s.replace d s.mem s.head.runs s.runs
def St.sync (s : St) (d : Dk) : Nat × St × Dk :=
  if s.ready d = false then (6, s, d) else
  match mget (nLog s.head.log) d.files with
  | none => (0, s, d)
  | some f => if f.safe = f.data.length then (0, s, d) else ((d.sync (nLog s.head.log)).1, s.fail (d.sync (nLog s.head.log)).1, (d.sync (nLog s.head.log)).2)
def St.apply (s : St) (d : Dk) (l : List Ch) : Nat × St × Dk :=
  if s.ready d = false then (6, s, d) else
  if l.length = 0 ∨ l.any Ch.bad = true then (1, s, d) else
  if 20 < l.length then (3, s, d) else
  let r := if 64 < s.mem.length + l.length then s.flush d else (0, s, d)
  if r.1 ≠ 0 then r else
  let q := r.2.2.append (nLog r.2.1.head.log) (blk (chBytes l))
  (q.1, if q.1 ≠ 0 then r.2.1.fail q.1 else { r.2.1.fail q.1 with mem := r.2.1.mem.apply l }, q.2)
def St.flushP (s : St) (d : Dk) : Nat × St × Dk :=
  if s.ready d = false then (6, s, d) else if s.mem.length = 0 then s.sync d else s.flush d
def St.compactP (s : St) (d : Dk) : Nat × St × Dk :=
  if s.ready d = false then (6, s, d) else s.compact d
end Go.Proofs.YtpenleogafdbhaaGreatDoor

namespace Go.Proofs.YtpenleogafdbhaaGreatDoor
/-- the log of groups -/
def logOf (gs : List (List Ch)) : Bs := gs.flatMap fun g => blk (chBytes g)
/-- no block begins here: what a torn log ends with -/
def torn (b : Bs) : Prop := b.length < 16 ∨ ∃ c : Bs, c.length < 1000000 ∧ b.length < (blk c).length ∧ b = (blk c).take b.length
/-- a number of a file's name -/
def okName (s : Bs) : Prop := s = nHead ∨ s = nFresh ∨ ∃ n, n < 1000000000 ∧ (s = nLog n ∨ s = nRun n)
def okCh (c : Ch) : Prop := c.key.length ≤ 16 ∧ c.val.length ≤ 64 ∧ (c.del = true → c.val = [])
/-- what a store finds on a disk: a head, runs, groups, a torn end -/
structure Legit (d : Dk) (h : Hd) (ts : List Tab) (gs : List (List Ch)) (tail : Bs) : Prop where
  names : ∀ p ∈ d.files, okName p.1
  head : (∃ f, mget nHead d.files = some f ∧ f.data = h.bytes) ∨ (mget nHead d.files = none ∧ h = ⟨0, [], 1⟩)
  num : h.log < 100000000 ∧ h.next < 100000000 ∧ ∀ r ∈ h.runs, r < 100000000
  runs : h.runs.length = ts.length
  few : ts.length ≤ 8
  run : ∀ i, i < ts.length → ∃ f, mget (nRun (h.runs.getD i 0)) d.files = some f ∧ f.data = blk (chBytes (ts.getD i []).changes)
  tab : ∀ t ∈ ts, Srt t ∧ ∀ c ∈ Tab.changes t, okCh c
  log : d.bytes (nLog h.log) = logOf gs ++ tail
  grp : ∀ g ∈ gs, ∀ c ∈ g, okCh c
  torn : torn tail
/-- a store is opened -/
def openSt (d : Dk) (h : Hd) (ts : List Tab) (gs : List (List Ch)) (tail : Bs) : Option St × Nat × Dk :=
  let keep := nHead :: nLog h.log :: h.runs.map nRun
  let q := acts (removes (d.names.filter fun x => !keep.contains x)) { d with opened := d.opened + 1 }
  if q.1 ≠ 0 then (none, q.1, q.2) else
  let s : St := ⟨d.opened + 1, false, h, gs.foldl Tab.apply [], ts, [], 0⟩
  let r := if tail.length = 0 then s.sync q.2 else s.flush q.2
  if r.1 ≠ 0 then (none, r.1, r.2.2) else (some r.2.1, 0, r.2.2)
/-- the entries of a table from one key up to another one -/
def inRange (a b k : Bs) : Bool := !bytesBefore k a && (b.length == 0 || bytesBefore k b)
def scanTab (t : Tab) (a b : Bs) : List (Bs × Bs) := (t.filter fun p => inRange a b p.1).map fun p => (p.1, p.2.1)
def St.seen (s : St) (v : Int) : Option Tab := if v = -1 then some s.all else (s.views.find? fun p => p.1 == v).map (·.2)
/-- the value of a key -/
def St.get (s : St) (v : Int) (k : Bs) : Bs × Nat :=
  match s.seen v with
  | none => ([], 1)
  | some t => if okKV k [] = false then ([], 1) else match mget k t with | none => ([], 5) | some c => (c.1, 0)
def St.scan (s : St) (v : Int) (a b : Bs) : List (Bs × Bs) × Nat :=
  match s.seen v with
  | none => ([], 1)
  | some t => (scanTab t a b, 0)
def St.view (s : St) (d : Dk) : Nat × Nat × St :=
  if s.ready d = false then (0, 6, s) else
  if 8 ≤ s.views.length then (0, 7, s) else
  (s.next, 0, { s with views := s.views ++ [((s.next : Int), s.all)], next := s.next + 1 })
def St.drop (s : St) (d : Dk) (v : Int) : Nat × St :=
  if s.ready d = false then (6, s) else
  if (s.views.any fun p => p.1 == v) = false then (1, s) else (0, { s with views := s.views.filter fun p => !(p.1 == v) })
end Go.Proofs.YtpenleogafdbhaaGreatDoor

namespace Go.Proofs.YtpenleogafdbhaaGreatDoor
theorem le8_len (n : Nat) : (le8 n).length = 8 := by simp [le8]
theorem blk_len (b : Bs) : (blk b).length = 16 + b.length := by
  unfold blk
  rw [List.length_append, List.length_append, le8_len, le8_len]
theorem le8_at (n : Nat) (i : Nat) (h : i < 8) : (le8 n).getD i 0 = UInt8.ofNat (n / 256 ^ i % 256) := by
  unfold le8
  rw [List.getD_eq_getElem?_getD, List.getElem?_map, List.getElem?_range h]
  rfl
/-- the number of the first eight bytes, as far as k of them -/
def numTo (b : Bs) : Nat → Nat
  | 0 => 0
  | k + 1 => numTo b k + (b.getD k 0).toNat * 256 ^ k
def num8 (b : Bs) : Nat := numTo b 8
theorem numTo_congr {b c : Bs} : ∀ k, (∀ i, i < k → b.getD i 0 = c.getD i 0) → numTo b k = numTo c k
  | 0, _ => rfl
  | k + 1, h => by
    show numTo b k + _ = numTo c k + _
    rw [numTo_congr k fun i hi => h i (by omega), h k (by omega)]
theorem numTo_le8 (n : Nat) : ∀ k, k ≤ 8 → numTo (le8 n) k = n % 256 ^ k
  | 0, _ => by simp [numTo, Nat.mod_one]
  | k + 1, h => by
    show numTo (le8 n) k + ((le8 n).getD k 0).toNat * 256 ^ k = _
    rw [numTo_le8 n k (by omega), le8_at n k (by omega), UInt8.toNat_ofNat_of_lt' (by rw [UInt8.size]; exact Nat.mod_lt _ (by decide)), Nat.pow_succ, Nat.mod_mul, Nat.mul_comm]
theorem getD_app_left {b r : Bs} {i : Nat} (h : i < b.length) : (b ++ r).getD i 0 = b.getD i 0 := by
  rw [List.getD_eq_getElem?_getD, List.getD_eq_getElem?_getD, List.getElem?_append_left h]
theorem num8_le8 (n : Nat) (r : Bs) (h : n < 18446744073709551616) : num8 (le8 n ++ r) = n := by
  unfold num8
  rw [numTo_congr (c := le8 n) 8 fun i hi => getD_app_left (by rw [le8_len]; exact hi), numTo_le8 n 8 (Nat.le_refl _)]
  exact Nat.mod_eq_of_lt h
theorem sumStep_lt (h : Nat) (c : UInt8) : sumStep h c < 18446744073709551616 := Nat.mod_lt _ (by decide)
theorem foldl_lt : ∀ (b : Bs) (h : Nat), h < 18446744073709551616 → b.foldl sumStep h < 18446744073709551616
  | [], _, hh => hh
  | c :: r, h, _ => foldl_lt r _ (sumStep_lt h c)
theorem sumOf_lt (b : Bs) : sumOf b < 18446744073709551616 := by
  unfold sumOf
  have := foldl_lt b 14695981039346656037 (by decide)
  omega
theorem sumOf_pos (b : Bs) : 1 ≤ sumOf b := Nat.le_max_right _ _
theorem blk_head (b r : Bs) (h : b.length < 18446744073709551616) : num8 (blk b ++ r) = b.length := by
  unfold blk
  rw [List.append_assoc, List.append_assoc]
  exact num8_le8 _ _ h
theorem blk_drop8 (b r : Bs) : num8 ((blk b ++ r).drop 8) = sumOf b := by
  unfold blk
  rw [List.append_assoc, List.append_assoc, List.drop_append_of_le_length (by rw [le8_len]; exact Nat.le_refl _), List.drop_eq_nil_of_le (by rw [le8_len]; exact Nat.le_refl _), List.nil_append]
  exact num8_le8 _ _ (sumOf_lt b)
theorem blk_mid (b r : Bs) : ((blk b ++ r).drop 16).take b.length = b := by
  have e : blk b ++ r = (le8 b.length ++ le8 (sumOf b)) ++ (b ++ r) := by unfold blk; simp
  rw [e, List.drop_left' (by rw [List.length_append, le8_len, le8_len]), List.take_left' rfl]
theorem blk_rest (b r : Bs) : (blk b ++ r).drop (16 + b.length) = r := List.drop_left' (blk_len b)
/-- a torn block says that it is longer than it is -/
theorem torn_num {b : Bs} (h : torn b) : b.length < 16 ∨ (16 ≤ b.length ∧ b.length - 16 < num8 b ∧ num8 b < 1000000) := by
  by_cases h16 : b.length < 16
  · exact .inl h16
  · rcases h with h | ⟨c, hc, hl, e⟩
    · exact .inl h
    · right
      rw [blk_len] at hl
      have e2 : num8 b = c.length := by
        rw [show num8 b = num8 (blk c ++ []) from numTo_congr 8 fun i hi => ?_, blk_head c [] (by omega)]
        rw [List.append_nil, e, List.getD_eq_getElem?_getD, List.getD_eq_getElem?_getD, List.getElem?_take, if_pos (by omega)]
      omega
theorem torn_nil : torn [] := .inl (by decide)
end Go.Proofs.YtpenleogafdbhaaGreatDoor

namespace Go.Proofs.YtpenleogafdbhaaGreatDoor
open Go.WideShapes Go.WideAt
/-- entries: keys, each with its value -/
abbrev En := Mp Bs
/-- a change is made in entries -/
def doE (l : En) (c : Ch) : En := if c.del = true then mdel c.key l else mput c.key c.val l
def doAll (l : En) (cs : List Ch) : En := cs.foldl doE l
/-- what the tables say of a key, the newest first -/
def lk : List Tab → Bs → Option (Bs × Bool)
  | [], _ => none
  | t :: r, k => (mget k t).or (lk r k)
/-- a value that is not deleted -/
def live : Option (Bs × Bool) → Option Bs
  | none => none
  | some c => if c.2 = true then none else some c.1
theorem live_none : live none = none := rfl
theorem live_some (c : Bs × Bool) : live (some c) = if c.2 = true then none else some c.1 := rfl
theorem srt_over {a : Tab} : ∀ (b : Tab), Srt a → Srt (over a b)
  | b, h => by
    unfold over
    induction b generalizing a with
    | nil => exact h
    | cons p r ih => exact ih (srt_mput _ _ h)
theorem mget_over (k : Bs) : ∀ (b a : Tab), Srt b → mget k (over a b) = (mget k b).or (mget k a)
  | [], a, _ => rfl
  | p :: r, a, h => by
    obtain ⟨h1, h2⟩ := List.pairwise_cons.1 h
    show mget k (over (mput p.1 p.2 a) r) = _
    rw [mget_over k r _ h2, mget_cons]
    by_cases e : p.1 = k
    · rw [if_pos e]
      subst e
      rw [mget_none.2 fun x hx => (bb_ne (h1 x hx)).symm, mget_mput_same]
      rfl
    · rw [if_neg e, mget_mput_other fun e2 => e e2.symm]
theorem srt_runs : ∀ ts : List Tab, Srt (ts.reverse.foldl over [])
  | [] => srt_nil
  | t :: r => by
    rw [List.reverse_cons, List.foldl_append]
    exact srt_over t (srt_runs r)
theorem mget_runs (k : Bs) : ∀ ts : List Tab, (∀ t ∈ ts, Srt t) → mget k (ts.reverse.foldl over []) = lk ts k
  | [], _ => rfl
  | t :: r, h => by
    rw [List.reverse_cons, List.foldl_append]
    show mget k (over _ t) = _
    rw [mget_over k t _ (h t List.mem_cons_self), mget_runs k r fun x hx => h x (List.mem_cons_of_mem _ hx)]
    rfl
theorem mget_filter {α : Type} (q : α → Bool) (k : Bs) : ∀ m : Mp α, Srt m → mget k (m.filter fun p => q p.2) = (mget k m).filter q
  | [], _ => rfl
  | p :: r, h => by
    obtain ⟨h1, h2⟩ := List.pairwise_cons.1 h
    rw [List.filter_cons, mget_cons]
    by_cases e : p.1 = k
    · rw [if_pos e]
      by_cases hq : q p.2 = true
      · rw [if_pos hq, mget_cons, if_pos e]
        exact (show (if q p.2 = true then some p.2 else none) = some p.2 from if_pos hq).symm
      · rw [if_neg hq]
        subst e
        rw [mget_none.2 fun x hx => (bb_ne (h1 x (List.mem_filter.1 hx).1)).symm]
        unfold Option.filter
        simp only [if_neg hq]
    · rw [if_neg e]
      split
      · rw [mget_cons, if_neg e]
        exact mget_filter q k r h2
      · exact mget_filter q k r h2
/-- the entries that memory and runs make up -/
def allOf (mem : Tab) (ts : List Tab) : Tab := (over (ts.reverse.foldl over []) mem).filter fun p => !p.2.2
theorem all_eq (s : St) : s.all = allOf s.mem s.runs := rfl
theorem srt_all (mem : Tab) (ts : List Tab) : Srt (allOf mem ts) := List.Pairwise.filter _ (srt_over mem (srt_runs ts))
theorem mget_all (k : Bs) {mem : Tab} {ts : List Tab} (hm : Srt mem) (h : ∀ t ∈ ts, Srt t) : mget k (allOf mem ts) = (lk (mem :: ts) k).filter fun c => !c.2 := by
  unfold allOf
  rw [mget_filter (fun c : Bs × Bool => !c.2) k _ (srt_over mem (srt_runs ts)), mget_over k mem _ hm, mget_runs k ts h]
  rfl
/-- the entries of a table without deleted keys -/
def ent (t : Tab) : En := mmap Prod.fst t
def nowOf (mem : Tab) (ts : List Tab) : En := ent (allOf mem ts)
def St.now (s : St) : En := ent s.all
theorem now_eq (s : St) : s.now = nowOf s.mem s.runs := rfl
theorem srt_now (mem : Tab) (ts : List Tab) : Srt (nowOf mem ts) := srt_mmap _ (srt_all mem ts)
theorem live_filter (o : Option (Bs × Bool)) : live (o.filter fun c => !c.2) = live o := by
  cases o with
  | none => rfl
  | some c =>
    obtain ⟨v, b⟩ := c
    cases b <;> rfl
theorem map_filter_live (o : Option (Bs × Bool)) : (o.filter fun c => !c.2).map Prod.fst = live o := by
  cases o with
  | none => rfl
  | some c =>
    obtain ⟨v, b⟩ := c
    cases b <;> rfl
theorem mget_now (k : Bs) {mem : Tab} {ts : List Tab} (hm : Srt mem) (h : ∀ t ∈ ts, Srt t) : mget k (nowOf mem ts) = live (lk (mem :: ts) k) := by
  unfold nowOf ent
  rw [mget_mmap, mget_all k hm h, map_filter_live]
theorem now_ext {m m' : Tab} {ts ts' : List Tab} (hm : Srt m) (hm' : Srt m') (h : ∀ t ∈ ts, Srt t) (h' : ∀ t ∈ ts', Srt t) (he : ∀ k, live (lk (m :: ts) k) = live (lk (m' :: ts') k)) : nowOf m ts = nowOf m' ts' :=
  mext (srt_now _ _) (srt_now _ _) fun k => by rw [mget_now k hm h, mget_now k hm' h', he k]
theorem srt_doE {l : En} (c : Ch) (h : Srt l) : Srt (doE l c) := by
  unfold doE
  split
  · exact srt_mdel _ h
  · exact srt_mput _ _ h
theorem srt_doAll : ∀ (cs : List Ch) {l : En}, Srt l → Srt (doAll l cs)
  | [], _, h => h
  | c :: r, _, h => srt_doAll r (srt_doE c h)
theorem mget_doE (k : Bs) (l : En) (c : Ch) : mget k (doE l c) = if k = c.key then (if c.del = true then none else some c.val) else mget k l := by
  unfold doE
  by_cases hd : c.del = true
  · rw [if_pos hd, if_pos hd]
    split
    · rename_i e; rw [e, mget_mdel_same]
    · rename_i e; rw [mget_mdel_other e]
  · rw [if_neg hd, if_neg hd]
    split
    · rename_i e; rw [e, mget_mput_same]
    · rename_i e; rw [mget_mput_other e]
theorem srt_do {t : Tab} (c : Ch) (h : Srt t) : Srt (Tab.do t c) := srt_mput _ _ h
theorem srt_apply : ∀ (cs : List Ch) {t : Tab}, Srt t → Srt (Tab.apply t cs)
  | [], _, h => h
  | c :: r, _, h => srt_apply r (srt_do c h)
theorem live_do (t : Tab) (ts : List Tab) (c : Ch) (k : Bs) : live (lk (Tab.do t c :: ts) k) = if k = c.key then (if c.del = true then none else some c.val) else live (lk (t :: ts) k) := by
  unfold lk Tab.do
  by_cases e : k = c.key
  · rw [if_pos e, e, mget_mput_same]
    cases hd : c.del <;> rfl
  · rw [if_neg e, mget_mput_other e]
/-- a change made in memory is made in the entries -/
theorem now_do {t : Tab} {ts : List Tab} (c : Ch) (hm : Srt t) (h : ∀ t ∈ ts, Srt t) : nowOf (Tab.do t c) ts = doE (nowOf t ts) c :=
  mext (srt_now _ _) (srt_doE c (srt_now _ _)) fun k => by rw [mget_now k (srt_do c hm) h, live_do, mget_doE, mget_now k hm h]
theorem now_apply : ∀ (cs : List Ch) {t : Tab} {ts : List Tab}, Srt t → (∀ t ∈ ts, Srt t) → nowOf (Tab.apply t cs) ts = doAll (nowOf t ts) cs
  | [], _, _, _, _ => rfl
  | c :: r, t, ts, hm, h => by
    show nowOf (Tab.apply (Tab.do t c) r) ts = doAll (doE (nowOf t ts) c) r
    rw [now_apply r (srt_do c hm) h, now_do c hm h]
/-- memory goes to a run -/
theorem now_flush {t : Tab} {ts : List Tab} (hm : Srt t) (h : ∀ t ∈ ts, Srt t) : nowOf [] (t :: ts) = nowOf t ts :=
  now_ext srt_nil hm (fun x hx => (List.mem_cons.1 hx).elim (fun e => e ▸ hm) fun hx => h x hx) h fun k => rfl
theorem now_flush0 {ts : List Tab} {t : Tab} (ht : t.length = 0) : nowOf [] ts = nowOf t ts := by
  rw [List.eq_nil_of_length_eq_zero ht]
/-- runs are merged -/
theorem now_compact {t : Tab} {ts : List Tab} (hm : Srt t) (h : ∀ t ∈ ts, Srt t) : nowOf [] [allOf t ts] = nowOf t ts :=
  now_ext srt_nil hm (fun x hx => by rw [List.mem_singleton.1 hx]; exact srt_all _ _) h fun k => by
    show live ((mget k (allOf t ts)).or none) = _
    rw [mget_all k hm h, Option.or_none, live_filter]
theorem now_compact0 {t : Tab} {ts : List Tab} (hm : Srt t) (h : ∀ t ∈ ts, Srt t) (h0 : (allOf t ts).length = 0) : nowOf [] [] = nowOf t ts := by
  refine now_ext srt_nil hm (fun x hx => by cases hx) h fun k => ?_
  rw [← live_filter (lk (t :: ts) k), ← mget_all k hm h, List.eq_nil_of_length_eq_zero h0]
  rfl
/-- how many keys tables have -/
def cntT (ts : List Tab) : Nat := (ts.map List.length).sum
def cntG (gs : List (List Ch)) : Nat := (gs.map List.length).sum
theorem len_mput_le {α : Type} (k : Bs) (v : α) (m : Mp α) (h : Srt m) : (mput k v m).length ≤ m.length + 1 := by
  rw [length_mput h]
  split <;> omega
theorem len_over (b : Tab) : ∀ (a : Tab), Srt a → (over a b).length ≤ a.length + b.length := by
  induction b with
  | nil => intro a _; exact Nat.le_refl _
  | cons p r ih =>
    intro a ha
    have h1 := ih (mput p.1 p.2 a) (srt_mput _ _ ha)
    have h2 := len_mput_le p.1 p.2 a ha
    show (over (mput p.1 p.2 a) r).length ≤ _
    rw [List.length_cons]
    omega
theorem len_runs : ∀ ts : List Tab, (ts.reverse.foldl over []).length ≤ cntT ts
  | [] => Nat.le_refl _
  | t :: r => by
    rw [List.reverse_cons, List.foldl_append]
    have h1 := len_over t _ (srt_runs r)
    have h2 := len_runs r
    show (over _ t).length ≤ _
    unfold cntT at *
    rw [List.map_cons, List.sum_cons]
    omega
theorem len_all (t : Tab) (ts : List Tab) : (allOf t ts).length ≤ t.length + cntT ts := by
  unfold allOf
  have h1 := List.length_filter_le (fun p : Bs × (Bs × Bool) => !p.2.2) (over (ts.reverse.foldl over []) t)
  have h2 := len_over t _ (srt_runs ts)
  have h3 := len_runs ts
  omega
theorem len_apply : ∀ (cs : List Ch) (t : Tab), Srt t → (Tab.apply t cs).length ≤ t.length + cs.length
  | [], t, _ => Nat.le_refl _
  | c :: r, t, h => by
    have h1 := len_apply r (Tab.do t c) (srt_do c h)
    have h2 : (Tab.do t c).length ≤ t.length + 1 := len_mput_le _ _ _ h
    show (Tab.apply (Tab.do t c) r).length ≤ _
    rw [List.length_cons]
    omega
/-- the memory that groups make up -/
def memOf (gs : List (List Ch)) : Tab := gs.foldl Tab.apply []
theorem srt_groups : ∀ (gs : List (List Ch)) {t : Tab}, Srt t → Srt (gs.foldl Tab.apply t)
  | [], _, h => h
  | g :: r, _, h => srt_groups r (srt_apply g h)
theorem srt_mem (gs : List (List Ch)) : Srt (memOf gs) := srt_groups gs srt_nil
theorem len_groups : ∀ (gs : List (List Ch)) (t : Tab), Srt t → (gs.foldl Tab.apply t).length ≤ t.length + cntG gs
  | [], t, _ => Nat.le_refl _
  | g :: r, t, h => by
    have h1 := len_groups r (Tab.apply t g) (srt_apply g h)
    have h2 := len_apply g t h
    show (r.foldl Tab.apply (Tab.apply t g)).length ≤ _
    unfold cntG at *
    rw [List.map_cons, List.sum_cons]
    omega
theorem len_mem (gs : List (List Ch)) : (memOf gs).length ≤ cntG gs := by
  have := len_groups gs [] srt_nil
  simpa [memOf] using this
/-- changes of tables -/
theorem okCh_changes_mput {t : Tab} {k v : Bs} {b : Bool} (h : ∀ c ∈ Tab.changes t, okCh c) (hc : okCh ⟨k, v, b⟩) : ∀ c ∈ Tab.changes (mput k (v, b) t), okCh c := by
  intro c hx
  obtain ⟨p, hp, rfl⟩ := List.mem_map.1 hx
  rcases mem_mput.1 hp with rfl | ⟨hp, -⟩
  · exact hc
  · exact h _ (List.mem_map.2 ⟨p, hp, rfl⟩)
theorem okCh_do {t : Tab} {c : Ch} (h : ∀ c ∈ Tab.changes t, okCh c) (hc : okCh c) : ∀ x ∈ Tab.changes (Tab.do t c), okCh x := by
  refine okCh_changes_mput h ⟨hc.1, ?_, ?_⟩
  · show (if c.del = true then [] else c.val).length ≤ 64
    split
    · decide
    · exact hc.2.1
  · intro hd
    show (if c.del = true then [] else c.val) = []
    rw [if_pos hd]
theorem okCh_apply : ∀ (cs : List Ch) {t : Tab}, (∀ c ∈ Tab.changes t, okCh c) → (∀ c ∈ cs, okCh c) → ∀ x ∈ Tab.changes (Tab.apply t cs), okCh x
  | [], _, h, _ => h
  | c :: r, _, h, hc => okCh_apply r (okCh_do h (hc c List.mem_cons_self)) fun x hx => hc x (List.mem_cons_of_mem _ hx)
theorem okCh_groups : ∀ (gs : List (List Ch)) {t : Tab}, (∀ c ∈ Tab.changes t, okCh c) → (∀ g ∈ gs, ∀ c ∈ g, okCh c) → ∀ x ∈ Tab.changes (gs.foldl Tab.apply t), okCh x
  | [], _, h, _ => h
  | g :: r, _, h, hg => okCh_groups r (okCh_apply g h (hg g List.mem_cons_self)) fun x hx => hg x (List.mem_cons_of_mem _ hx)
theorem okCh_mem {gs : List (List Ch)} (h : ∀ g ∈ gs, ∀ c ∈ g, okCh c) : ∀ x ∈ Tab.changes (memOf gs), okCh x := okCh_groups gs (fun c hc => by cases hc) h
theorem okCh_over {b : Tab} (hb : ∀ c ∈ Tab.changes b, okCh c) : ∀ {a : Tab}, (∀ c ∈ Tab.changes a, okCh c) → ∀ c ∈ Tab.changes (over a b), okCh c := by
  unfold over
  induction b with
  | nil => intro a h; exact h
  | cons p r ih =>
    intro a h
    refine ih (fun c hc => hb c (List.mem_cons_of_mem _ hc)) (okCh_changes_mput h ?_)
    exact hb _ List.mem_cons_self
theorem okCh_runs : ∀ (ts : List Tab), (∀ t ∈ ts, ∀ c ∈ Tab.changes t, okCh c) → ∀ c ∈ Tab.changes (ts.reverse.foldl over []), okCh c
  | [], _ => fun c hc => by cases hc
  | t :: r, h => by
    rw [List.reverse_cons, List.foldl_append]
    exact okCh_over (h t List.mem_cons_self) (okCh_runs r fun x hx => h x (List.mem_cons_of_mem _ hx))
theorem okCh_all {t : Tab} {ts : List Tab} (h : ∀ c ∈ Tab.changes t, okCh c) (hs : ∀ t ∈ ts, ∀ c ∈ Tab.changes t, okCh c) : ∀ c ∈ Tab.changes (allOf t ts), okCh c := by
  intro c hc
  obtain ⟨p, hp, rfl⟩ := List.mem_map.1 hc
  exact okCh_over h (okCh_runs ts hs) _ (List.mem_map.2 ⟨p, (List.mem_filter.1 hp).1, rfl⟩)
/-- how long changes are, written -/
theorem ch_len {c : Ch} (h : okCh c) : c.bytes.length ≤ 83 := by
  unfold Ch.bytes
  have h1 := h.1
  have h2 := h.2.1
  split <;> simp <;> omega
theorem chs_len : ∀ (l : List Ch), (∀ c ∈ l, okCh c) → (chBytes l).length ≤ 83 * l.length
  | [], _ => Nat.le_refl _
  | c :: r, h => by
    have h1 := ch_len (h c List.mem_cons_self)
    have h2 := chs_len r fun x hx => h x (List.mem_cons_of_mem _ hx)
    unfold chBytes at *
    rw [List.flatMap_cons, List.length_append, List.length_cons]
    omega
theorem changes_len (t : Tab) : (Tab.changes t).length = t.length := List.length_map _
end Go.Proofs.YtpenleogafdbhaaGreatDoor

namespace Go.Proofs.YtpenleogafdbhaaGreatDoor
open Go.WideShapes Go.WideAt
theorem decFrom_snoc (b : UInt8) (e : Nat) (hb : Lib.digitVal b = some e) : ∀ (l : List UInt8) (acc n : Nat), Lib.decFrom acc l = some n → Lib.decFrom acc (l ++ [b]) = some (n * 10 + e)
  | [], acc, n, h => by
    cases h
    show (match Lib.digitVal b with | some d => Lib.decFrom (acc * 10 + d) [] | none => none) = _
    rw [hb]
    rfl
  | c :: r, acc, n, h => by
    unfold Lib.decFrom at h
    show (match Lib.digitVal c with | some d => Lib.decFrom (acc * 10 + d) (r ++ [b]) | none => none) = _
    cases hc : Lib.digitVal c with
    | none => rw [hc] at h; cases h
    | some d =>
      rw [hc] at h
      exact decFrom_snoc b e hb r _ n h
theorem digit_val (x : Nat) (h : x < 10) : Lib.digitVal (UInt8.ofNat (48 + x)) = some x := by
  unfold Lib.digitVal
  have e : (UInt8.ofNat (48 + x)).toNat = 48 + x := by rw [UInt8.toNat_ofNat']; omega
  rw [e, if_pos (by omega)]
  congr 1
  omega
theorem dec_back (n : Nat) : Lib.decFrom 0 (Lib.decDigits n) = some n := by
  induction n using Nat.strongRecOn with
  | ind n ih =>
    rw [Lib.decDigits]
    by_cases h : n < 10
    · rw [dif_pos h]
      have := decFrom_snoc _ _ (digit_val n h) [] 0 0 rfl
      rw [List.nil_append] at this
      rw [this]
      congr 1
      omega
    · rw [dif_neg h]
      rw [decFrom_snoc _ _ (digit_val (n % 10) (Nat.mod_lt _ (by decide))) _ _ _ (ih (n / 10) (by omega))]
      congr 1
      omega
theorem itoa_inj {a b : Nat} (h : itoa a = itoa b) : a = b := by
  have h1 := dec_back a
  have h2 := dec_back b
  unfold itoa at h
  rw [h, h2] at h1
  exact (Option.some.inj h1).symm
theorem nLog_inj {a b : Nat} (h : nLog a = nLog b) : a = b := itoa_inj (List.append_cancel_left h)
theorem nRun_inj {a b : Nat} (h : nRun a = nRun b) : a = b := itoa_inj (List.append_cancel_left h)
theorem log_run (a b : Nat) : nLog a ≠ nRun b := fun h => by injection h with h1; revert h1; decide
theorem head_log (a : Nat) : nHead ≠ nLog a := fun h => by injection h with h1; revert h1; decide
theorem head_run (a : Nat) : nHead ≠ nRun a := fun h => by injection h with h1; revert h1; decide
theorem fresh_log (a : Nat) : nFresh ≠ nLog a := fun h => by injection h with h1; revert h1; decide
theorem fresh_run (a : Nat) : nFresh ≠ nRun a := fun h => by injection h with h1; revert h1; decide
theorem fresh_head : nFresh ≠ nHead := by decide
theorem nd_le : ∀ (k n : Nat), n < 10 ^ (k + 1) → Lib.nDigits n ≤ k + 1
  | 0, n, h => by rw [Lib.nDigits_small (by simpa using h)]; exact Nat.le_refl _
  | k + 1, n, h => by
    by_cases h10 : n < 10
    · rw [Lib.nDigits_small h10]; omega
    · rw [Lib.nDigits_big h10]
      have := nd_le k (n / 10) (by rw [Nat.pow_succ] at h; omega)
      omega
theorem itoa_len {n : Nat} (h : n < 100000000) : (itoa n).length ≤ 8 := by
  unfold itoa
  rw [Lib.decDigits_length]
  exact nd_le 7 n (by simpa using h)
theorem itoa_pos (n : Nat) : 1 ≤ (itoa n).length := by
  unfold itoa
  rw [Lib.decDigits_length]
  exact Lib.nDigits_pos n
theorem bad_log {n : Nat} (h : n < 100000000) : badName (nLog n) = false := by
  have := itoa_len h
  unfold badName nLog
  simp
  omega
theorem bad_run {n : Nat} (h : n < 100000000) : badName (nRun n) = false := by
  have := itoa_len h
  unfold badName nRun
  simp
  omega
/-- the time goes on -/
structure Stp (d d' : Dk) : Prop where
  opened : d'.opened = d.opened
  left0 : d.left = 0 → d'.left = 0
  left : d'.left ≤ d.left
theorem Stp.refl (d : Dk) : Stp d d := ⟨rfl, id, Nat.le_refl _⟩
theorem Stp.trans {a b c : Dk} (h : Stp a b) (k : Stp b c) : Stp a c := ⟨k.opened.trans h.opened, fun e => k.left0 (h.left0 e), Nat.le_trans k.left h.left⟩
theorem act_files (d : Dk) : d.act.files = d.files := by unfold Dk.act; split <;> rfl
theorem act_stp (d : Dk) : Stp d d.act := by
  unfold Dk.act
  split
  · exact ⟨rfl, fun e => by omega, Nat.sub_le _ _⟩
  · exact Stp.refl d
theorem act_cases (d : Dk) (h : d.down = false) : (d.act.down = false) ∨ (d.act.down = true ∧ 0 < d.left) := by
  unfold Dk.act
  split
  · cases e : (d.left == 1) with
    | false => exact .inl rfl
    | true => exact .inr ⟨rfl, by assumption⟩
  · exact .inl h
theorem Dk.Ok.files {d d' : Dk} (h : d.Ok) (hf : d'.files = d.files) (hl : d'.left ≤ d.left) (ho : d'.opened = d.opened) : d'.Ok :=
  ⟨hf ▸ h.srt, hf ▸ h.few, by unfold Dk.size; rw [hf]; exact h.size, Nat.lt_of_le_of_lt hl h.left, ho ▸ h.opened, hf ▸ h.safe, hf ▸ h.name⟩
theorem Dk.Ok.act {d : Dk} (h : d.Ok) : d.act.Ok := h.files (act_files d) (act_stp d).left (act_stp d).opened
/-- the bytes of all files -/
def sizeF (m : Mp Fl) : Nat := (m.map fun p => p.2.data.length).sum
theorem size_eq (d : Dk) : d.size = sizeF d.files := rfl
theorem sizeF_cons (p : Bs × Fl) (m : Mp Fl) : sizeF (p :: m) = p.2.data.length + sizeF m := by unfold sizeF; rw [List.map_cons, List.sum_cons]
theorem sizeF_mins (x : Bs × Fl) : ∀ m : Mp Fl, sizeF (mins x m) = x.2.data.length + sizeF m
  | [] => sizeF_cons x []
  | y :: r => by
    unfold mins
    split
    · exact sizeF_cons _ _
    · rw [sizeF_cons, sizeF_cons, sizeF_mins x r]
      omega
def lenO : Option Fl → Nat
  | none => 0
  | some f => f.data.length
theorem sizeF_mdel (k : Bs) : ∀ m : Mp Fl, Srt m → sizeF (mdel k m) + lenO (mget k m) = sizeF m
  | [], _ => rfl
  | p :: r, hs => by
    obtain ⟨h1, h2⟩ := List.pairwise_cons.1 hs
    by_cases hk : p.1 = k
    · have e : mdel k (p :: r) = mdel k r := by
        unfold mdel
        rw [List.filter_cons, if_neg (by simp [hk])]
      have e2 : mget k r = none := mget_none.2 fun x hx => by rw [← hk]; exact (bb_ne (h1 x hx)).symm
      rw [e, mdel_none e2, mget_cons, if_pos hk, sizeF_cons]
      show sizeF r + p.2.data.length = _
      omega
    · have e : mdel k (p :: r) = p :: mdel k r := by
        unfold mdel
        rw [List.filter_cons, if_pos (by simp [hk])]
      have ih := sizeF_mdel k r h2
      rw [e, mget_cons, if_neg hk, sizeF_cons, sizeF_cons]
      omega
theorem sizeF_mput (k : Bs) (f : Fl) (m : Mp Fl) (hs : Srt m) : sizeF (mput k f m) + lenO (mget k m) = f.data.length + sizeF m := by
  unfold mput
  rw [sizeF_mins]
  have := sizeF_mdel k m hs
  show f.data.length + sizeF (mdel k m) + _ = _
  omega
theorem bytes_len (d : Dk) (s : Bs) : (d.bytes s).length = lenO (mget s d.files) := by
  unfold Dk.bytes
  cases mget s d.files <;> rfl
/-- files whose names are among some are no longer than these, and no more -/
theorem size_keep : ∀ (L : List Bs) (m : Mp Fl), Srt m → (∀ p ∈ m, p.1 ∈ L) → sizeF m ≤ (L.map fun s => lenO (mget s m)).sum ∧ m.length ≤ L.length
  | [], m, _, h => by
    have : m = [] := List.eq_nil_iff_forall_not_mem.2 fun p hp => by cases h p hp
    subst this
    exact ⟨Nat.le_refl _, Nat.le_refl _⟩
  | s :: L, m, hs, h => by
    obtain ⟨h1, h2⟩ := size_keep L (mdel s m) (srt_mdel s hs) fun p hp => by
      obtain ⟨a, b⟩ := mem_mdel.1 hp
      exact (List.mem_cons.1 (h p a)).resolve_left b
    have h3 := sizeF_mdel s m hs
    have h4 := length_mdel (k := s) hs
    have h5 : (L.map fun x => lenO (mget x (mdel s m))).sum ≤ (L.map fun x => lenO (mget x m)).sum := by
      clear h1 h2 h h3 h4
      induction L with
      | nil => exact Nat.le_refl _
      | cons x r ih =>
        rw [List.map_cons, List.map_cons, List.sum_cons, List.sum_cons]
        have : lenO (mget x (mdel s m)) ≤ lenO (mget x m) := by
          by_cases e : x = s
          · rw [e, mget_mdel_same]; exact Nat.zero_le _
          · rw [mget_mdel_other e]; exact Nat.le_refl _
        omega
    refine ⟨?_, ?_⟩
    · rw [List.map_cons, List.sum_cons]
      omega
    · rw [List.length_cons]
      split at h4 <;> omega
/-- the names of a head's files -/
def keepOf (h : Hd) : List Bs := nHead :: nLog h.log :: h.runs.map nRun
/-- what a disk has for a head, runs, groups and a torn end; m groups are synced; other files play no part -/
structure Base (d : Dk) (h : Hd) (ts : List Tab) (gs : List (List Ch)) (tail : Bs) (m : Nat) : Prop where
  ok : d.Ok
  names : ∀ p ∈ d.files, okName p.1
  head : (∃ f, mget nHead d.files = some f ∧ f.data = h.bytes ∧ f.safe = f.data.length) ∨ (mget nHead d.files = none ∧ h = ⟨0, [], 1⟩)
  num : h.log < h.next ∧ ∀ r ∈ h.runs, r < h.next
  nd : h.runs.Nodup
  big : h.next < 100000000
  runs : h.runs.length = ts.length
  few : ts.length ≤ 8
  run : ∀ i, i < ts.length → ∃ f, mget (nRun (h.runs.getD i 0)) d.files = some f ∧ f.data = blk (chBytes (ts.getD i []).changes) ∧ f.safe = f.data.length
  tab : ∀ t ∈ ts, Srt t ∧ ∀ c ∈ Tab.changes t, okCh c
  log : d.bytes (nLog h.log) = logOf gs ++ tail
  grp : ∀ g ∈ gs, (g ≠ [] ∧ g.length ≤ 20) ∧ ∀ c ∈ g, okCh c
  torn : torn tail
  tlen : tail.length ≤ 2000
  tl : tail ≠ [] → m = gs.length
  mle : m ≤ gs.length
  safe : ∀ f, mget (nLog h.log) d.files = some f → (logOf (gs.take m)).length ≤ f.safe
section
variable {d d' : Dk} {h : Hd} {ts : List Tab} {gs : List (List Ch)} {tail : Bs} {m : Nat}
theorem Base.srtT (b : Base d h ts gs tail m) : ∀ t ∈ ts, Srt t := fun t ht => (b.tab t ht).1
/-- other files turn -/
theorem Base.other (b : Base d h ts gs tail m) (ok : d'.Ok) (names : ∀ p ∈ d'.files, okName p.1) (hk : ∀ s ∈ keepOf h, mget s d'.files = mget s d.files) : Base d' h ts gs tail m := by
  have k0 := hk nHead List.mem_cons_self
  have k1 := hk (nLog h.log) (List.mem_cons_of_mem _ List.mem_cons_self)
  refine ⟨ok, names, by rw [k0]; exact b.head, b.num, b.nd, b.big, b.runs, b.few, fun i hi => ?_, b.tab, ?_, b.grp, b.torn, b.tlen, b.tl, b.mle, by rw [k1]; exact b.safe⟩
  · rw [hk (nRun (h.runs.getD i 0)) (List.mem_cons_of_mem _ (List.mem_cons_of_mem _ (List.mem_map.2 ⟨_, ?_, rfl⟩)))]
    · exact b.run i hi
    · have : i < h.runs.length := by rw [b.runs]; exact hi
      rw [List.getD_eq_getElem?_getD, List.getElem?_eq_getElem this]
      exact List.getElem_mem this
  · have := b.log
    unfold Dk.bytes at *
    rwa [k1]
theorem Base.stp (b : Base d h ts gs tail m) (hf : d'.files = d.files) (hs : Stp d d') : Base d' h ts gs tail m :=
  b.other (b.ok.files hf hs.left hs.opened) (by rw [hf]; exact b.names) fun s _ => by rw [hf]
theorem torn_take {b : Bs} (h : Go.Proofs.YtpenleogafdbhaaGreatDoor.torn b) (n : Nat) : Go.Proofs.YtpenleogafdbhaaGreatDoor.torn (b.take n) := by
  rcases h with h | ⟨c, h1, h2, h3⟩
  · exact .inl (by rw [List.length_take]; omega)
  · refine .inr ⟨c, h1, by rw [List.length_take]; omega, ?_⟩
    have e : (b.take n).length = min n b.length := List.length_take
    rw [e]
    conv => lhs; rw [h3]
    rw [List.take_take]
theorem logOf_cons (g : List Ch) (r : List (List Ch)) : logOf (g :: r) = blk (chBytes g) ++ logOf r := by unfold logOf; rw [List.flatMap_cons]
theorem logOf_snoc (g : List Ch) : ∀ r : List (List Ch), logOf (r ++ [g]) = logOf r ++ blk (chBytes g) := fun r => by
  unfold logOf
  rw [List.flatMap_append]
  simp
/-- a log is cut -/
theorem cut_log : ∀ (gs : List (List Ch)) (tail : Bs) (n : Nat), (∀ g ∈ gs, (chBytes g).length ≤ 1660) → Go.Proofs.YtpenleogafdbhaaGreatDoor.torn tail → tail.length ≤ 2000 → n ≤ (logOf gs ++ tail).length →
    ∃ j tail', j ≤ gs.length ∧ (Go.Proofs.YtpenleogafdbhaaGreatDoor.torn tail' ∧ tail'.length ≤ 2000) ∧ (logOf gs ++ tail).take n = logOf (gs.take j) ++ tail' ∧ ∀ m, m ≤ gs.length → (logOf (gs.take m)).length ≤ n → m ≤ j
  | [], tail, n, _, ht, hl, _ => ⟨0, tail.take n, Nat.le_refl _, ⟨torn_take ht n, by rw [List.length_take]; omega⟩, rfl, fun m hm _ => hm⟩
  | g :: r, tail, n, hg, ht, htl, hn => by
    have e : logOf (g :: r) ++ tail = blk (chBytes g) ++ (logOf r ++ tail) := by rw [logOf_cons, List.append_assoc]
    by_cases hlt : n < (blk (chBytes g)).length
    · refine ⟨0, (blk (chBytes g)).take n, Nat.zero_le _, ⟨.inr ⟨chBytes g, Nat.lt_of_le_of_lt (hg g List.mem_cons_self) (by decide), by rw [List.length_take]; omega, by rw [List.length_take, Nat.min_eq_left (Nat.le_of_lt hlt)]⟩, by
        have := hg g List.mem_cons_self
        rw [blk_len] at hlt
        rw [List.length_take]
        omega⟩, ?_, ?_⟩
      · rw [e, List.take_append_of_le_length (Nat.le_of_lt hlt)]
        rfl
      · intro m _ hl
        cases m with
        | zero => exact Nat.le_refl _
        | succ m =>
          rw [List.take_succ_cons, logOf_cons, List.length_append] at hl
          omega
    · obtain ⟨j, t', h1, h2, h3, h4⟩ := cut_log r tail (n - (blk (chBytes g)).length) (fun x hx => hg x (List.mem_cons_of_mem _ hx)) ht htl (by rw [e, List.length_append] at hn; omega)
      refine ⟨j + 1, t', Nat.succ_le_succ h1, h2, ?_, ?_⟩
      · rw [e, List.take_append, List.take_of_length_le (by omega), h3, List.take_succ_cons, logOf_cons, List.append_assoc]
      · intro m hm hl
        cases m with
        | zero => exact Nat.zero_le _
        | succ m =>
          rw [List.take_succ_cons, logOf_cons, List.length_append] at hl
          exact Nat.succ_le_succ (h4 m (by simpa using hm) (by omega))
theorem Base.glen (b : Base d h ts gs tail m) : ∀ g ∈ gs, (chBytes g).length ≤ 1660 := fun g hg => by
  have h1 := chs_len g (b.grp g hg).2
  have h2 := (b.grp g hg).1.2
  omega
theorem restart_files (d : Dk) (keep : Int) : (d.restart keep).files = mmap (fun f => f.cut keep.toNat) d.files := rfl
theorem fcut_le (f : Fl) (k : Nat) (h : f.safe ≤ f.data.length) : f.safe ≤ (f.cut k).safe ∧ (f.cut k).safe ≤ f.data.length ∧ (f.cut k).data = f.data.take (f.cut k).safe ∧ (f.cut k).data.length = (f.cut k).safe := by
  have : k % (f.data.length - f.safe + 1) < f.data.length - f.safe + 1 := Nat.mod_lt _ (by omega)
  refine ⟨?_, ?_, rfl, ?_⟩
  · show f.safe ≤ f.safe + _
    omega
  · show f.safe + _ ≤ _
    omega
  · show (f.data.take (f.safe + _)).length = f.safe + _
    rw [List.length_take]
    omega
theorem fcut_full (f : Fl) (k : Nat) (h : f.safe = f.data.length) : f.cut k = f := by
  obtain ⟨h1, h2, h3, h4⟩ := fcut_le f k (Nat.le_of_eq h)
  have e : (f.cut k).safe = f.data.length := by omega
  have e2 : (f.cut k).data = f.data := by rw [h3, e, List.take_length]
  cases hf : f.cut k with
  | mk dt sf =>
    rw [hf] at e e2
    cases f
    simp only at e e2 h
    rw [e, e2, h]
theorem sizeF_cut (k : Nat) : ∀ m : Mp Fl, (∀ p ∈ m, p.2.safe ≤ p.2.data.length) → sizeF (mmap (fun f => f.cut k) m) ≤ sizeF m
  | [], _ => Nat.le_refl _
  | p :: r, h => by
    have h1 := sizeF_cut k r fun x hx => h x (List.mem_cons_of_mem _ hx)
    obtain ⟨_, h2, _, h4⟩ := fcut_le p.2 k (h p List.mem_cons_self)
    rw [mmap_cons, sizeF_cons, sizeF_cons]
    show (p.2.cut k).data.length + _ ≤ _
    omega
theorem restart_ok (ok : d.Ok) (ho : d.opened + 1 < 1000000000) (keep : Int) : (d.restart keep).Ok :=
  ⟨(show Srt (d.restart keep).files by rw [restart_files]; exact srt_mmap _ ok.srt), by rw [restart_files, mmap_length]; exact ok.few, by rw [size_eq, restart_files]; exact Nat.le_trans (sizeF_cut _ _ ok.safe) ok.size, by show 0 < _; decide, ho,
    fun p hp => by
      rw [restart_files] at hp
      obtain ⟨x, hx, e⟩ := mem_mmap.1 (show (p.1, p.2) ∈ _ from hp)
      rw [← e]
      exact Nat.le_of_eq (fcut_le x _ (ok.safe (p.1, x) hx)).2.2.2.symm,
    fun p hp => by
      rw [restart_files] at hp
      obtain ⟨x, hx, e⟩ := mem_mmap.1 (show (p.1, p.2) ∈ _ from hp)
      exact ok.name (p.1, x) hx⟩
/-- after a restart a disk has some of the groups, all synced ones among them -/
theorem Base.restart (b : Base d h ts gs tail m) (ho : d.opened + 1 < 1000000000) (keep : Int) :
    ∃ j tail', m ≤ j ∧ j ≤ gs.length ∧ Base (d.restart keep) h ts (gs.take j) tail' (gs.take j).length := by
  have hcutf : ∀ s f, mget s d.files = some f → f.safe = f.data.length → mget s (d.restart keep).files = some f := fun s f h1 h2 => by
    rw [restart_files, mget_mmap, h1]
    exact congrArg some (fcut_full f _ h2)
  have hnames : ∀ p ∈ (d.restart keep).files, okName p.1 := fun p hp => by
    rw [restart_files] at hp
    obtain ⟨x, hx, e⟩ := mem_mmap.1 (show (p.1, p.2) ∈ _ from hp)
    exact b.names (p.1, x) hx
  have hhead : (∃ f, mget nHead (d.restart keep).files = some f ∧ f.data = h.bytes ∧ f.safe = f.data.length) ∨ (mget nHead (d.restart keep).files = none ∧ h = ⟨0, [], 1⟩) := by
    rcases b.head with ⟨f, h1, h2, h3⟩ | ⟨h1, h2⟩
    · exact .inl ⟨f, hcutf _ _ h1 h3, h2, h3⟩
    · exact .inr ⟨by rw [restart_files, mget_mmap, h1]; rfl, h2⟩
  have hrun : ∀ i, i < ts.length → ∃ f, mget (nRun (h.runs.getD i 0)) (d.restart keep).files = some f ∧ f.data = blk (chBytes (ts.getD i []).changes) ∧ f.safe = f.data.length := fun i hi => by
    obtain ⟨f, h1, h2, h3⟩ := b.run i hi
    exact ⟨f, hcutf _ _ h1 h3, h2, h3⟩
  cases hl : mget (nLog h.log) d.files with
  | none =>
    have hlog := b.log
    have e0 : logOf gs ++ tail = [] := by
      rw [← hlog]
      unfold Dk.bytes
      rw [hl]
    have hr : mget (nLog h.log) (d.restart keep).files = none := by rw [restart_files, mget_mmap, hl]; rfl
    refine ⟨gs.length, tail, b.mle, Nat.le_refl _, ?_⟩
    rw [List.take_length]
    refine ⟨restart_ok b.ok ho keep, hnames, hhead, b.num, b.nd, b.big, b.runs, b.few, hrun, b.tab, ?_, b.grp, b.torn, b.tlen, fun _ => rfl, Nat.le_refl _, fun f hf => by rw [hr] at hf; cases hf⟩
    rw [e0]
    unfold Dk.bytes
    rw [hr]
  | some f =>
    have hfm := mget_mem hl
    obtain ⟨c1, c2, c3, c4⟩ := fcut_le f keep.toNat (b.ok.safe _ hfm)
    have hlog : f.data = logOf gs ++ tail := by
      have := b.log
      unfold Dk.bytes at this
      rw [hl] at this
      exact this
    obtain ⟨j, t', h1, h2, h3, h4⟩ := cut_log gs tail (f.cut keep.toNat).safe b.glen b.torn b.tlen (by rw [← hlog]; exact c2)
    have hr : mget (nLog h.log) (d.restart keep).files = some (f.cut keep.toNat) := by rw [restart_files, mget_mmap, hl]; rfl
    refine ⟨j, t', h4 m b.mle (Nat.le_trans (b.safe f hl) c1), h1, ?_⟩
    refine ⟨restart_ok b.ok ho keep, hnames, hhead, b.num, b.nd, b.big, b.runs, b.few, hrun, b.tab, ?_, fun g hg => b.grp g (List.mem_of_mem_take hg), h2.1, h2.2, fun _ => rfl, Nat.le_refl _, fun f' hf => ?_⟩
    · unfold Dk.bytes
      rw [hr]
      show (f.cut keep.toNat).data = _
      rw [c3, hlog, h3]
    · rw [hr] at hf
      cases hf
      rw [List.take_length, ← c4, c3, hlog, h3, List.length_append]
      omega
end
end Go.Proofs.YtpenleogafdbhaaGreatDoor

namespace Go.Proofs.YtpenleogafdbhaaGreatDoor
open Go.WideShapes Go.WideAt
/-- how an act, or some, end -/
structure Res (d : Dk) (r : Nat × Dk) : Prop where
  ok : r.2.Ok
  stp : Stp d r.2
  ends : (r.1 = 0 ∧ r.2.down = false) ∨ (r.1 = 8 ∧ r.2.down = true ∧ 0 < d.left)
theorem Res.then {d : Dk} {r q : Nat × Dk} (h : Res d r) (k : Res r.2 q) : Res d q :=
  ⟨k.ok, h.stp.trans k.stp, k.ends.imp id fun ⟨a, b, c⟩ => ⟨a, b, Nat.pos_of_ne_zero fun e => by have := h.stp.left0 e; omega⟩⟩
theorem Res.nz {d : Dk} {r : Nat × Dk} (h : Res d r) (hn : r.1 ≠ 0) : r.1 = 8 ∧ r.2.down = true ∧ 0 < d.left := h.ends.resolve_left fun e => hn e.1
theorem Res.z {d : Dk} {r : Nat × Dk} (h : Res d r) (hn : r.1 = 0) : r.2.down = false := by
  rcases h.ends with h | h
  · exact h.2
  · omega
theorem told_res {d0 d : Dk} (ok : d.Ok) (hs : Stp d0 d) (hl : d.left = d0.left) (up : d.down = false) : Res d0 (Dk.told d) ∧ (Dk.told d).2.files = d.files := by
  refine ⟨⟨ok.act, hs.trans (act_stp d), ?_⟩, act_files d⟩
  unfold Dk.told
  rcases act_cases d up with h | ⟨h, h2⟩
  · exact .inl ⟨by rw [h]; rfl, h⟩
  · exact .inr ⟨by rw [h]; rfl, h, hl ▸ h2⟩
theorem ready_ok {d : Dk} {s : Bs} (hn : badName s = false) (up : d.down = false) : d.ready s = 0 := by
  unfold Dk.ready
  rw [hn, up]
  rfl
theorem append_res {d : Dk} {s b : Bs} (ok : d.Ok) (up : d.down = false) (hn : badName s = false) (hc : d.files.length < 60) (hf : d.size + b.length ≤ 262144) :
    Res d (d.append s b) ∧ (d.append s b).2.files = mput s ⟨((mget s d.files).getD ⟨[], 0⟩).data ++ b, ((mget s d.files).getD ⟨[], 0⟩).safe⟩ d.files := by
  have hnf : ¬ d.full s b := by
    unfold Dk.full
    omega
  unfold Dk.append
  rw [ready_ok hn up, if_neg (by decide), if_neg hnf]
  refine told_res ⟨srt_mput _ _ ok.srt, ?_, ?_, ok.left, ok.opened, fun p hp => ?_, fun p hp => ?_⟩ ⟨rfl, id, Nat.le_refl _⟩ rfl up
  · show (mput _ _ d.files).length ≤ 60
    have := len_mput_le s (⟨((mget s d.files).getD ⟨[], 0⟩).data ++ b, ((mget s d.files).getD ⟨[], 0⟩).safe⟩ : Fl) d.files ok.srt
    omega
  · rw [size_eq]
    have h1 := sizeF_mput s (⟨((mget s d.files).getD ⟨[], 0⟩).data ++ b, ((mget s d.files).getD ⟨[], 0⟩).safe⟩ : Fl) d.files ok.srt
    rw [size_eq] at hf
    show sizeF (mput _ _ d.files) ≤ _
    cases hg : mget s d.files with
    | none => rw [hg] at h1; simp [lenO] at h1; simp; omega
    | some f => rw [hg] at h1; simp [lenO] at h1; simp; omega
  · rcases mem_mput.1 hp with rfl | ⟨hp, -⟩
    · show ((mget s d.files).getD ⟨[], 0⟩).safe ≤ (((mget s d.files).getD ⟨[], 0⟩).data ++ b).length
      cases hg : mget s d.files with
      | none => exact Nat.zero_le _
      | some f =>
        have := ok.safe _ (mget_mem hg)
        rw [List.length_append]
        exact Nat.le_trans this (Nat.le_add_right _ _)
    · exact ok.safe p hp
  · rcases mem_mput.1 hp with rfl | ⟨hp, -⟩
    · exact hn
    · exact ok.name p hp
theorem len_mput_has {k : Bs} {v u : Fl} {m : Mp Fl} (hs : Srt m) (h : mget k m = some u) : (mput k v m).length = m.length := by
  rw [length_mput hs, h]
  rfl
theorem sync_res {d : Dk} {s : Bs} {f : Fl} (ok : d.Ok) (up : d.down = false) (hn : badName s = false) (hf : mget s d.files = some f) :
    Res d (d.sync s) ∧ ((d.sync s).1 = 0 → (d.sync s).2.files = mput s ⟨f.data, f.data.length⟩ d.files) ∧ ((d.sync s).1 ≠ 0 → (d.sync s).2.files = d.files) := by
  unfold Dk.sync
  rw [ready_ok hn up, if_neg (by decide), hf]
  dsimp only
  rcases act_cases d up with h | ⟨h, h2⟩
  · rw [if_neg (by rw [h]; decide)]
    refine ⟨⟨⟨srt_mput _ _ ok.srt, ?_, ?_, ok.act.left, ok.act.opened, fun p hp => ?_, fun p hp => ?_⟩, ⟨(act_stp d).opened, (act_stp d).left0, (act_stp d).left⟩, .inl ⟨rfl, h⟩⟩, fun _ => rfl, fun h => absurd rfl h⟩
    · show (mput _ _ d.files).length ≤ 60
      rw [len_mput_has ok.srt hf]
      exact ok.few
    · rw [size_eq]
      have h1 := sizeF_mput s (⟨f.data, f.data.length⟩ : Fl) d.files ok.srt
      rw [hf] at h1
      have h2 := ok.size
      rw [size_eq] at h2
      show sizeF (mput _ _ d.files) ≤ _
      simp [lenO] at h1
      omega
    · rcases mem_mput.1 hp with rfl | ⟨hp, -⟩
      · exact Nat.le_refl _
      · exact ok.safe p hp
    · rcases mem_mput.1 hp with rfl | ⟨hp, -⟩
      · exact hn
      · exact ok.name p hp
  · rw [if_pos h]
    exact ⟨⟨ok.act, act_stp d, .inr ⟨rfl, h, h2⟩⟩, fun h0 => absurd (show (8 : Nat) = 0 from h0) (by decide), fun _ => act_files d⟩
theorem ok_mdel {d : Dk} (s : Bs) (ok : d.Ok) : Dk.Ok { d with files := mdel s d.files } := by
  refine ⟨srt_mdel _ ok.srt, ?_, ?_, ok.left, ok.opened, fun p hp => ok.safe p (mem_mdel.1 hp).1, fun p hp => ok.name p (mem_mdel.1 hp).1⟩
  · have := length_mdel (k := s) ok.srt
    have := ok.few
    show (mdel s d.files).length ≤ 60
    omega
  · rw [size_eq]
    have h1 := sizeF_mdel s d.files ok.srt
    have h2 := ok.size
    rw [size_eq] at h2
    show sizeF (mdel s d.files) ≤ _
    omega
theorem remove_res {d : Dk} {s : Bs} (ok : d.Ok) (up : d.down = false) (hn : badName s = false) (hf : (mget s d.files).isSome = true) :
    Res d (d.remove s) ∧ (d.remove s).2.files = mdel s d.files := by
  obtain ⟨f, hf⟩ := Option.isSome_iff_exists.1 hf
  unfold Dk.remove
  rw [ready_ok hn up, if_neg (by decide), hf]
  exact told_res (ok_mdel s ok) ⟨rfl, id, Nat.le_refl _⟩ rfl up
theorem rename_res {d : Dk} {s t : Bs} {f : Fl} (ok : d.Ok) (up : d.down = false) (hn : badName s = false) (ht : badName t = false) (hne : s ≠ t) (hf : mget s d.files = some f) :
    Res d (d.rename s t) ∧ (d.rename s t).2.files = mput t f (mdel s d.files) := by
  unfold Dk.rename
  have hr : d.ready2 s t = 0 := by
    unfold Dk.ready2
    rw [if_neg (by rw [hn, ht]; simp [hne]), up]
    rfl
  rw [hr, if_neg (by decide), hf]
  refine told_res ⟨srt_mput _ _ (srt_mdel _ ok.srt), ?_, ?_, ok.left, ok.opened, fun p hp => ?_, fun p hp => ?_⟩ ⟨rfl, id, Nat.le_refl _⟩ rfl up
  · show (mput t f (mdel s d.files)).length ≤ 60
    have h1 := len_mput_le t f (mdel s d.files) (srt_mdel _ ok.srt)
    have h2 := length_mdel (k := s) ok.srt
    rw [hf] at h2
    have := ok.few
    simp at h2
    omega
  · rw [size_eq]
    have h1 := sizeF_mput t f (mdel s d.files) (srt_mdel _ ok.srt)
    have h2 := sizeF_mdel s d.files ok.srt
    rw [hf] at h2
    have h3 := ok.size
    rw [size_eq] at h3
    show sizeF (mput t f (mdel s d.files)) ≤ _
    simp [lenO] at h2
    omega
  · rcases mem_mput.1 hp with rfl | ⟨hp, -⟩
    · exact ok.safe (s, f) (mget_mem hf)
    · exact ok.safe p (mem_mdel.1 hp).1
  · rcases mem_mput.1 hp with rfl | ⟨hp, -⟩
    · exact ht
    · exact ok.name p (mem_mdel.1 hp).1
theorem acts_cons (f : Dk → Nat × Dk) (r : List (Dk → Nat × Dk)) (d : Dk) : acts (f :: r) d = if (f d).1 ≠ 0 then f d else acts r (f d).2 := rfl
theorem acts_app : ∀ (l r : List (Dk → Nat × Dk)) (d : Dk), acts (l ++ r) d = if (acts l d).1 ≠ 0 then acts l d else acts r (acts l d).2
  | [], r, d => rfl
  | f :: l, r, d => by
    rw [List.cons_append, acts_cons, acts_cons]
    by_cases h : (f d).1 ≠ 0
    · rw [if_pos h, if_pos h, if_pos h]
    · rw [if_neg h, if_neg h, acts_app l r]
/-- acts end well, or some act takes the disk down -/
theorem acts_ends (I : Nat → Dk → Prop) (X : Dk → Prop) : ∀ (l : List (Dk → Nat × Dk)) (k : Nat) (d : Dk), d.Ok → I k d → d.down = false →
    (∀ i f, l[i]? = some f → ∀ d, d.Ok → I (k + i) d → d.down = false → Res d (f d) ∧ ((f d).1 = 0 → I (k + i + 1) (f d).2) ∧ ((f d).1 ≠ 0 → X (f d).2)) →
    Res d (acts l d) ∧ ((acts l d).1 = 0 → I (k + l.length) (acts l d).2) ∧ ((acts l d).1 ≠ 0 → X (acts l d).2)
  | [], k, d, ok, h, up, _ => ⟨⟨ok, Stp.refl d, .inl ⟨rfl, up⟩⟩, fun _ => h, fun h => absurd rfl h⟩
  | f :: r, k, d, ok, h, up, hs => by
    obtain ⟨h1, h2, h3⟩ := hs 0 f rfl d ok h up
    rw [acts_cons]
    by_cases e : (f d).1 ≠ 0
    · rw [if_pos e]
      exact ⟨h1, fun h => absurd h e, h3⟩
    · rw [if_neg e]
      have e : (f d).1 = 0 := Decidable.not_not.1 e
      obtain ⟨g1, g2, g3⟩ := acts_ends I X r (k + 1) (f d).2 h1.ok (h2 e) (h1.z e) fun i f' hf d ok hi hu => by
        have := hs (i + 1) f' hf d ok (by rw [show k + (i + 1) = k + 1 + i by omega]; exact hi) hu
        rw [show k + (i + 1) + 1 = k + 1 + i + 1 by omega] at this
        exact this
      refine ⟨h1.then g1, fun h => ?_, g3⟩
      have := g2 h
      rw [show k + 1 + r.length = k + (f :: r).length by rw [List.length_cons]; omega] at this
      exact this
section
variable {d : Dk} {h : Hd} {ts : List Tab} {gs : List (List Ch)} {tail : Bs} {m : Nat}
theorem okName_bad {s : Bs} (h : okName s) : True := trivial
theorem mdel_filter (k : Bs) (L : List Bs) (M : Mp Fl) : (mdel k M).filter (fun p => !L.contains p.1) = M.filter fun p => !(k :: L).contains p.1 := by
  unfold mdel
  rw [List.filter_filter]
  congr 1
  funext p
  rw [List.contains_cons]
  cases h1 : (p.1 == k) <;> cases h2 : L.contains p.1 <;> simp
/-- files that play no part are removed -/
theorem removes_ok : ∀ (L : List Bs) (d : Dk), Base d h ts gs tail m → d.down = false → L.Nodup → (∀ x ∈ L, x ∉ keepOf h ∧ (mget x d.files).isSome = true) →
    Res d (acts (removes L) d) ∧ Base (acts (removes L) d).2 h ts gs tail m ∧ ((acts (removes L) d).1 = 0 → (acts (removes L) d).2.files = d.files.filter fun p => !L.contains p.1)
  | [], d, b, up, _, _ => ⟨⟨b.ok, Stp.refl d, .inl ⟨rfl, up⟩⟩, b, fun _ => (List.filter_eq_self.2 fun _ _ => rfl).symm⟩
  | s :: L, d, b, up, nd, hx => by
    obtain ⟨hk, hs⟩ := hx s List.mem_cons_self
    obtain ⟨f, hf⟩ := Option.isSome_iff_exists.1 hs
    obtain ⟨h1, h2⟩ := remove_res (s := s) b.ok up (b.ok.name (s, f) (mget_mem hf)) hs
    have b2 : Base (d.remove s).2 h ts gs tail m := b.other h1.ok (fun p hp => b.names p (by rw [h2] at hp; exact (mem_mdel.1 hp).1)) fun x hxk => by
      rw [h2]
      exact mget_mdel_other (show x ≠ s from fun e => hk (e ▸ hxk)) _
    obtain ⟨nd1, nd2⟩ := List.nodup_cons.1 nd
    show Res d (acts ((fun d => d.remove s) :: removes L) d) ∧ _
    rw [show removes (s :: L) = (fun d => d.remove s) :: removes L from rfl, acts_cons]
    by_cases e : (d.remove s).1 ≠ 0
    · rw [if_pos e]
      exact ⟨h1, b2, fun h => absurd h e⟩
    · rw [if_neg e]
      have e : (d.remove s).1 = 0 := Decidable.not_not.1 e
      obtain ⟨g1, g2, g3⟩ := removes_ok L (d.remove s).2 b2 (h1.z e) nd2 fun x hxl => ⟨(hx x (List.mem_cons_of_mem _ hxl)).1, by
        rw [h2, mget_mdel_other (show x ≠ s from fun e => nd1 (e ▸ hxl))]
        exact (hx x (List.mem_cons_of_mem _ hxl)).2⟩
      exact ⟨h1.then g1, g2, fun h => by rw [g3 h, h2, mdel_filter]⟩
end
/-- a store and its disk at work: the groups of the log, of which m are synced -/
structure Live (s : St) (d : Dk) (gs : List (List Ch)) (tail : Bs) (m : Nat) : Prop where
  base : Base d s.head s.runs gs tail m
  up : d.down = false
  turn : s.turn = d.opened
  nb : s.broken = false
  mem : s.mem = memOf gs
  clean : ∀ p ∈ d.files, p.1 ∈ keepOf s.head
theorem itoaL {n : Nat} (h : n < 100000000) : (itoa n).length ≤ 8 := itoa_len h
theorem text_len (h : Hd) (h1 : h.log < 100000000) (h2 : h.next < 100000000) (h3 : ∀ r ∈ h.runs, r < 100000000) : h.text.length ≤ 17 + 9 * h.runs.length := by
  unfold Hd.text
  have : ∀ (l : List Nat) (s : Bs), (∀ r ∈ l, r < 100000000) → (l.foldl (fun s r => s ++ 32 :: itoa r) s).length ≤ s.length + 9 * l.length := by
    intro l
    induction l with
    | nil => intro s _; exact Nat.le_refl _
    | cons r l ih =>
      intro s hl
      have h1 := ih (s ++ 32 :: itoa r) fun x hx => hl x (List.mem_cons_of_mem _ hx)
      have h2 := itoaL (hl r List.mem_cons_self)
      rw [List.foldl_cons, List.length_cons]
      rw [List.length_append, List.length_cons] at h1
      omega
  refine Nat.le_trans (this h.runs (itoa h.log ++ 32 :: itoa h.next) h3) ?_
  have h5 := itoaL h1
  have h6 := itoaL h2
  rw [List.length_append, List.length_cons]
  omega
theorem bytes_hd (h : Hd) : h.bytes.length = 16 + h.text.length := blk_len _
theorem log_len : ∀ (gs : List (List Ch)), (∀ g ∈ gs, (g ≠ [] ∧ g.length ≤ 20) ∧ ∀ c ∈ g, okCh c) → (logOf gs).length ≤ 99 * cntG gs
  | [], _ => Nat.le_refl _
  | g :: r, h => by
    have h1 := log_len r fun x hx => h x (List.mem_cons_of_mem _ hx)
    obtain ⟨⟨h2, -⟩, h3⟩ := h g List.mem_cons_self
    have h4 := chs_len g h3
    have h5 : 1 ≤ g.length := List.length_pos_iff.2 h2
    rw [logOf_cons, List.length_append, blk_len]
    unfold cntG at *
    rw [List.map_cons, List.sum_cons]
    omega
theorem runs_len (M : Mp Fl) : ∀ (rs : List Nat) (ts : List Tab), rs.length = ts.length → (∀ i, i < ts.length → ∃ f, mget (nRun (rs.getD i 0)) M = some f ∧ f.data = blk (chBytes (ts.getD i []).changes) ∧ f.safe = f.data.length) → (∀ t ∈ ts, Srt t ∧ ∀ c ∈ Tab.changes t, okCh c) →
    ((rs.map nRun).map fun s => lenO (mget s M)).sum ≤ 16 * ts.length + 83 * cntT ts
  | [], [], _, _, _ => Nat.zero_le _
  | r :: rs, t :: ts, hl, h, ht => by
    have h1 := runs_len M rs ts (by simpa using hl) (fun i hi => h (i + 1) (by simpa using hi)) fun x hx => ht x (List.mem_cons_of_mem _ hx)
    obtain ⟨f, h2, h3, _⟩ := h 0 (by simp)
    have h2 : mget (nRun r) M = some f := h2
    have h3 : f.data = blk (chBytes t.changes) := h3
    have h4 := chs_len t.changes (ht t List.mem_cons_self).2
    rw [changes_len] at h4
    have h5 : f.data.length = 16 + (chBytes t.changes).length := by rw [h3, blk_len]
    rw [List.map_cons, List.map_cons, List.sum_cons, h2]
    unfold cntT at *
    rw [List.map_cons, List.sum_cons, List.length_cons]
    show f.data.length + _ ≤ _
    omega
section
variable {s : St} {d : Dk} {gs : List (List Ch)} {tail : Bs} {m : Nat}
theorem Live.size (L : Live s d gs tail m) : d.size ≤ 2250 + 99 * (cntT s.runs + cntG gs) ∧ d.files.length ≤ 10 := by
  have b := L.base
  obtain ⟨h1, h2⟩ := size_keep (keepOf s.head) d.files b.ok.srt L.clean
  have h3 := runs_len d.files s.head.runs s.runs b.runs b.run b.tab
  have h4 := log_len gs b.grp
  have h5 : lenO (mget (nLog s.head.log) d.files) = (logOf gs).length + tail.length := by
    rw [← bytes_len, b.log, List.length_append]
  have htl := b.tlen
  have hnum := b.num
  have hbig := b.big
  have h6 : lenO (mget nHead d.files) ≤ 16 + (17 + 9 * s.head.runs.length) := by
    rcases b.head with ⟨f, g1, g2, -⟩ | ⟨g1, -⟩
    · rw [g1]
      show f.data.length ≤ _
      have := text_len s.head (by omega) hbig fun r hr => by have := hnum.2 r hr; omega
      rw [g2, bytes_hd]
      omega
    · rw [g1]
      exact Nat.zero_le _
  have h7 := b.few
  have h8 := b.runs
  unfold keepOf at h1 h2
  rw [List.map_cons, List.map_cons, List.sum_cons, List.sum_cons] at h1
  rw [List.length_cons, List.length_cons, List.length_map] at h2
  rw [size_eq]
  omega
theorem Live.now (L : Live s d gs tail m) : s.now = nowOf (memOf gs) s.runs := by rw [now_eq, L.mem]
/-- a name that no file has -/
theorem Live.noRun (L : Live s d gs tail m) {n : Nat} (h : s.head.next ≤ n) : mget (nRun n) d.files = none := mget_none.2 fun p hp e => by
  have := L.clean p hp
  rw [e] at this
  unfold keepOf at this
  rcases List.mem_cons.1 this with h1 | h1
  · exact head_run n h1.symm
  · rcases List.mem_cons.1 h1 with h1 | h1
    · exact log_run _ _ h1.symm
    · obtain ⟨r, hr, h2⟩ := List.mem_map.1 h1
      have := L.base.num.2 r hr
      rw [nRun_inj h2] at this
      omega
theorem Live.noLog (L : Live s d gs tail m) {n : Nat} (h : s.head.next ≤ n) : mget (nLog n) d.files = none := mget_none.2 fun p hp e => by
  have := L.clean p hp
  rw [e] at this
  unfold keepOf at this
  rcases List.mem_cons.1 this with h1 | h1
  · exact head_log n h1.symm
  · rcases List.mem_cons.1 h1 with h1 | h1
    · have := L.base.num.1
      rw [← nLog_inj h1] at this
      omega
    · obtain ⟨r, hr, h2⟩ := List.mem_map.1 h1
      exact log_run _ _ h2.symm
theorem Live.noFresh (L : Live s d gs tail m) : mget nFresh d.files = none := mget_none.2 fun p hp e => by
  have := L.clean p hp
  rw [e] at this
  unfold keepOf at this
  rcases List.mem_cons.1 this with h1 | h1
  · exact fresh_head h1
  · rcases List.mem_cons.1 h1 with h1 | h1
    · exact fresh_log _ h1
    · obtain ⟨r, hr, h2⟩ := List.mem_map.1 h1
      exact fresh_run _ h2.symm
end
theorem keep_fresh (h : Hd) : nFresh ∉ keepOf h := fun h1 => by
  unfold keepOf at h1
  rcases List.mem_cons.1 h1 with h1 | h1
  · exact fresh_head h1
  · rcases List.mem_cons.1 h1 with h1 | h1
    · exact fresh_log _ h1
    · obtain ⟨r, hr, h2⟩ := List.mem_map.1 h1
      exact fresh_run _ h2.symm
theorem keep_run {h : Hd} {n : Nat} (hn : ∀ r ∈ h.runs, r ≠ n) : nRun n ∉ keepOf h := fun h1 => by
  unfold keepOf at h1
  rcases List.mem_cons.1 h1 with h1 | h1
  · exact head_run _ h1.symm
  · rcases List.mem_cons.1 h1 with h1 | h1
    · exact log_run _ _ h1.symm
    · obtain ⟨r, hr, h2⟩ := List.mem_map.1 h1
      exact hn r hr (nRun_inj h2)
theorem okName_mput {k : Bs} {v : Fl} {M : Mp Fl} (h : ∀ p ∈ M, okName p.1) (hk : okName k) : ∀ p ∈ mput k v M, okName p.1 := fun p hp => by
  rcases mem_mput.1 hp with rfl | ⟨hp, -⟩
  · exact hk
  · exact h p hp
theorem bad_head : badName nHead = false := by decide
theorem bad_fresh : badName nFresh = false := by decide
section
variable {d : Dk} {h : Hd} {ts : List Tab} {gs : List (List Ch)} {tail : Bs} {m : Nat}
/-- a new file is written and synced: it plays no part yet -/
theorem write_ok {nm bs : Bs} (b : Base d h ts gs tail m) (up : d.down = false) (hk : nm ∉ keepOf h) (hn : mget nm d.files = none) (ho : okName nm) (hb : badName nm = false) (hc : d.files.length < 60) (hs : d.size + bs.length ≤ 262144) :
    Res d (acts [fun d => d.append nm bs, fun d => d.sync nm] d) ∧ Base (acts [fun d => d.append nm bs, fun d => d.sync nm] d).2 h ts gs tail m ∧
      ((acts [fun d => d.append nm bs, fun d => d.sync nm] d).1 = 0 → (acts [fun d => d.append nm bs, fun d => d.sync nm] d).2.files = mput nm ⟨bs, bs.length⟩ d.files) := by
  obtain ⟨r1, f1⟩ := append_res b.ok up hb hc hs
  rw [hn] at f1
  have f1 : (d.append nm bs).2.files = mput nm ⟨bs, 0⟩ d.files := f1
  have b1 : Base (d.append nm bs).2 h ts gs tail m := b.other r1.ok (by rw [f1]; exact okName_mput b.names ho) fun x hx => by
    rw [f1, mget_mput_other (show x ≠ nm from fun e => hk (e ▸ hx))]
  rw [acts_cons]
  by_cases e : (d.append nm bs).1 ≠ 0
  · rw [if_pos e]
    exact ⟨r1, b1, fun h => absurd h e⟩
  · rw [if_neg e]
    have e : (d.append nm bs).1 = 0 := Decidable.not_not.1 e
    have hg : mget nm (d.append nm bs).2.files = some ⟨bs, 0⟩ := by rw [f1, mget_mput_same]
    obtain ⟨r2, f2, f3⟩ := sync_res b1.ok (r1.z e) hb hg
    rw [acts_cons]
    by_cases e2 : ((d.append nm bs).2.sync nm).1 ≠ 0
    · rw [if_pos e2]
      exact ⟨r1.then r2, b1.other r2.ok (by rw [f3 e2]; exact b1.names) (fun x _ => by rw [f3 e2]), fun h => absurd h e2⟩
    · rw [if_neg e2]
      have e2 : ((d.append nm bs).2.sync nm).1 = 0 := Decidable.not_not.1 e2
      have f4 := f2 e2
      show Res d (0, ((d.append nm bs).2.sync nm).2) ∧ Base ((d.append nm bs).2.sync nm).2 h ts gs tail m ∧ (_ → ((d.append nm bs).2.sync nm).2.files = _)
      have r3 : Res (d.append nm bs).2 (0, ((d.append nm bs).2.sync nm).2) := ⟨r2.ok, r2.stp, .inl ⟨rfl, r2.z e2⟩⟩
      refine ⟨r1.then r3, b1.other r2.ok (by rw [f4]; exact okName_mput b1.names ho) (fun x hx => by rw [f4, mget_mput_other (show x ≠ nm from fun e => hk (e ▸ hx))]), fun _ => ?_⟩
      rw [f4, f1, mput_mput b.ok.srt]
end
end Go.Proofs.YtpenleogafdbhaaGreatDoor
