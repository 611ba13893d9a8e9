/-
  Words on memory: rows of the call's own; appends; rows of structs.
-/
import Derived.Test.YtlhmidecjiihcaaDoorProg
import Derived.WalkKit
import Derived.WalkSpells
import Derived.WalkLawsBesides
import Derived.Deep.QuietTactic
import Derived.BigQuiet
import Derived.Deep.RegionWith
import Derived.Deep.RegionHeld3
import Derived.Deep.DrawnRows
import Derived.Deep.DeepCutAuto
import Derived.Laws.BitsAllLaws
import Derived.Laws.BitsLemmas
namespace Go.Proofs.YtlhmidecjiihcaaDoor
open Go.RowKit
theorem hid {p : Prop} (h : p) : Hid p := h
theorem heap_lt {W : World} {g : Nat} {x : Obj} (h : W.heap[g]? = some x) : g < W.heap.size := (Array.getElem?_eq_some_iff.1 h).1
theorem add_block (a : Addr) (i : Nat) : (a.add i).block = a.block := by
  unfold Addr.add; split <;> rfl
theorem box1 {W : World} {g : Nat} {v : Value} {t : TypeId} (h : W.heap[g]? = some (.cells #[v] t)) : W.cell? ⟨g, 0, none⟩ = some v := by simp [World.cell?, h]
theorem box1_free {W : World} {g : Nat} {v : Value} {t : TypeId} (h : W.heap[g]? = some (.cells #[v] t)) : W.frozen? ⟨g, 0, none⟩ = false := by simp [World.frozen?, h]
theorem heap_setCell1 {W : World} {g : Nat} {v u : Value} {t : TypeId} (h : W.heap[g]? = some (.cells #[v] t)) : (W.setCell ⟨g, 0, none⟩ u).heap[g]? = some (.cells #[u] t) := by
  simp [World.setCell, Array.getElem?_modify, h]
theorem cells2_of {W : World} {g : Nat} {a b : Value} {t : TypeId} (h : W.heap[g]? = some (.cells #[a, b] t)) : W.cell? ⟨g, 0, none⟩ = some a ∧ W.cell? ⟨g, 1, none⟩ = some b := by
  constructor <;> simp [World.cell?, h]
theorem cells3_of {W : World} {g : Nat} {a b c : Value} {t : TypeId} (h : W.heap[g]? = some (.cells #[a, b, c] t)) : W.cell? ⟨g, 0, none⟩ = some a ∧ W.cell? ⟨g, 1, none⟩ = some b ∧ W.cell? ⟨g, 2, none⟩ = some c := by
  refine ⟨?_, ?_, ?_⟩ <;> simp [World.cell?, h]
theorem free3_of {W : World} {g : Nat} {cs : Array Value} {t : TypeId} (h : W.heap[g]? = some (.cells cs t)) : W.frozen? ⟨g, 0, none⟩ = false ∧ W.frozen? ⟨g, 1, none⟩ = false ∧ W.frozen? ⟨g, 2, none⟩ = false := by
  refine ⟨?_, ?_, ?_⟩ <;> simp [World.frozen?, h]
theorem below_step {A a b : World} (h1 : Below A.heap.size A a) (h2 : Below a.heap.size a b) : Below A.heap.size A b := h1.trans (h2.mono h1.size)
theorem below_drewN_r {B : Nat} {w w' : World} (h : Below B w w') (n : Nat) : Below B w (w'.drewN n) := h.trans ⟨rfl, rfl, rfl, Nat.le_refl _, fun _ _ => rfl⟩
theorem below_grown {w w' : World} (h : Below w.heap.size w w') : w.grownBy w' none := ⟨h.os, h.tape, h.output, h.size, fun k hk _ => h.block k hk⟩
theorem grown_below {a b c : World} {row : Option Nat} (h : a.grownBy b row) (k : Below a.heap.size b c) : a.grownBy c row :=
  ⟨k.os.trans h.os, k.tape.trans h.tape, k.output.trans h.output, Nat.le_trans h.size k.size, fun j hj hn => (k.block j hj).trans (h.block j hj hn)⟩
theorem run_app {P : Program} (w : World) (base : Nat) (t ty e : TypeId) (i : TypeInfo) (z : Value) (size bytes : Nat) (ht : P.underlying t = some (.slice e)) (hi : P.info? e = some i) (hz : i.zero = some z)
    (hsize : i.size = size) (hby : i.bytes = bytes) (hzs : z.cells.size = size) (hsz : 0 < size)
    (v : Value) (n : Nat) (xs : List Value) (hown : w.ownsRow base e size v n xs)
    (a : Addr) (m c : Nat) (news : List Value) (hm0 : 0 < m) (hl : news.length = m * size) (hnews : ∀ (j : Nat) u, news[j]? = some u → w.cell? (a.add j) = some u) (h1 : ∀ u ∈ news, u.oneCell' = true)
    (h63 : n + m ≤ maxLen) (hbytes : (n + m) * bytes ≤ 140737488355328) (hbase : base ≤ w.heap.size) :
    ∃ v' w', (Builtin.append_ #[t, t] ty #[v, .slice (some a) m c]).run P w = .ok v' w' ∧ w'.ownsRow base e size v' (n + m) (xs ++ news) ∧ w.grownBy w' v.ownBlock ∧
      (v'.ownBlock = v.ownBlock ∨ v'.ownBlock = some w.heap.size) := by
  obtain ⟨v', w', hr, h2, h3, _⟩ := run_append_own (P := P) w base t ty e i z size bytes ht hi hz hsize hby hzs hsz v n xs hown a m c news hl hnews h1 h63 hbytes hbase
  refine ⟨v', w', hr, h2, h3, ?_⟩
  subst hsize
  subst hby
  simp only [maxLen] at h63
  rcases hown.2 with ⟨rfl, rfl⟩ | ⟨g, cap, cur, rfl, hbg, hg, hnc, hcm, hcs, htake⟩
  · have hr2 := run_append_nil (P := P) w t ty e i z ht hi hz a m c news hl hnews hm0 (by omega) (by simp only [Nat.zero_add] at hbytes; omega)
    rw [hr2] at hr
    injection hr with e1 _
    subst e1
    exact .inr rfl
  · by_cases hroom : n + m ≤ cap
    · have hfit : n * i.size + news.length ≤ cur.size := by rw [hl, hcs, ← Nat.add_mul]; exact Nat.mul_le_mul_right _ hroom
      have hr2 := run_append_room (P := P) w t ty e i ht hi g n cap cur hg a m c news hl hnews h1 hroom hfit
      rw [hr2] at hr
      injection hr with e1 _
      subst e1
      exact .inl rfl
    · have holds : ∀ (j : Nat) u, xs[j]? = some u → w.cell? ((⟨g, 0, none⟩ : Addr).add j) = some u := hown.cells (g := g) rfl
      have hr2 := run_append_grow (P := P) w t ty e i z ht hi hz ⟨g, 0, none⟩ n cap xs hown.1 holds a m c news hl hnews (by omega) (by omega) (growslice_fits (by omega) hbytes)
      rw [hr2] at hr
      injection hr with e1 _
      subst e1
      exact .inr rfl
/-- what an append leaves: the world has grown, of what was there the row that was appended to alone may have turned -/
structure AppTo (w : World) (v : Value) (w' : World) (v' : Value) : Prop where
  grown : w.grownBy w' v.ownBlock
  block : v'.ownBlock = v.ownBlock ∨ v'.ownBlock = some w.heap.size
theorem below_app {w w' : World} {v v' : Value} {B : Nat} (ha : AppTo w v w' v') (hB : B ≤ w.heap.size) (hv : ∀ k, v.ownBlock = some k → B ≤ k) : Below B w w' :=
  (Below.refl B w).grown ha.grown hB hv
/-- append of one value of 'size' cells, that the walk has just laid in a block of its own -/
theorem wpl_appn {P : Program} {ops : Array Oper} {rest : List Oper} {o : Oper} {a : Act} {Q : Exit → Act → World → Prop} {W : World}
    (hgd : o.guard = none) (s x : Operand) (t e : TypeId) (ho : o.op = .call { callee := .builtin .append, args := #[s, x], argTypes := #[t, t] })
    (z : Value) (size bytes : Nat) (hi : (P.info? e).map (fun i => (i.zero, i.size, i.bytes)) = some (some z, size, bytes)) (hz : z.cells.size = size) (hsz : 0 < size)
    (ht : P.underlying t = some (.slice e)) (v : Value) (B n : Nat) (xs : List Value) (hs : a.eval s = v) (hown : W.ownsRow B e size v n xs)
    (us : List Value) (hul : us.length = size) (hu : ∀ u ∈ us, u.oneCell' = true) (hx : a.eval x = .slice (some ⟨W.heap.size, 0, none⟩) 1 1)
    (hlen : (n + 1) * bytes ≤ 140737488355328) (hl2 : n + 1 ≤ maxLen) (hB : B ≤ W.heap.size)
    (h : ∀ v' w', w'.ownsRow B e size v' (n + 1) (xs ++ us) → AppTo (W.alloc (.cells us.toArray e)) v w' v' → wpList P ops Q rest (a.put o.dst v') w') :
    wpList P ops Q (o :: rest) a (W.alloc (.cells us.toArray e)) := by
  cases hi0 : P.info? e with
  | none => rw [hi0] at hi; cases hi
  | some i =>
    rw [hi0] at hi
    simp only [Option.map_some, Option.some.injEq, Prod.mk.injEq] at hi
    obtain ⟨h1, h2, h3⟩ := hi
    have hcells : ∀ (j : Nat) u, us[j]? = some u → (W.alloc (.cells us.toArray e)).cell? ((⟨W.heap.size, 0, none⟩ : Addr).add j) = some u := by
      intro j u hu
      have hadd : (⟨W.heap.size, 0, none⟩ : Addr).add j = ⟨W.heap.size, j, none⟩ := by unfold Addr.add; split <;> simp_all
      rw [hadd, World.cell?, heap_alloc_new]
      simpa using hu
    obtain ⟨v', w', hr, g1, g2, g3⟩ := run_app (P := P) (W.alloc (.cells us.toArray e)) B t o.type e i z size bytes ht hi0 h1 h2 h3 hz hsz v n xs (World.ownsRow.alloc hown _)
      ⟨W.heap.size, 0, none⟩ 1 1 us (by decide) (by rw [hul]; simp) hcells hu hl2 hlen (by simp; omega)
    refine wpList_plain hgd fun K hK => ?_
    unfold Oper.wp execOp
    simp only [ho, resolve, invoke, builtin, Sem.run_bind, Sem.run_pure, Result.andThen_ok, List.map_toArray, List.map_cons, List.map_nil, hs, hx, hr]
    exact hK _ _ (h v' w' g1 ⟨g2, g3⟩)
theorem app_below {w w' : World} {v v' : Value} {B : Nat} (ha : AppTo w v w' v') (hB : B ≤ w.heap.size) (hv : ∀ k, v.ownBlock = some k → B ≤ k) : Below B w w' := (Below.refl B w).grown ha.grown hB hv
theorem row_mono {w : World} {B B' n size : Nat} {e : TypeId} {v : Value} {xs : List Value} (h : w.ownsRow B e size v n xs) (hb : B' ≤ B) : w.ownsRow B' e size v n xs := by
  obtain ⟨h1, h2⟩ := h
  refine ⟨h1, h2.imp_right ?_⟩
  rintro ⟨g, cap, cur, rfl, hB, r⟩
  exact ⟨g, cap, cur, rfl, Nat.le_trans hb hB, r⟩
theorem row_below {w w' : World} {B n size : Nat} {e : TypeId} {v : Value} {xs : List Value} (h : w.ownsRow B e size v n xs) (hb : Below w.heap.size w w') : w'.ownsRow B e size v n xs := by
  have hlt := h.lt
  obtain ⟨h1, h2⟩ := h
  refine ⟨h1, h2.imp_right ?_⟩
  rintro ⟨g, cap, cur, rfl, hB, hh, r⟩
  exact ⟨g, cap, cur, rfl, hB, by rw [hb.block g (hlt g rfl).2]; exact hh, r⟩
theorem row_slice {w : World} {B n size : Nat} {e : TypeId} {v : Value} {xs : List Value} (h : w.ownsRow B e size v n xs) : ∃ a c, v = .slice a n c := by
  obtain ⟨_, ⟨rfl, h2⟩ | ⟨g, cap, cur, rfl, _⟩⟩ := h
  · exact ⟨none, 0, by rw [h2]⟩
  · exact ⟨_, _, rfl⟩
theorem row_cells1 {w : World} {B n : Nat} {e : TypeId} {v : Value} {xs : List Value} (h : w.ownsRow B e 1 v n xs) : ∃ a c, v = .slice a n c ∧ n ≤ maxLen ∧ xs.length = n ∧ ∀ i, i < n → ∃ g, a = some ⟨g, 0, none⟩ ∧ w.cell? ⟨g, i, none⟩ = xs[i]? ∧ ∃ cs, w.heap[g]? = some (.cells cs e) := by
  obtain ⟨h1, h2 | ⟨g, cap, cur, rfl, hB, hh, hn, hm, hs, ht⟩⟩ := h
  · obtain ⟨rfl, h0⟩ := h2
    refine ⟨none, 0, by rw [h0], by omega, by omega, fun i hi => by omega⟩
  · refine ⟨_, cap, rfl, by omega, by omega, fun i hi => ⟨g, rfl, ?_, cur, hh⟩⟩
    rw [World.cell?, hh, ← ht, List.getElem?_take, if_pos (by omega)]
    simp
theorem row_type {w : World} {B n size : Nat} {e : TypeId} {v : Value} {xs : List Value} (h : w.ownsRow B e size v n xs) : ∀ k, v.ownBlock = some k → ∃ cs, w.heap[k]? = some (.cells cs e) := by
  obtain ⟨_, ⟨rfl, h2⟩ | ⟨g, cap, cur, rfl, hB, hh, _⟩⟩ := h
  · intro k hk; simp [Value.ownBlock] at hk
  · intro k hk
    simp [Value.ownBlock] at hk
    subst hk
    exact ⟨_, hh⟩
theorem row_other {W W' : World} {B n size : Nat} {e e' : TypeId} {q : Value} {xs : List Value} {row : Option Nat} (h : W.ownsRow B e size q n xs) (hg : W.grownBy W' row) (ht : ∀ k, row = some k → ∃ cs, W.heap[k]? = some (.cells cs e')) (hne : e ≠ e') : W'.ownsRow B e size q n xs := by
  have hqt := row_type h
  refine World.ownsRow.kept h hg ?_
  cases hk : q.ownBlock with
  | none => exact .inl rfl
  | some k =>
    refine .inr fun e2 => ?_
    obtain ⟨c1, e1⟩ := hqt k hk
    obtain ⟨c2, e2⟩ := ht k e2.symm
    rw [e1] at e2
    simp only [Option.some.injEq, Obj.cells.injEq] at e2
    exact hne e2.2.1
/-- the value src reads as m elements, of size cells each -/
def Rd (w : World) (src : Value) (m size : Nat) (us : List Value) : Prop :=
  us.length = m * size ∧ (∀ u ∈ us, u.oneCell' = true) ∧ ((src = .slice none 0 0 ∧ m = 0) ∨ ∃ ad c, src = .slice (some ad) m c ∧ (0 < us.length → ad.block < w.heap.size) ∧ ∀ j u, us[j]? = some u → w.cell? (ad.add j) = some u)
theorem rd_below {w w' : World} {src : Value} {m size : Nat} {us : List Value} (h : Rd w src m size us) (hb : Below w.heap.size w w') : Rd w' src m size us := by
  obtain ⟨h1, h2, h3⟩ := h
  refine ⟨h1, h2, h3.imp_right ?_⟩
  rintro ⟨ad, c, rfl, hlt, hc⟩
  exact ⟨ad, c, rfl, fun h0 => Nat.lt_of_lt_of_le (hlt h0) hb.size, fun j u hj => (hb.cell (by rw [add_block]; exact hlt (by have := (List.getElem?_eq_some_iff.1 hj).1; omega))).trans (hc j u hj)⟩
theorem row_of_block {w : World} {B g size : Nat} {e : TypeId} (h : w.heap[g]? = some (.cells #[] e)) (hB : B ≤ g) : w.ownsRow B e size (.slice (some ⟨g, 0, none⟩) 0 0) 0 [] :=
  ⟨by simp, .inr ⟨g, 0, #[], rfl, hB, h, Nat.le_refl _, by decide, by simp, by simp⟩⟩
/-- append of some elements to an empty slice, at a step of a region that draws its order -/
theorem step_app {ops : Array Oper} {o : Oper} {a : Act} {K : Act → World → Prop} {Q : Exit → Act → World → Prop} {E : Prop} {W : World}
    (B : Nat) (s x : Operand) (t e : TypeId) (z : Value) (size bytes : Nat) (hi : (Tryd.prog.info? e).map (fun i => (i.zero, i.size, i.bytes)) = some (some z, size, bytes)) (hz : z.cells.size = size) (hsz : 0 < size)
    (ht : Tryd.prog.underlying t = some (.slice e)) (g m : Nat) (us : List Value) (src : Value)
    (hgd : o.guard = none) (ho : o.op = .call { callee := .builtin .append, args := #[s, x], argTypes := #[t, t] })
    (hs : a.eval s = .slice (some ⟨g, 0, none⟩) 0 0) (hx : a.eval x = src) (hsrc : Rd W src m size us) (hg : W.heap[g]? = some (.cells #[] e)) (hB : B ≤ g)
    (hlen : m * bytes ≤ 100000000 ∧ m ≤ 1000000)
    (h : ∀ sa sn sc w', Hid (w'.ownsRow B e size (.slice sa sn sc) m us) → Hid (W.grownBy w' (some g)) → K (a.put o.dst (.slice sa sn sc)) w') :
    if Region.wanted o (yielded ops a.tmps) = true then Oper.wp Tryd.prog o a W K Q else E := by
  have hw : Region.wanted o (yielded ops a.tmps) = true := by simp [Region.wanted, hgd]
  rw [if_pos hw]
  cases hi0 : Tryd.prog.info? e with
  | none => rw [hi0] at hi; cases hi
  | some i =>
    rw [hi0] at hi
    simp only [Option.map_some, Option.some.injEq, Prod.mk.injEq] at hi
    obtain ⟨h1, h2, h3⟩ := hi
    have hown : W.ownsRow B e size (.slice (some ⟨g, 0, none⟩) 0 0) 0 [] := row_of_block hg hB
    have hgl := heap_lt hg
    obtain ⟨r1, r2, ⟨rfl, rfl⟩ | ⟨ad, c, rfl, hlt, hc⟩⟩ := hsrc
    · have hr := run_append_owned_none (P := Tryd.prog) W B t o.type e i size ht hi0 _ 0 [] hown
      unfold Oper.wp execOp
      simp only [ho, resolve, invoke, builtin, Sem.run_bind, Sem.run_pure, Result.andThen_ok, List.map_toArray, List.map_cons, List.map_nil, hs, hx, hr]
      have hus : us = [] := List.length_eq_zero_iff.1 (by simpa using r1)
      subst hus
      exact h _ _ _ _ hown ⟨rfl, rfl, rfl, Nat.le_refl _, fun _ _ _ => rfl⟩
    · refine wp_append_own W s x t ho B e i z size bytes ht hi0 h1 h2 h3 hz hsz _ 0 [] hs hown ad m c us hx r1 hc r2 (by unfold maxLen; omega) (by rw [Nat.zero_add]; have := hlen.1; omega) (by omega) ?_
      intro v' w' hv hgr _
      rw [Nat.zero_add, List.nil_append] at hv
      obtain ⟨sa, sc, rfl⟩ := row_slice hv
      exact h _ _ _ _ hv hgr
section
variable {md : Region.Mode} {ops : Array Oper} {Q : Exit → Act → World → Prop} {S : World → Prop} {fuel : Nat} {listed : Array Bool} {a : Act} {w : World} {i : Nat} {o : Oper} {rs : List Nat}
theorem take_at {v : Value} (d : Nat) (hi : ops[i]? = some o) (hs : Region.noSelect ops = true) (hf : Region.free md ops listed i = true) (hr : (Region.ready md ops listed).contains i = true)
    (hd : o.dst = some d) (hQ : ∀ c a w, Q (.panic c) (a.put (some d) v) w → Q (.panic c) a w) (hw : Region.wanted o (yielded ops a.tmps) = true) (hy : ∀ w, S w → (execOp a.eval o).run Tryd.prog w = .ok (.value v) w) (hS : S w)
    (h : wpAnyH Tryd.prog md ops Q S fuel (listed.setIfInBounds i true) (a.put (some d) v) w) : wpAnyH Tryd.prog md ops Q S (fuel + 1) listed a w :=
  wpAnyH_take hi hs hf hr (by rw [hd]; exact hQ) (.inl ⟨hw, hy⟩) hS (by rw [hd]; exact h)
theorem skip_at (d : Nat) (hi : ops[i]? = some o) (hs : Region.noSelect ops = true) (hf : Region.free md ops listed i = true) (hr : (Region.ready md ops listed).contains i = true)
    (hd : o.dst = some d) (hQ : ∀ c a w, Q (.panic c) (a.put (some d) undef) w → Q (.panic c) a w) (hw : Region.wanted o (yielded ops a.tmps) = false) (hS : S w)
    (h : wpAnyH Tryd.prog md ops Q S fuel (listed.setIfInBounds i true) (a.put (some d) undef) w) : wpAnyH Tryd.prog md ops Q S (fuel + 1) listed a w :=
  wpAnyH_take hi hs hf hr (by rw [hd]; exact hQ) (.inr ⟨hw, rfl⟩) hS (by rw [hd]; exact h)
end
/-- the call's own row of one-cell values -/
def OwnV (w : World) (B : Nat) (e : TypeId) (v : Value) (xs : List Value) : Prop := w.ownsRow B e 1 v xs.length xs
theorem ownV_nil (w : World) (B : Nat) (e : TypeId) : OwnV w B e (.slice none 0 0) [] := World.ownsRow_nil _ _ _ _
theorem ownV_made (w : World) (B : Nat) (e : TypeId) (hB : B ≤ w.heap.size) : OwnV (w.alloc (.cells #[] e)) B e (.slice (some ⟨w.heap.size, 0, none⟩) 0 0) [] := World.ownsRow_made w #[] 0 hB (by decide) rfl
theorem ownV_slice {w : World} {B : Nat} {e : TypeId} {v : Value} {xs : List Value} (h : OwnV w B e v xs) : ∃ a c, v = .slice a xs.length c := row_slice h
theorem ownV_sh {w : World} {B : Nat} {e : TypeId} {v : Value} {xs : List Value} (h : OwnV w B e v xs) : ∃ a n c, v = .slice a n c := by
  obtain ⟨a, c, h⟩ := row_slice h
  exact ⟨a, _, c, h⟩
theorem ownV_below {w w' : World} {B : Nat} {e : TypeId} {v : Value} {xs : List Value} (h : OwnV w B e v xs) (hb : Below w.heap.size w w') : OwnV w' B e v xs := row_below h hb
theorem ownV_mono {w : World} {B B' : Nat} {e : TypeId} {v : Value} {xs : List Value} (h : OwnV w B e v xs) (hb : B' ≤ B) : OwnV w B' e v xs := row_mono h hb
theorem ownV_lt {w : World} {B : Nat} {e : TypeId} {v : Value} {xs : List Value} (h : OwnV w B e v xs) : ∀ k, v.ownBlock = some k → B ≤ k ∧ k < w.heap.size := h.lt
/-- the value v reads, in the world w, as some one-cell values -/
def IsV (w : World) (v : Value) (xs : List Value) : Prop :=
  ∃ a c, v = .slice a xs.length c ∧ xs.length ≤ 1000000 ∧ ∀ i, i < xs.length → ∃ g, a = some ⟨g, 0, none⟩ ∧ w.cell? ⟨g, i, none⟩ = some (xs.getD i undef)
theorem isV_below {w w' : World} {v : Value} {xs : List Value} (h : IsV w v xs) (hb : Below w.heap.size w w') : IsV w' v xs := by
  obtain ⟨a, c, rfl, hl, hc⟩ := h
  refine ⟨a, c, rfl, hl, fun i hi => ?_⟩
  obtain ⟨g, ha, hcell⟩ := hc i hi
  exact ⟨g, ha, by rw [hb.cell (World.block_lt_of_cell? w _ hcell)]; exact hcell⟩
theorem ownV_isV {w : World} {B : Nat} {e : TypeId} {v : Value} {xs : List Value} (h : OwnV w B e v xs) (hl : xs.length ≤ 1000000) : IsV w v xs := by
  obtain ⟨a, c, rfl, _, _, hc⟩ := row_cells1 h
  refine ⟨a, c, rfl, hl, fun i hi => ?_⟩
  obtain ⟨g, ha, hcell, _⟩ := hc i hi
  refine ⟨g, ha, hcell.trans ?_⟩
  rw [List.getD_eq_getElem?_getD, List.getElem?_eq_getElem hi]; rfl
theorem isV_at {w : World} {a : Option Addr} {n c : Nat} {xs : List Value} (h : IsV w (.slice a n c) xs) (i : Nat) (hi : i < xs.length) : ∃ g, a = some ⟨g, 0, none⟩ ∧ n = xs.length ∧ w.cell? ⟨g, i, none⟩ = some (xs.getD i undef) := by
  obtain ⟨a', c', hv, _, hc⟩ := h
  cases hv
  obtain ⟨g, h1, h2⟩ := hc i hi
  exact ⟨g, h1, rfl, h2⟩
theorem isV_slice {w : World} {v : Value} {xs : List Value} (h : IsV w v xs) : ∃ a c, v = .slice a xs.length c := by
  obtain ⟨a, c, h, _⟩ := h
  exact ⟨a, c, h⟩
/-- numbers, and sets, as values -/
def iv (i : Nat) : Value := .int .i64 (i : Int)
theorem getD_map {α : Type} (f : α → Value) (xs : List α) (d : α) (i : Nat) (h : i < xs.length) : (xs.map f).getD i undef = f (xs.getD i d) := by
  rw [List.getD_eq_getElem?_getD, List.getElem?_map, List.getElem?_eq_getElem h, List.getD_eq_getElem?_getD, List.getElem?_eq_getElem h]; rfl
theorem wraps62 (n : Int) (h0 : 0 ≤ n) (h1 : n < 2 ^ 62) : IntKind.i64.wrap n = n := by
  rw [IntKind.wrap_i64]; omega
theorem grown_alloc {W w' : World} {o : Obj} {row : Option Nat} (h : (W.alloc o).grownBy w' row) : W.grownBy w' row :=
  ⟨h.os, h.tape, h.output, Nat.le_trans (by simp) h.size, fun j hj hn => (h.block j (by simp; omega) hn).trans (Below.heap_alloc _ _ _ hj)⟩
/-- append of one value of one cell -/
theorem wpl_app_v {ops : Array Oper} {rest : List Oper} {o : Oper} {a : Act} {Q : Exit → Act → World → Prop} {W : World} (t e : TypeId) (z0 : Value) (bytes : Nat)
    (hinf : (Tryd.prog.info? e).map (fun i => (i.zero, i.size, i.bytes)) = some (some z0, 1, bytes)) (hz : z0.cells.size = 1) (ht : Tryd.prog.underlying t = some (.slice e)) (hb24 : bytes ≤ 24)
    (x : Value) (hx1 : x.oneCell' = true) (s y : Operand) (v : Value) (B : Nat) (xs : List Value)
    (hgd : o.guard = none) (ho : o.op = .call { callee := .builtin .append, args := #[s, y], argTypes := #[t, t] })
    (hs : a.eval s = v) (hx : a.eval y = .slice (some ⟨W.heap.size, 0, none⟩) 1 1)
    (hown : OwnV W B e v xs) (hlen : xs.length < 1000000) (hB : B ≤ W.heap.size)
    (h : ∀ v' w', OwnV w' B e v' (xs ++ [x]) → Below B W w' → W.grownBy w' v.ownBlock → wpList Tryd.prog ops Q rest (a.put o.dst v') w') :
    wpList Tryd.prog ops Q (o :: rest) a (W.alloc (.cells #[x] e)) :=
  wpl_appn hgd s y t e ho z0 1 bytes hinf hz (by decide) ht v B xs.length xs hs hown [x] rfl (fun u hu => by simp at hu; rw [hu]; exact hx1) hx
    (by have : (xs.length + 1) * bytes ≤ 1000000 * 24 := Nat.mul_le_mul (by omega) hb24
        omega) (by unfold maxLen; omega) hB
    (fun v' w' h1 h2 => h v' w' (by unfold OwnV; rw [List.length_append]; exact h1) (((Below.refl B W).alloc hB _).trans (app_below h2 (by simp; omega) (fun k hk => (hown.lt k hk).1))) (grown_alloc h2.grown))
theorem ownV_cell {w : World} {B g m c : Nat} {e : TypeId} {xs : List Value} (h : OwnV w B e (.slice (some ⟨g, 0, none⟩) m c) xs) (i : Nat) (hi : i < xs.length) : w.cell? ⟨g, i, none⟩ = some (xs.getD i undef) := by
  obtain ⟨a', c', hv, _, _, hc⟩ := row_cells1 h
  obtain ⟨g', hg, hcell, _⟩ := hc i hi
  cases hv
  cases hg
  refine hcell.trans ?_
  rw [List.getD_eq_getElem?_getD, List.getElem?_eq_getElem hi]; rfl
theorem ownV_frozen {w : World} {B g m c : Nat} {e : TypeId} {xs : List Value} (h : OwnV w B e (.slice (some ⟨g, 0, none⟩) m c) xs) (j : Nat) : w.frozen? ⟨g, j, none⟩ = false := by
  obtain ⟨a', c', hv, _, _, _⟩ := row_cells1 h
  cases hv
  exact World.ownsRow.frozenAt h j
theorem ownV_set {w : World} {B g m c : Nat} {e : TypeId} {xs : List Value} (h : OwnV w B e (.slice (some ⟨g, 0, none⟩) m c) xs) (j : Nat) (x : Value) :
    OwnV (w.setCell ⟨g, j, none⟩ x) B e (.slice (some ⟨g, 0, none⟩) m c) (xs.set j x) ∧ w.grownBy (w.setCell ⟨g, j, none⟩ x) (some g) := by
  obtain ⟨a', c', hv, _, _, _⟩ := row_cells1 h
  cases hv
  have h2 := World.ownsRow.stored h j x
  refine ⟨?_, h2.2⟩
  unfold OwnV
  rw [List.length_set]
  exact h2.1
theorem ownV_le {w : World} {B g m c : Nat} {e : TypeId} {xs : List Value} (h : OwnV w B e (.slice (some ⟨g, 0, none⟩) m c) xs) : B ≤ g ∧ g < w.heap.size := h.lt g rfl
theorem ownV_kept {w w' : World} {B : Nat} {e : TypeId} {v : Value} {xs : List Value} {row : Option Nat} (h : OwnV w B e v xs) (hg : w.grownBy w' row) (hne : v.ownBlock = none ∨ v.ownBlock ≠ row) : OwnV w' B e v xs := World.ownsRow.kept h hg hne
theorem ownV_some {w : World} {B : Nat} {e : TypeId} {v : Value} {xs : List Value} (h : OwnV w B e v xs) (h0 : 0 < xs.length) : ∃ g c, v = .slice (some ⟨g, 0, none⟩) xs.length c ∧ B ≤ g ∧ g < w.heap.size := by
  have hlt := h.lt
  obtain ⟨_, ⟨rfl, h3⟩ | ⟨g, cap, cur, rfl, hB, _⟩⟩ := h
  · omega
  · exact ⟨g, cap, rfl, hB, (hlt g rfl).2⟩
theorem ba (w : World) (o : Obj) : Below w.heap.size w (w.alloc o) := (Below.refl _ _).alloc (Nat.le_refl _) _
theorem ownV_rd {w : World} {B : Nat} {e : TypeId} {g n c : Nat} {xs : List Value} (h : OwnV w B e (.slice (some ⟨g, 0, none⟩) n c) xs) (h1 : ∀ u ∈ xs, u.oneCell' = true) (i j : Nat) (hij : i ≤ j) (hj : j ≤ xs.length) (c' : Nat) :
    Rd w (.slice (some ⟨g, i, none⟩) (j - i) c') (j - i) 1 ((xs.drop i).take (j - i)) := by
  refine ⟨by rw [List.length_take, List.length_drop]; omega, fun u hu => h1 u (List.mem_of_mem_drop (List.mem_of_mem_take hu)), .inr ⟨⟨g, i, none⟩, c', rfl, fun _ => (ownV_le h).2, fun k u hk => ?_⟩⟩
  have hk2 := (List.getElem?_eq_some_iff.1 hk).1
  rw [List.length_take, List.length_drop] at hk2
  have hadd : (⟨g, i, none⟩ : Addr).add k = ⟨g, i + k, none⟩ := by
    unfold Addr.add
    split <;> simp_all
  rw [hadd, ownV_cell h (i + k) (by omega)]
  rw [List.getElem?_take_of_lt (by omega), List.getElem?_drop] at hk
  rw [List.getD_eq_getElem?_getD, hk]
  rfl
theorem ownV_capN {w : World} {B : Nat} {e : TypeId} {a : Option Addr} {n c : Nat} {xs : List Value} (h : OwnV w B e (.slice a n c) xs) : n ≤ c := by
  unfold OwnV World.ownsRow at h
  obtain ⟨_, h | ⟨g, c', cs, hv, _, _, hc, _⟩⟩ := h
  · have := h.1; simp_all
  · cases hv
    have := hc
    omega
/-- the call's own row of lists -/
theorem made1 (z : Value) (n : Nat) : (madeCells #[z] n).toList = List.replicate n z := by
  unfold madeCells
  refine List.ext_getElem (by simp) fun i h1 h2 => ?_
  simp [Nat.mod_one]
/-- n empty sets, newly made -/
theorem cell_same {w w' : World} {g i : Nat} (h : w'.heap[g]? = w.heap[g]?) : w'.cell? ⟨g, i, none⟩ = w.cell? ⟨g, i, none⟩ := by
  unfold World.cell?
  rw [h]
theorem grown_of {a b : World} {row : Option Nat} (h : Below a.heap.size a b) : a.grownBy b row := ⟨h.os, h.tape, h.output, h.size, fun j hj _ => h.block j hj⟩
theorem grown_trans {a b c : World} {row : Option Nat} (h : a.grownBy b row) (k : b.grownBy c row) : a.grownBy c row :=
  ⟨k.os.trans h.os, k.tape.trans h.tape, k.output.trans h.output, Nat.le_trans h.size k.size, fun j hj hn => (k.block j (Nat.lt_of_lt_of_le hj h.size) hn).trans (h.block j hj hn)⟩
theorem getD_snoc {α : Type} (xs : List α) (x d : α) (j : Nat) (h : j < xs.length) : (xs ++ [x]).getD j d = xs.getD j d := by
  rw [List.getD_eq_getElem?_getD, List.getD_eq_getElem?_getD, List.getElem?_append_left h]
theorem getD_last {α : Type} (xs : List α) (x d : α) : (xs ++ [x]).getD xs.length d = x := by
  rw [List.getD_eq_getElem?_getD, List.getElem?_append_right (Nat.le_refl _), Nat.sub_self]; rfl
theorem ownV_belowB {w w' : World} {B B' : Nat} {e : TypeId} {v : Value} {xs : List Value} (h : OwnV w B e v xs) (hb : Below B' w w') (hk : ∀ k, v.ownBlock = some k → k < B') : OwnV w' B e v xs := by
  obtain ⟨h1, h2⟩ := h
  refine ⟨h1, h2.imp_right ?_⟩
  rintro ⟨g, cap, cur, rfl, hB, hh, r⟩
  exact ⟨g, cap, cur, rfl, hB, (hb.block g (hk g rfl)).trans hh, r⟩
def lenOf : Value → Nat
  | .slice _ n _ => n
  | _ => 0
theorem ownV_len {w : World} {B : Nat} {e : TypeId} {v : Value} {xs : List Value} (h : OwnV w B e v xs) : lenOf v = xs.length := by
  obtain ⟨a, c, rfl⟩ := ownV_slice h
  rfl
/-- the call's own row of structs, of 'size' cells each -/
def OwnS (w : World) (B : Nat) (e : TypeId) (size : Nat) (v : Value) (rs : List (List Value)) : Prop := (∀ r ∈ rs, r.length = size) ∧ w.ownsRow B e size v rs.length rs.flatten
theorem flat_len {size : Nat} : ∀ {rs : List (List Value)}, (∀ r ∈ rs, r.length = size) → rs.flatten.length = rs.length * size
  | [], _ => by simp
  | r :: rs, h => by
    rw [List.flatten_cons, List.length_append, h r (List.mem_cons_self ..), flat_len (fun x hx => h x (List.mem_cons_of_mem _ hx)), List.length_cons, Nat.succ_mul]; omega
theorem flat_at {size : Nat} : ∀ {rs : List (List Value)}, (∀ r ∈ rs, r.length = size) → ∀ i j, i < rs.length → j < size → rs.flatten[i * size + j]? = some ((rs.getD i []).getD j undef)
  | [], _, i, j, hi, _ => by simp at hi
  | r :: rs, h, 0, j, _, hj => by
    have hr := h r (List.mem_cons_self ..)
    rw [List.flatten_cons, Nat.zero_mul, Nat.zero_add, List.getElem?_append_left (by omega), List.getD_cons_zero, List.getD_eq_getElem?_getD, List.getElem?_eq_getElem (by omega)]; rfl
  | r :: rs, h, i + 1, j, hi, hj => by
    have hr := h r (List.mem_cons_self ..)
    rw [List.flatten_cons, List.getElem?_append_right (by rw [hr, Nat.succ_mul]; omega), hr, show (i + 1) * size + j - size = i * size + j by rw [Nat.succ_mul]; omega, List.getD_cons_succ]
    exact flat_at (fun x hx => h x (List.mem_cons_of_mem _ hx)) i j (by simpa using hi) hj
theorem ownS_nil (w : World) (B : Nat) (e : TypeId) (size : Nat) : OwnS w B e size (.slice none 0 0) [] := ⟨fun r hr => by simp at hr, World.ownsRow_nil _ _ _ _⟩
theorem ownS_made (w : World) (B : Nat) (e : TypeId) (size : Nat) (hB : B ≤ w.heap.size) : OwnS (w.alloc (.cells #[] e)) B e size (.slice (some ⟨w.heap.size, 0, none⟩) 0 0) [] := ⟨fun r hr => by simp at hr, World.ownsRow_made w #[] 0 hB (by decide) (by simp)⟩
theorem ownS_sh {w : World} {B : Nat} {e : TypeId} {size : Nat} {v : Value} {rs : List (List Value)} (h : OwnS w B e size v rs) : ∃ a c, v = .slice a rs.length c := row_slice h.2
theorem ownS_below {w w' : World} {B : Nat} {e : TypeId} {size : Nat} {v : Value} {rs : List (List Value)} (h : OwnS w B e size v rs) (hb : Below w.heap.size w w') : OwnS w' B e size v rs := ⟨h.1, row_below h.2 hb⟩
theorem ownS_mono {w : World} {B B' : Nat} {e : TypeId} {size : Nat} {v : Value} {rs : List (List Value)} (h : OwnS w B e size v rs) (hb : B' ≤ B) : OwnS w B' e size v rs := ⟨h.1, row_mono h.2 hb⟩
theorem ownS_lt {w : World} {B : Nat} {e : TypeId} {size : Nat} {v : Value} {rs : List (List Value)} (h : OwnS w B e size v rs) : ∀ k, v.ownBlock = some k → B ≤ k ∧ k < w.heap.size := h.2.lt
theorem ownS_kept {w w' : World} {B : Nat} {e : TypeId} {size : Nat} {v : Value} {rs : List (List Value)} {row : Option Nat} (h : OwnS w B e size v rs) (hg : w.grownBy w' row) (hne : v.ownBlock = none ∨ v.ownBlock ≠ row) : OwnS w' B e size v rs := ⟨h.1, World.ownsRow.kept h.2 hg hne⟩
theorem ownS_some {w : World} {B : Nat} {e : TypeId} {size : Nat} {v : Value} {rs : List (List Value)} (h : OwnS w B e size v rs) (h0 : 0 < rs.length) : ∃ g c, v = .slice (some ⟨g, 0, none⟩) rs.length c ∧ B ≤ g ∧ g < w.heap.size := by
  have hlt := h.2.lt
  obtain ⟨_, ⟨rfl, h3⟩ | ⟨g, cap, cur, rfl, hB, _⟩⟩ := h.2
  · omega
  · exact ⟨g, cap, rfl, hB, (hlt g rfl).2⟩
theorem ownS_cell {w : World} {B g m c : Nat} {e : TypeId} {size : Nat} {rs : List (List Value)} (h : OwnS w B e size (.slice (some ⟨g, 0, none⟩) m c) rs) (i j : Nat) (hi : i < rs.length) (hj : j < size) : w.cell? ⟨g, i * size + j, none⟩ = some ((rs.getD i []).getD j undef) := by
  obtain ⟨h0, h1, ⟨h2, _⟩ | ⟨g', cap, cur, hv, hB, hh, hn, hm, hs, ht⟩⟩ := h
  · cases h2
  · cases hv
    have hlt : i * size + j < rs.length * size := by
      have : (i + 1) * size ≤ rs.length * size := Nat.mul_le_mul_right _ hi
      rw [Nat.succ_mul] at this; omega
    have h3 := flat_at h0 i j hi hj
    rw [← ht, List.getElem?_take, if_pos hlt] at h3
    rw [World.cell?, hh]
    simpa using h3
theorem ownS_free {w : World} {B g m c : Nat} {e : TypeId} {size : Nat} {rs : List (List Value)} (h : OwnS w B e size (.slice (some ⟨g, 0, none⟩) m c) rs) (k : Nat) : w.frozen? ⟨g, k, none⟩ = false := by
  obtain ⟨a', c', hv⟩ := ownS_sh h
  cases hv
  exact World.ownsRow.frozenAt h.2 k
theorem ownS_le {w : World} {B g m c : Nat} {e : TypeId} {size : Nat} {rs : List (List Value)} (h : OwnS w B e size (.slice (some ⟨g, 0, none⟩) m c) rs) : B ≤ g ∧ g < w.heap.size := h.2.lt g rfl
/-- append of one struct -/
theorem wpl_app_s {ops : Array Oper} {rest : List Oper} {o : Oper} {a : Act} {Q : Exit → Act → World → Prop} {W : World} (t e : TypeId) (z : Value) (size bytes : Nat)
    (hi : (Tryd.prog.info? e).map (fun i => (i.zero, i.size, i.bytes)) = some (some z, size, bytes)) (hz : z.cells.size = size) (hsz : 0 < size) (ht : Tryd.prog.underlying t = some (.slice e)) (hbm : bytes ≤ 100)
    (us : List Value) (hul : us.length = size) (hu1 : ∀ u ∈ us, u.oneCell' = true) (s y : Operand) (v : Value) (B : Nat) (rs : List (List Value))
    (hgd : o.guard = none) (ho : o.op = .call { callee := .builtin .append, args := #[s, y], argTypes := #[t, t] })
    (hs : a.eval s = v) (hx : a.eval y = .slice (some ⟨W.heap.size, 0, none⟩) 1 1)
    (hown : OwnS W B e size v rs) (hlen : rs.length < 1000000) (hB : B ≤ W.heap.size)
    (h : ∀ v' w', OwnS w' B e size v' (rs ++ [us]) → Below B W w' → W.grownBy w' v.ownBlock → wpList Tryd.prog ops Q rest (a.put o.dst v') w') :
    wpList Tryd.prog ops Q (o :: rest) a (W.alloc (.cells us.toArray e)) :=
  wpl_appn hgd s y t e ho z size bytes hi hz hsz ht v B rs.length rs.flatten hs hown.2 us hul hu1 hx
    (by have : (rs.length + 1) * bytes ≤ 1000000 * 100 := Nat.mul_le_mul (by omega) hbm
        omega) (by unfold maxLen; omega) hB
    (fun v' w' h1 h2 => h v' w' ⟨fun r hr => by
        rcases List.mem_append.1 hr with hr | hr
        · exact hown.1 r hr
        · simp at hr; rw [hr]; exact hul, by rw [List.length_append, List.flatten_append]; simpa using h1⟩ (((Below.refl B W).alloc hB _).trans (app_below h2 (by simp; omega) (fun k hk => (World.ownsRow.lt hown.2 k hk).1))) (grown_alloc h2.grown))
end Go.Proofs.YtlhmidecjiihcaaDoor
