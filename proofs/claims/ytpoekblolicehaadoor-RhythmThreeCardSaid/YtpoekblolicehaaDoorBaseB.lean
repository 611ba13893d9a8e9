/-
  An append to a slice of the call's own, with one thing more than the kit's law says: the new slice lies in the old one's block, or in the next new block. So two slices that grow side by side stay apart.
-/
import Derived.Test.YtpoekblolicehaaDoorWalkD
import Derived.Deep.RegionWith
import Derived.Deep.DeepCutAuto
namespace Go.Proofs.YtpoekblolicehaaDoor
open Go.RowKit

theorem run_app {P : Program} (w : World) (base : Nat) (t ty e : TypeId) (i : TypeInfo) (z : Value) (size bytes : Nat) (ht : P.underlying t = some (.slice e)) (hi : P.info? e = some i) (hz : i.zero = some z)
    (hsize : i.size = size) (hby : i.bytes = bytes) (hzs : z.cells.size = size) (hsz : 0 < size)
    (v : Value) (n : Nat) (xs : List Value) (hown : w.ownsRow base e size v n xs)
    (a : Addr) (m c : Nat) (news : List Value) (hm0 : 0 < m) (hl : news.length = m * size) (hnews : ∀ (j : Nat) u, news[j]? = some u → w.cell? (a.add j) = some u) (h1 : ∀ u ∈ news, u.oneCell' = true)
    (h63 : n + m ≤ maxLen) (hbytes : (n + m) * bytes ≤ 140737488355328) (hbase : base ≤ w.heap.size) :
    ∃ v' w', (Builtin.append_ #[t, t] ty #[v, .slice (some a) m c]).run P w = .ok v' w' ∧ w'.ownsRow base e size v' (n + m) (xs ++ news) ∧ w.grownBy w' v.ownBlock ∧
      (v'.ownBlock = v.ownBlock ∨ v'.ownBlock = some w.heap.size) := by
  obtain ⟨v', w', hr, h2, h3, _⟩ := run_append_own (P := P) w base t ty e i z size bytes ht hi hz hsize hby hzs hsz v n xs hown a m c news hl hnews h1 h63 hbytes hbase
  refine ⟨v', w', hr, h2, h3, ?_⟩
  subst hsize
  subst hby
  simp only [maxLen] at h63
  rcases hown.2 with ⟨rfl, rfl⟩ | ⟨g, cap, cur, rfl, hbg, hg, hnc, hcm, hcs, htake⟩
  · have hr2 := run_append_nil (P := P) w t ty e i z ht hi hz a m c news hl hnews hm0 (by omega) (by simp only [Nat.zero_add] at hbytes; omega)
    rw [hr2] at hr
    injection hr with e1 _
    subst e1
    exact .inr rfl
  · by_cases hroom : n + m ≤ cap
    · have hfit : n * i.size + news.length ≤ cur.size := by rw [hl, hcs, ← Nat.add_mul]; exact Nat.mul_le_mul_right _ hroom
      have hr2 := run_append_room (P := P) w t ty e i ht hi g n cap cur hg a m c news hl hnews h1 hroom hfit
      rw [hr2] at hr
      injection hr with e1 _
      subst e1
      exact .inl rfl
    · have holds : ∀ (j : Nat) u, xs[j]? = some u → w.cell? ((⟨g, 0, none⟩ : Addr).add j) = some u := hown.cells (g := g) rfl
      have hr2 := run_append_grow (P := P) w t ty e i z ht hi hz ⟨g, 0, none⟩ n cap xs hown.1 holds a m c news hl hnews (by omega) (by omega) (growslice_fits (by omega) hbytes)
      rw [hr2] at hr
      injection hr with e1 _
      subst e1
      exact .inr rfl

/-- what an append leaves: the world has grown, of what was there the row that was appended to alone may have turned -/
structure AppTo (w : World) (v : Value) (w' : World) (v' : Value) : Prop where
  grown : w.grownBy w' v.ownBlock
  block : v'.ownBlock = v.ownBlock ∨ v'.ownBlock = some w.heap.size

/-- a list that is read elsewhere stays as it is -/
theorem isList_app {w w' : World} {v v' u : Value} {xs : List Value} (h : IsList w u xs) (ha : AppTo w v w' v') (hne : ∀ k, v.ownBlock = some k → u.ownBlock ≠ some k) : IsList w' u xs := by
  obtain ⟨a, c, rfl, hl, hc⟩ := h
  refine ⟨a, c, rfl, hl, fun i hi => ?_⟩
  obtain ⟨g, rfl, hcell⟩ := hc i hi
  exact ⟨g, rfl, ha.grown.cell hcell (fun e => hne g e.symm rfl)⟩
theorem isInts_app {w w' : World} {v v' u : Value} {xs : List Int} (h : IsInts w u xs) (ha : AppTo w v w' v') (hne : ∀ k, v.ownBlock = some k → u.ownBlock ≠ some k) : IsInts w' u xs := by
  obtain ⟨a, c, rfl, hl, hc⟩ := h
  refine ⟨a, c, rfl, hl, fun i hi => ?_⟩
  obtain ⟨g, rfl, hcell⟩ := hc i hi
  exact ⟨g, rfl, ha.grown.cell hcell (fun e => hne g e.symm rfl)⟩
theorem own_app {w w' : World} {v v' u : Value} {B : Nat} {e : TypeId} {xs : List Value} (h : Own w B e u xs) (ha : AppTo w v w' v') (hne : ∀ k, v.ownBlock = some k → u.ownBlock ≠ some k) : Own w' B e u xs := by
  refine World.ownsRow.kept h ha.grown ?_
  cases hu : u.ownBlock with
  | none => exact .inl rfl
  | some k => exact .inr fun e => hne k e.symm hu
theorem below_app {w w' : World} {v v' : Value} {B : Nat} (ha : AppTo w v w' v') (hB : B ≤ w.heap.size) (hv : ∀ k, v.ownBlock = some k → B ≤ k) : Below B w w' :=
  (Below.refl B w).grown ha.grown hB hv
theorem own_ge {w : World} {B : Nat} {e : TypeId} {v : Value} {xs : List Value} (h : Own w B e v xs) : ∀ k, v.ownBlock = some k → B ≤ k ∧ k < w.heap.size := h.lt
/-- the appended slice stays apart from one that was apart -/
theorem apart_app {w w' : World} {v v' u : Value} (ha : AppTo w v w' v') (hne : ∀ k, v.ownBlock = some k → u.ownBlock ≠ some k) (hu : ∀ k, u.ownBlock = some k → k < w.heap.size) : ∀ k, v'.ownBlock = some k → u.ownBlock ≠ some k := by
  intro k hk e
  rcases ha.block with h | h
  · rw [h] at hk; exact hne k hk e
  · rw [h] at hk
    have := hu k e
    injection hk with hk
    omega
theorem isInts_lt {w : World} {u : Value} {xs : List Int} (h : IsInts w u xs) (h0 : xs ≠ []) : ∀ k, u.ownBlock = some k → k < w.heap.size := by
  obtain ⟨a, c, rfl, hl, hc⟩ := h
  intro k hk
  obtain ⟨g, rfl, hcell⟩ := hc 0 (by cases xs with | nil => exact absurd rfl h0 | cons x xs => simp)
  simp [Value.ownBlock] at hk
  subst hk
  exact World.block_lt_of_cell? w _ hcell

/-- append of one value of 'size' cells, that the walk has just laid in a block of its own -/
theorem wpl_appn {P : Program} {ops : Array Oper} {rest : List Oper} {o : Oper} {a : Act} {Q : Exit → Act → World → Prop} {W : World}
    (hgd : o.guard = none) (s x : Operand) (t e : TypeId) (ho : o.op = .call { callee := .builtin .append, args := #[s, x], argTypes := #[t, t] })
    (z : Value) (size bytes : Nat) (hi : (P.info? e).map (fun i => (i.zero, i.size, i.bytes)) = some (some z, size, bytes)) (hz : z.cells.size = size) (hsz : 0 < size)
    (ht : P.underlying t = some (.slice e)) (v : Value) (B n : Nat) (xs : List Value) (hs : a.eval s = v) (hown : W.ownsRow B e size v n xs)
    (us : List Value) (hul : us.length = size) (hu : ∀ u ∈ us, u.oneCell' = true) (hx : a.eval x = .slice (some ⟨W.heap.size, 0, none⟩) 1 1)
    (hlen : (n + 1) * bytes ≤ 140737488355328) (hl2 : n + 1 ≤ maxLen) (hB : B ≤ W.heap.size)
    (h : ∀ v' w', w'.ownsRow B e size v' (n + 1) (xs ++ us) → AppTo (W.alloc (.cells us.toArray e)) v w' v' → wpList P ops Q rest (a.put o.dst v') w') :
    wpList P ops Q (o :: rest) a (W.alloc (.cells us.toArray e)) := by
  cases hi0 : P.info? e with
  | none => rw [hi0] at hi; cases hi
  | some i =>
    rw [hi0] at hi
    simp only [Option.map_some, Option.some.injEq, Prod.mk.injEq] at hi
    obtain ⟨h1, h2, h3⟩ := hi
    have hcells : ∀ (j : Nat) u, us[j]? = some u → (W.alloc (.cells us.toArray e)).cell? ((⟨W.heap.size, 0, none⟩ : Addr).add j) = some u := by
      intro j u hu
      have hadd : (⟨W.heap.size, 0, none⟩ : Addr).add j = ⟨W.heap.size, j, none⟩ := by unfold Addr.add; split <;> simp_all
      rw [hadd, World.cell?, heap_alloc_new]
      simpa using hu
    obtain ⟨v', w', hr, g1, g2, g3⟩ := run_app (P := P) (W.alloc (.cells us.toArray e)) B t o.type e i z size bytes ht hi0 h1 h2 h3 hz hsz v n xs (World.ownsRow.alloc hown _)
      ⟨W.heap.size, 0, none⟩ 1 1 us (by decide) (by rw [hul]; simp) hcells hu hl2 hlen (by simp; omega)
    refine wpList_plain hgd fun K hK => ?_
    unfold Oper.wp execOp
    simp only [ho, resolve, invoke, builtin, Sem.run_bind, Sem.run_pure, Result.andThen_ok, List.map_toArray, List.map_cons, List.map_nil, hs, hx, hr]
    exact hK _ _ (h v' w' g1 ⟨g2, g3⟩)

/-- append of one int, told in full -/
theorem wpl_app_int2 {ops : Array Oper} {rest : List Oper} {o : Oper} {a : Act} {Q : Exit → Act → World → Prop} {W : World} {z : Int}
    (s x : Operand) (v : Value) (B : Nat) (xs : List Int)
    (hgd : o.guard = none) (ho : o.op = .call { callee := .builtin .append, args := #[s, x], argTypes := #[23, 23] })
    (hs : a.eval s = v) (hx : a.eval x = .slice (some ⟨W.heap.size, 0, none⟩) 1 1)
    (hown : Own W B 3 v (ints xs)) (hlen : xs.length < 1099511627776) (hB : B ≤ W.heap.size)
    (h : ∀ v' w', Own w' B 3 v' (ints (xs ++ [z])) → AppTo (W.alloc (.cells #[.int .i64 z] 3)) v w' v' → wpList Tryd.prog ops Q rest (a.put o.dst v') w') :
    wpList Tryd.prog ops Q (o :: rest) a (W.alloc (.cells #[.int .i64 z] 3)) :=
  wpl_appn hgd s x 23 3 ho (.int .i64 0) 1 8 info3 rfl (by decide) Tryd.underlying23 v B (ints xs).length (ints xs) hs hown [.int .i64 z] rfl (by simp [Value.oneCell']) hx
    (by rw [ints_length]; omega) (by rw [ints_length]; unfold maxLen; omega) hB
    (fun v' w' h1 h2 => h v' w' (by unfold Own; rw [ints_append, List.length_append]; exact h1) h2)
end Go.Proofs.YtpoekblolicehaaDoor
