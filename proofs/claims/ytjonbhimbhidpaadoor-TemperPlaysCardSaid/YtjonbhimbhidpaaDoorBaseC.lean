/-
  Appends to slices of the call's own: cells.
-/
import Derived.Test.YtjonbhimbhidpaaDoorBaseB
import Derived.Deep.RegionWith
import Derived.Deep.DeepCutAuto
namespace Go.Proofs.YtjonbhimbhidpaaDoor
open Go.RowKit

theorem run_app {P : Program} (w : World) (base : Nat) (t ty e : TypeId) (i : TypeInfo) (z : Value) (size bytes : Nat) (ht : P.underlying t = some (.slice e)) (hi : P.info? e = some i) (hz : i.zero = some z)
    (hsize : i.size = size) (hby : i.bytes = bytes) (hzs : z.cells.size = size) (hsz : 0 < size)
    (v : Value) (n : Nat) (xs : List Value) (hown : w.ownsRow base e size v n xs)
    (a : Addr) (m c : Nat) (news : List Value) (hm0 : 0 < m) (hl : news.length = m * size) (hnews : ∀ (j : Nat) u, news[j]? = some u → w.cell? (a.add j) = some u) (h1 : ∀ u ∈ news, u.oneCell' = true)
    (h63 : n + m ≤ maxLen) (hbytes : (n + m) * bytes ≤ 140737488355328) (hbase : base ≤ w.heap.size) :
    ∃ v' w', (Builtin.append_ #[t, t] ty #[v, .slice (some a) m c]).run P w = .ok v' w' ∧ w'.ownsRow base e size v' (n + m) (xs ++ news) ∧ w.grownBy w' v.ownBlock ∧
      (v'.ownBlock = v.ownBlock ∨ v'.ownBlock = some w.heap.size) := by
  obtain ⟨v', w', hr, h2, h3, _⟩ := run_append_own (P := P) w base t ty e i z size bytes ht hi hz hsize hby hzs hsz v n xs hown a m c news hl hnews h1 h63 hbytes hbase
  refine ⟨v', w', hr, h2, h3, ?_⟩
  subst hsize
  subst hby
  simp only [maxLen] at h63
  rcases hown.2 with ⟨rfl, rfl⟩ | ⟨g, cap, cur, rfl, hbg, hg, hnc, hcm, hcs, htake⟩
  · have hr2 := run_append_nil (P := P) w t ty e i z ht hi hz a m c news hl hnews hm0 (by omega) (by simp only [Nat.zero_add] at hbytes; omega)
    rw [hr2] at hr
    injection hr with e1 _
    subst e1
    exact .inr rfl
  · by_cases hroom : n + m ≤ cap
    · have hfit : n * i.size + news.length ≤ cur.size := by rw [hl, hcs, ← Nat.add_mul]; exact Nat.mul_le_mul_right _ hroom
      have hr2 := run_append_room (P := P) w t ty e i ht hi g n cap cur hg a m c news hl hnews h1 hroom hfit
      rw [hr2] at hr
      injection hr with e1 _
      subst e1
      exact .inl rfl
    · have holds : ∀ (j : Nat) u, xs[j]? = some u → w.cell? ((⟨g, 0, none⟩ : Addr).add j) = some u := hown.cells (g := g) rfl
      have hr2 := run_append_grow (P := P) w t ty e i z ht hi hz ⟨g, 0, none⟩ n cap xs hown.1 holds a m c news hl hnews (by omega) (by omega) (growslice_fits (by omega) hbytes)
      rw [hr2] at hr
      injection hr with e1 _
      subst e1
      exact .inr rfl

/-- what an append leaves: the world has grown, of what was there the row that was appended to alone may have turned -/
structure AppTo (w : World) (v : Value) (w' : World) (v' : Value) : Prop where
  grown : w.grownBy w' v.ownBlock
  block : v'.ownBlock = v.ownBlock ∨ v'.ownBlock = some w.heap.size

theorem below_app {w w' : World} {v v' : Value} {B : Nat} (ha : AppTo w v w' v') (hB : B ≤ w.heap.size) (hv : ∀ k, v.ownBlock = some k → B ≤ k) : Below B w w' :=
  (Below.refl B w).grown ha.grown hB hv
/-- append of one value of 'size' cells, that the walk has just laid in a block of its own -/
theorem wpl_appn {P : Program} {ops : Array Oper} {rest : List Oper} {o : Oper} {a : Act} {Q : Exit → Act → World → Prop} {W : World}
    (hgd : o.guard = none) (s x : Operand) (t e : TypeId) (ho : o.op = .call { callee := .builtin .append, args := #[s, x], argTypes := #[t, t] })
    (z : Value) (size bytes : Nat) (hi : (P.info? e).map (fun i => (i.zero, i.size, i.bytes)) = some (some z, size, bytes)) (hz : z.cells.size = size) (hsz : 0 < size)
    (ht : P.underlying t = some (.slice e)) (v : Value) (B n : Nat) (xs : List Value) (hs : a.eval s = v) (hown : W.ownsRow B e size v n xs)
    (us : List Value) (hul : us.length = size) (hu : ∀ u ∈ us, u.oneCell' = true) (hx : a.eval x = .slice (some ⟨W.heap.size, 0, none⟩) 1 1)
    (hlen : (n + 1) * bytes ≤ 140737488355328) (hl2 : n + 1 ≤ maxLen) (hB : B ≤ W.heap.size)
    (h : ∀ v' w', w'.ownsRow B e size v' (n + 1) (xs ++ us) → AppTo (W.alloc (.cells us.toArray e)) v w' v' → wpList P ops Q rest (a.put o.dst v') w') :
    wpList P ops Q (o :: rest) a (W.alloc (.cells us.toArray e)) := by
  cases hi0 : P.info? e with
  | none => rw [hi0] at hi; cases hi
  | some i =>
    rw [hi0] at hi
    simp only [Option.map_some, Option.some.injEq, Prod.mk.injEq] at hi
    obtain ⟨h1, h2, h3⟩ := hi
    have hcells : ∀ (j : Nat) u, us[j]? = some u → (W.alloc (.cells us.toArray e)).cell? ((⟨W.heap.size, 0, none⟩ : Addr).add j) = some u := by
      intro j u hu
      have hadd : (⟨W.heap.size, 0, none⟩ : Addr).add j = ⟨W.heap.size, j, none⟩ := by unfold Addr.add; split <;> simp_all
      rw [hadd, World.cell?, heap_alloc_new]
      simpa using hu
    obtain ⟨v', w', hr, g1, g2, g3⟩ := run_app (P := P) (W.alloc (.cells us.toArray e)) B t o.type e i z size bytes ht hi0 h1 h2 h3 hz hsz v n xs (World.ownsRow.alloc hown _)
      ⟨W.heap.size, 0, none⟩ 1 1 us (by decide) (by rw [hul]; simp) hcells hu hl2 hlen (by simp; omega)
    refine wpList_plain hgd fun K hK => ?_
    unfold Oper.wp execOp
    simp only [ho, resolve, invoke, builtin, Sem.run_bind, Sem.run_pure, Result.andThen_ok, List.map_toArray, List.map_cons, List.map_nil, hs, hx, hr]
    exact hK _ _ (h v' w' g1 ⟨g2, g3⟩)

/-- the cells of a list of cells -/
def scells (xs : List Sp) : List Value := xs.flatMap fun c => [.int .i64 c.1, .int .i64 c.2.1, .int .i64 c.2.2]
theorem scells_append (xs : List Sp) (r : Sp) : scells (xs ++ [r]) = scells xs ++ [.int .i64 r.1, .int .i64 r.2.1, .int .i64 r.2.2] := by simp [scells]
theorem scells_length (xs : List Sp) : (scells xs).length = xs.length * 3 := by
  induction xs with
  | nil => rfl
  | cons a xs ih => simp only [scells, List.flatMap_cons, List.length_append, List.length_cons, List.length_nil] at *; omega
def sAt (xs : List Sp) (i : Nat) : Sp := xs.getD i (0, 0, 0)
theorem scells_at (xs : List Sp) : ∀ i, i < xs.length → (scells xs)[i * 3]? = some (.int .i64 (sAt xs i).1) ∧ (scells xs)[i * 3 + 1]? = some (.int .i64 (sAt xs i).2.1) ∧ (scells xs)[i * 3 + 2]? = some (.int .i64 (sAt xs i).2.2) := by
  induction xs with
  | nil => intro i h; simp at h
  | cons a xs ih =>
    intro i h
    cases i with
    | zero => simp [scells, sAt]
    | succ i =>
      have := ih i (by simpa using h)
      have e1 : (i + 1) * 3 = i * 3 + 3 := by omega
      rw [e1]
      have h2 : sAt (a :: xs) (i + 1) = sAt xs i := by simp [sAt]
      rw [h2]
      simpa [scells] using this
/-- the call's own slice of cells, of type e -/
def OwnS (w : World) (B : Nat) (e : TypeId) (v : Value) (xs : List Sp) : Prop := w.ownsRow B e 3 v xs.length (scells xs)
theorem ownS_nil (w : World) (B : Nat) (e : TypeId) : OwnS w B e (.slice none 0 0) [] := World.ownsRow_nil _ _ _ _
/-- the value v reads as the list xs of cells -/
def IsSp (w : World) (v : Value) (xs : List Sp) : Prop :=
  ∃ a c, v = .slice a xs.length c ∧ xs.length ≤ maxLen ∧ ∀ i, i < xs.length → ∃ g, a = some ⟨g, 0, none⟩ ∧
    w.cell? ⟨g, i * 3, none⟩ = some (.int .i64 (sAt xs i).1) ∧ w.cell? ⟨g, i * 3 + 1, none⟩ = some (.int .i64 (sAt xs i).2.1) ∧ w.cell? ⟨g, i * 3 + 2, none⟩ = some (.int .i64 (sAt xs i).2.2)
theorem ownS_isSp {w : World} {B : Nat} {e : TypeId} {v : Value} {xs : List Sp} (h : OwnS w B e v xs) : IsSp w v xs := by
  obtain ⟨h1, h2 | ⟨g, cap, cur, rfl, hB, hh, hn, hm, hs, ht⟩⟩ := h
  · obtain ⟨rfl, h0⟩ := h2
    refine ⟨none, 0, by rw [h0], by omega, fun i hi => by omega⟩
  · refine ⟨_, cap, rfl, by omega, fun i hi => ⟨g, rfl, ?_⟩⟩
    obtain ⟨c0, c1, c2⟩ := scells_at xs i hi
    have hc : ∀ j, j < xs.length * 3 → w.cell? ⟨g, j, none⟩ = (scells xs)[j]? := by
      intro j hj
      rw [← ht, List.getElem?_take, if_pos hj, World.cell?, hh]
      simp
    exact ⟨by rw [hc _ (by omega)]; exact c0, by rw [hc _ (by omega)]; exact c1, by rw [hc _ (by omega)]; exact c2⟩
theorem isSp_below {w w' : World} {v : Value} {xs : List Sp} (h : IsSp w v xs) (hb : Below w.heap.size w w') : IsSp w' v xs := by
  obtain ⟨a, c, rfl, hl, hc⟩ := h
  refine ⟨a, c, rfl, hl, fun i hi => ?_⟩
  obtain ⟨g, ha, c0, c1, c2⟩ := hc i hi
  have hlt := World.block_lt_of_cell? w _ c0
  exact ⟨g, ha, (hb.cell (p := ⟨g, i * 3, none⟩) hlt).trans c0, (hb.cell (p := ⟨g, i * 3 + 1, none⟩) hlt).trans c1, (hb.cell (p := ⟨g, i * 3 + 2, none⟩) hlt).trans c2⟩
theorem ownS_below {w w' : World} {B : Nat} {e : TypeId} {v : Value} {xs : List Sp} (h : OwnS w B e v xs) (hb : Below w.heap.size w w') : OwnS w' B e v xs := by
  have hlt := h.lt
  obtain ⟨h1, h2⟩ := h
  refine ⟨h1, h2.imp_right ?_⟩
  rintro ⟨g, cap, cur, rfl, hB, hh, r⟩
  exact ⟨g, cap, cur, rfl, hB, by rw [hb.block g (hlt g rfl).2]; exact hh, r⟩
theorem ownS_lt {w : World} {B : Nat} {e : TypeId} {v : Value} {xs : List Sp} (h : OwnS w B e v xs) : ∀ k, v.ownBlock = some k → B ≤ k ∧ k < w.heap.size := h.lt
/-- a slice that is not nil has cells -/
theorem ownS_empty {w : World} {B : Nat} {e : TypeId} {a : Option Addr} {n c : Nat} {xs : List Sp} (h : OwnS w B e (.slice a n c) xs) : n = xs.length := by
  obtain ⟨h1, h2 | ⟨g, cap, cur, hv, hB, hh, hn, hm, hs, ht⟩⟩ := h
  · obtain ⟨hv, h0⟩ := h2
    cases hv; exact h0.symm
  · cases hv; rfl
theorem info87 : (Tryd.prog.info? 87).map (fun i => (i.zero, i.size, i.bytes)) = some (some (.agg #[.int .i64 0, .int .i64 0, .int .i64 0]), 3, 24) := by kernel_rfl
/-- append of one cell -/
theorem wpl_app_sp {ops : Array Oper} {rest : List Oper} {o : Oper} {a : Act} {Q : Exit → Act → World → Prop} {W : World} (c : Sp)
    (s x : Operand) (v : Value) (B : Nat) (xs : List Sp)
    (hgd : o.guard = none) (ho : o.op = .call { callee := .builtin .append, args := #[s, x], argTypes := #[114, 114] })
    (hs : a.eval s = v) (hx : a.eval x = .slice (some ⟨W.heap.size, 0, none⟩) 1 1)
    (hown : OwnS W B 87 v xs) (hlen : xs.length < 100000000) (hB : B ≤ W.heap.size)
    (h : ∀ v' w', OwnS w' B 87 v' (xs ++ [c]) → AppTo (W.alloc (.cells #[.int .i64 c.1, .int .i64 c.2.1, .int .i64 c.2.2] 87)) v w' v' → wpList Tryd.prog ops Q rest (a.put o.dst v') w') :
    wpList Tryd.prog ops Q (o :: rest) a (W.alloc (.cells #[.int .i64 c.1, .int .i64 c.2.1, .int .i64 c.2.2] 87)) :=
  wpl_appn hgd s x 114 87 ho (.agg #[.int .i64 0, .int .i64 0, .int .i64 0]) 3 24 info87 rfl (by decide) Tryd.underlying114 v B xs.length (scells xs) hs hown [.int .i64 c.1, .int .i64 c.2.1, .int .i64 c.2.2] rfl (by simp [Value.oneCell']) hx
    (by omega) (by unfold maxLen; omega) hB
    (fun v' w' h1 h2 => h v' w' (by unfold OwnS; rw [scells_append, List.length_append]; exact h1) h2)
end Go.Proofs.YtjonbhimbhidpaaDoor
