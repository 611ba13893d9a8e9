/-
  Words on memory: a queue of numbers.
-/
import Derived.Test.YtppkgilpmmhpoaaDoorBaseE
import Derived.Laws.CopyOwn
namespace Go.Proofs.YtppkgilpmmhpoaaDoor
open Go.RowKit
/-- a queue of numbers: an own slice that may begin behind its block's beginning -/
def OwnQ (w : World) (B : Nat) (v : Value) (xs : List Value) : Prop :=
  ∃ g o cap cur, v = .slice (some ⟨g, o, none⟩) xs.length cap ∧ B ≤ g ∧ w.heap[g]? = some (.cells cur 3 (0, 0)) ∧ xs.length ≤ cap ∧ cap ≤ maxLen ∧ o + cap ≤ cur.size ∧ (cur.toList.drop o).take xs.length = xs
theorem ownQ_sh {w : World} {B : Nat} {v : Value} {xs : List Value} (h : OwnQ w B v xs) : ∃ g o c, v = .slice (some ⟨g, o, none⟩) xs.length c ∧ B ≤ g ∧ xs.length ≤ c := by
  obtain ⟨g, o, cap, cur, rfl, h1, _, h2, _⟩ := h
  exact ⟨g, o, cap, rfl, h1, h2⟩
theorem ownQ_cell {w : World} {B g o m c : Nat} {xs : List Value} (h : OwnQ w B (.slice (some ⟨g, o, none⟩) m c) xs) (j : Nat) (hj : j < xs.length) : w.cell? ⟨g, o + j, none⟩ = some (xs.getD j undef) := by
  obtain ⟨g', o', cap, cur, hv, h1, h2, h3, h4, h5, h6⟩ := h
  cases hv
  rw [World.cell?, h2]
  have e : xs.getD j undef = ((cur.toList.drop o).take xs.length).getD j undef := by rw [h6]
  rw [e, List.getD_eq_getElem?_getD, List.getElem?_take_of_lt hj, List.getElem?_drop]
  have hlt : o + j < cur.size := by omega
  simp [hlt]
theorem ownQ_kept {w w' : World} {B : Nat} {v : Value} {xs : List Value} {row : Option Nat} (h : OwnQ w B v xs) (hg : w.grownBy w' row) (hr : ∀ k, row = some k → k < B) : OwnQ w' B v xs := by
  obtain ⟨g, o, cap, cur, rfl, h1, h2, h3⟩ := h
  exact ⟨g, o, cap, cur, rfl, h1, (hg.block g (heap_lt h2) (fun e => by have := hr g e.symm; omega)).trans h2, h3⟩
theorem ownQ_below {w w' : World} {B : Nat} {v : Value} {xs : List Value} (h : OwnQ w B v xs) (hb : Below w.heap.size w w') : OwnQ w' B v xs := by
  obtain ⟨g, o, cap, cur, rfl, h1, h2, h3⟩ := h
  exact ⟨g, o, cap, cur, rfl, h1, (hb.block g (heap_lt h2)).trans h2, h3⟩
theorem ownQ_of {w : World} {B : Nat} {g c : Nat} {xs : List Value} (h : OwnV w B 3 (.slice (some ⟨g, 0, none⟩) xs.length c) xs) : OwnQ w B (.slice (some ⟨g, 0, none⟩) xs.length c) xs := by
  obtain ⟨_, ⟨h2, _⟩ | ⟨g', cap, cur, hv, hB, hh, hn, hm, hs, ht⟩⟩ := h
  · cases h2
  · cases hv
    exact ⟨g, 0, c, cur, rfl, hB, hh, hn, hm, by omega, by rw [List.drop_zero]; simpa using ht⟩
/-- the first one is taken away -/
theorem ownQ_pop {w : World} {B g o c : Nat} {x : Value} {xs : List Value} (h : OwnQ w B (.slice (some ⟨g, o, none⟩) (xs.length + 1) c) (x :: xs)) :
    OwnQ w B (.slice (some (if c = 1 then ⟨g, o, none⟩ else ⟨g, o + 1, none⟩)) xs.length (c - 1)) xs := by
  obtain ⟨g', o', cap, cur, hv, h1, h2, h3, h4, h5, h6⟩ := h
  cases hv
  rw [List.length_cons] at h3 h6
  by_cases hc : c = 1
  · have hx : xs = [] := List.length_eq_zero_iff.1 (by omega)
    subst hx
    rw [if_pos hc]
    exact ⟨g, o, _, cur, rfl, h1, h2, by simp, by omega, by omega, by simp⟩
  · rw [if_neg hc]
    refine ⟨g, o + 1, _, cur, rfl, h1, h2, by omega, by omega, by omega, ?_⟩
    have := congrArg List.tail h6
    rw [List.tail_cons] at this
    rw [← List.drop_drop]
    generalize cur.toList.drop o = l at *
    cases l with
    | nil => simpa using this
    | cons y l => simpa using this
theorem run_append_off {P : Program} (w : World) (t ty e : TypeId) (i : TypeInfo) (ht : P.underlying t = some (.slice e)) (hi : P.info? e = some i)
    (g o sLen sCap : Nat) (cur : Array Value) (hg : w.heap[g]? = some (.cells cur e (0, 0)))
    (a : Addr) (m c : Nat) (news : List Value) (hl : news.length = m * i.size) (hnews : ∀ j u, news[j]? = some u → w.cell? (a.add j) = some u) (h1 : ∀ u ∈ news, u.oneCell' = true)
    (hroom : sLen + m ≤ sCap) (hfit : o + sLen * i.size + news.length ≤ cur.size) :
    (Builtin.append_ #[t, t] ty #[.slice (some ⟨g, o, none⟩) sLen sCap, .slice (some a) m c]).run P w =
      .ok (.slice (some ⟨g, o, none⟩) (sLen + m) sCap) (w.setRow g (cur.toList.take (o + sLen * i.size) ++ news ++ cur.toList.drop (o + sLen * i.size + news.length)).toArray) := by
  have hf := run_firstCells_some (P := P) w i.size m a m c news hl hnews
  have hst := run_storeCells_at P g (o + sLen * i.size) e news 0 cur w hg (by simpa using hfit) h1
  simp only [Nat.add_zero] at hst
  simp [Builtin.append_, run_underlying ht, sizeOf, typeInfo, hi, Builtin.lenOf, hroom, hf, Addr.add_lit, hst]
/-- append of one number to a queue -/
theorem wpl_app_q {ops : Array Oper} {rest : List Oper} {o : Oper} {a : Act} {Q : Exit → Act → World → Prop} {W : World} (z : Int) (s y : Operand) (v : Value) (B : Nat) (xs : List Value)
    (hgd : o.guard = none) (ho : o.op = .call { callee := .builtin .append, args := #[s, y], argTypes := #[22, 22] })
    (hs : a.eval s = v) (hx : a.eval y = .slice (some ⟨W.heap.size, 0, none⟩) 1 1)
    (hown : OwnQ W B v xs) (hlen : xs.length < 1000000) (hB : B ≤ W.heap.size)
    (h : ∀ v' w', OwnQ w' B v' (xs ++ [.int .i64 z]) → Below B W w' → wpList Tryd.prog ops Q rest (a.put o.dst v') w') :
    wpList Tryd.prog ops Q (o :: rest) a (W.alloc (.cells #[.int .i64 z] 3)) := by
  have hinf := info3
  cases hi0 : Tryd.prog.info? 3 with
  | none => rw [hi0] at hinf; cases hinf
  | some inf =>
    rw [hi0] at hinf
    simp only [Option.map_some, Option.some.injEq, Prod.mk.injEq] at hinf
    obtain ⟨e1, e2, e3⟩ := hinf
    have hown1 := ownQ_below hown (ba W (.cells #[.int .i64 z] 3))
    have hb1 : Below B W (W.alloc (.cells #[.int .i64 z] 3)) := (Below.refl B W).alloc hB _
    have hnew := heap_alloc_new W (.cells #[.int .i64 z] 3)
    have hnews : ∀ (j : Nat) u, [Value.int .i64 z][j]? = some u → (W.alloc (.cells #[.int .i64 z] 3)).cell? ((⟨W.heap.size, 0, none⟩ : Addr).add j) = some u := fun j u hj => by
      cases j with
      | zero => simp at hj; rw [← hj]; exact box1 hnew
      | succ j => simp at hj
    have h1 : ∀ u ∈ [Value.int .i64 z], u.oneCell' = true := fun u hu => by simp at hu; rw [hu]; rfl
    have hsz : B ≤ (W.alloc (.cells #[.int .i64 z] 3)).heap.size := Nat.le_trans hB (by simp)
    generalize W.alloc (.cells #[.int .i64 z] 3) = W1 at *
    obtain ⟨g, of, cap, cur, rfl, q1, q2, q3, q4, q5, q6⟩ := hown1
    by_cases hroom : xs.length + 1 ≤ cap
    · have hr := run_append_off (P := Tryd.prog) W1 22 o.type 3 inf Tryd.underlying22 hi0 g of xs.length cap cur q2 ⟨W.heap.size, 0, none⟩ 1 1 [.int .i64 z] (by rw [e2]; rfl) hnews h1 hroom (by rw [e2, Nat.mul_one]; simp; omega)
      rw [e2, Nat.mul_one] at hr
      refine wpList_plain hgd fun K hK => ?_
      unfold Oper.wp execOp
      simp only [ho, resolve, invoke, builtin, Sem.run_bind, Sem.run_pure, Result.andThen_ok, List.map_toArray, List.map_cons, List.map_nil, hs, hx, hr]
      refine hK _ _ (h _ _ ⟨g, of, cap, _, by rw [List.length_append]; rfl, q1, setRow_heap W1 g cur _ 3 _ q2, by rw [List.length_append]; simpa using hroom, q4, ?_, ?_⟩ (below_setRow hb1 q1 _))
      · simp only [List.size_toArray, List.length_append, List.length_take, List.length_drop, Array.length_toList, List.length_cons, List.length_nil]
        omega
      · rw [List.append_assoc, List.drop_append_of_le_length (by simp; omega)]
        have e4 : (cur.toList.take (of + xs.length)).drop of = xs := by rw [List.drop_take, Nat.add_sub_cancel_left]; exact q6
        rw [e4, ← List.append_assoc]
        exact List.take_left' rfl
    · have holds : ∀ (j : Nat) u, xs[j]? = some u → W1.cell? ((⟨g, of, none⟩ : Addr).add j) = some u := fun j u hu => by
        have hj := (List.getElem?_eq_some_iff.1 hu).1
        have hc := ownQ_cell (w := W1) (B := B) (g := g) (o := of) (m := xs.length) (c := cap) ⟨g, of, cap, cur, rfl, q1, q2, q3, q4, q5, q6⟩ j hj
        have hadd : (⟨g, of, none⟩ : Addr).add j = ⟨g, of + j, none⟩ := by unfold Addr.add; split <;> simp_all
        rw [hadd, hc, List.getD_eq_getElem?_getD, hu]; rfl
      have hr := run_append_grow (P := Tryd.prog) W1 22 o.type 3 inf (.int .i64 0) Tryd.underlying22 hi0 e1 ⟨g, of, none⟩ xs.length cap xs (by rw [e2, Nat.mul_one]) holds ⟨W.heap.size, 0, none⟩ 1 1 [.int .i64 z] (by rw [e2]; rfl) hnews (by omega) (by omega) (growslice_fits (by omega) (by rw [e3]; omega))
      have hge := grownCap_ge W1 (xs.length + 1) cap 3
      have hcm := grownCap_le_maxLen W1 (xs.length + 1) cap 3 (by unfold maxLen; omega)
      refine wpList_plain hgd fun K hK => ?_
      unfold Oper.wp execOp
      simp only [ho, resolve, invoke, builtin, Sem.run_bind, Sem.run_pure, Result.andThen_ok, List.map_toArray, List.map_cons, List.map_nil, hs, hx, hr]
      refine hK _ _ (h _ _ ⟨W1.heap.size, 0, _, _, by rw [List.length_append]; rfl, hsz, heap_alloc_new W1.drew _, by rw [List.length_append]; simpa using hge, hcm, ?_, ?_⟩ ((hb1.drew).alloc hsz _))
      · simp only [Array.size_append, List.size_toArray, size_zeroCells, List.length_cons, List.length_nil]
        simp [Value.cells]
        omega
      · simp only [Array.toList_append, List.append_assoc, List.drop_zero]
        rw [← List.append_assoc]
        exact List.take_left' rfl
theorem numW_look01 {W : World} {b n : Nat} {f : Int → Option Nat} (h : NumW W b n f) {c : Int} (hc : InR c) :
    (Instr.lookup 60 (.map (some b)) (.int .i64 c) false).run Tryd.prog W = .ok (.int .i64 (((f c).getD 0 : Nat) : Int)) W := by
  obtain ⟨D, h, hD⟩ := h
  obtain ⟨v, ps, hr, hv⟩ := h.lookup K3 Tryd.underlying60 (zero3 W) (zd := .lit (.int .i64 0)) (zp := []) (plainElem_int Tryd.underlying3 (by decide)) (keyOf_sp hc)
  rw [hr]
  obtain ⟨q, rfl, h1, _⟩ := plainElem_int_inv Tryd.underlying3 hv
  simp only [Prod.mk.injEq] at h1
  cases hf : f c with
  | none =>
    rw [Maps.atKey_of_not_has (by rw [hD.has c hc, hf]; rfl)] at h1
    simp only [DataW.lit.injEq, Lit.int.injEq, true_and] at h1
    rw [← h1.1]; rfl
  | some m =>
    rw [hD.at' c hc m hf] at h1
    simp only [DataW.lit.injEq, Lit.int.injEq, true_and] at h1
    rw [← h1.1]; rfl
end Go.Proofs.YtppkgilpmmhpoaaDoor
