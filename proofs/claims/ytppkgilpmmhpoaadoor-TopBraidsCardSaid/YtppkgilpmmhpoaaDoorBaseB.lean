/-
  Words on memory: appends and regions by hand, at this program's types (turned from the seat of chapter 12).
-/
import Derived.Test.YtppkgilpmmhpoaaDoorBaseA
namespace Go.Proofs.YtppkgilpmmhpoaaDoor
open Go.RowKit
theorem wraps62 (n : Int) (h0 : 0 ≤ n) (h1 : n < 2 ^ 62) : IntKind.i64.wrap n = n := by
  rw [IntKind.wrap_i64]; omega
theorem pow_small {i n : Nat} (h : i ≤ n) : 2 ^ i ≤ 2 ^ n := Nat.pow_le_pow_right (by decide) h
theorem info3 : (Tryd.prog.info? 3).map (fun i => (i.zero, i.size, i.bytes)) = some (some (.int .i64 0), 1, 8) := by kernel_rfl
theorem info22 : (Tryd.prog.info? 22).map (fun i => (i.zero, i.size, i.bytes)) = some (some (.slice none 0 0), 1, 24) := by kernel_rfl
theorem info54 : (Tryd.prog.info? 54).map (fun i => (i.zero, i.size, i.bytes)) = some (some (.agg #[.int .i64 0, .int .i64 0]), 2, 16) := by kernel_rfl
theorem grown_alloc {W w' : World} {o : Obj} {row : Option Nat} (h : (W.alloc o).grownBy w' row) : W.grownBy w' row :=
  ⟨h.os, h.tape, h.output, Nat.le_trans (by simp) h.size, fun j hj hn => (h.block j (by simp; omega) hn).trans (Below.heap_alloc _ _ _ hj)⟩
/-- append of one value of one cell -/
theorem wpl_app_v {ops : Array Oper} {rest : List Oper} {o : Oper} {a : Act} {Q : Exit → Act → World → Prop} {W : World} (t e : TypeId) (z0 : Value) (bytes : Nat)
    (hinf : (Tryd.prog.info? e).map (fun i => (i.zero, i.size, i.bytes)) = some (some z0, 1, bytes)) (hz : z0.cells.size = 1) (ht : Tryd.prog.underlying t = some (.slice e)) (hb24 : bytes ≤ 24)
    (x : Value) (hx1 : x.oneCell' = true) (s y : Operand) (v : Value) (B : Nat) (xs : List Value)
    (hgd : o.guard = none) (ho : o.op = .call { callee := .builtin .append, args := #[s, y], argTypes := #[t, t] })
    (hs : a.eval s = v) (hx : a.eval y = .slice (some ⟨W.heap.size, 0, none⟩) 1 1)
    (hown : OwnV W B e v xs) (hlen : xs.length < 1000000) (hB : B ≤ W.heap.size)
    (h : ∀ v' w', OwnV w' B e v' (xs ++ [x]) → Below B W w' → W.grownBy w' v.ownBlock → wpList Tryd.prog ops Q rest (a.put o.dst v') w') :
    wpList Tryd.prog ops Q (o :: rest) a (W.alloc (.cells #[x] e)) :=
  wpl_appn hgd s y t e ho z0 1 bytes hinf hz (by decide) ht v B xs.length xs hs hown [x] rfl (fun u hu => by simp at hu; rw [hu]; exact hx1) hx
    (by have : (xs.length + 1) * bytes ≤ 1000000 * 24 := Nat.mul_le_mul (by omega) hb24
        omega) (by unfold maxLen; omega) hB
    (fun v' w' h1 h2 => h v' w' (by unfold OwnV; rw [List.length_append]; exact h1) (((Below.refl B W).alloc hB _).trans (app_below h2 (by simp; omega) (fun k hk => (hown.lt k hk).1))) (grown_alloc h2.grown))
theorem wpl_app_int {ops : Array Oper} {rest : List Oper} {o : Oper} {a : Act} {Q : Exit → Act → World → Prop} {W : World} (z : Int) (s y : Operand) (v : Value) (B : Nat) (xs : List Value)
    (hgd : o.guard = none) (ho : o.op = .call { callee := .builtin .append, args := #[s, y], argTypes := #[22, 22] })
    (hs : a.eval s = v) (hx : a.eval y = .slice (some ⟨W.heap.size, 0, none⟩) 1 1)
    (hown : OwnV W B 3 v xs) (hlen : xs.length < 1000000) (hB : B ≤ W.heap.size)
    (h : ∀ v' w', OwnV w' B 3 v' (xs ++ [.int .i64 z]) → Below B W w' → W.grownBy w' v.ownBlock → wpList Tryd.prog ops Q rest (a.put o.dst v') w') :
    wpList Tryd.prog ops Q (o :: rest) a (W.alloc (.cells #[.int .i64 z] 3)) :=
  wpl_app_v 22 3 (.int .i64 0) 8 info3 rfl Tryd.underlying22 (by decide) (.int .i64 z) rfl s y v B xs hgd ho hs hx hown hlen hB h
theorem wpl_app_row {ops : Array Oper} {rest : List Oper} {o : Oper} {a : Act} {Q : Exit → Act → World → Prop} {W : World} (b : Option Addr) (n c : Nat) (s y : Operand) (v : Value) (B : Nat) (xs : List Value)
    (hgd : o.guard = none) (ho : o.op = .call { callee := .builtin .append, args := #[s, y], argTypes := #[33, 33] })
    (hs : a.eval s = v) (hx : a.eval y = .slice (some ⟨W.heap.size, 0, none⟩) 1 1)
    (hown : OwnV W B 22 v xs) (hlen : xs.length < 1000000) (hB : B ≤ W.heap.size)
    (h : ∀ v' w', OwnV w' B 22 v' (xs ++ [.slice b n c]) → Below B W w' → W.grownBy w' v.ownBlock → wpList Tryd.prog ops Q rest (a.put o.dst v') w') :
    wpList Tryd.prog ops Q (o :: rest) a (W.alloc (.cells #[.slice b n c] 22)) :=
  wpl_app_v 33 22 (.slice none 0 0) 24 info22 rfl Tryd.underlying33 (by decide) (.slice b n c) rfl s y v B xs hgd ho hs hx hown hlen hB h
theorem wrap64 {i : Nat} (h : i < 62) : IntKind.i64.wrap (2 ^ i) = ((2 ^ i : Nat) : Int) := by
  have h1 : 2 ^ i ≤ 2 ^ 61 := pow_small (by omega)
  have : ((2 : Int) ^ i) = ((2 ^ i : Nat) : Int) := by push_cast; rfl
  rw [this]
  generalize 2 ^ i = p at *
  exact wraps62 _ (by omega) (by omega)
theorem ownP_sh {w : World} {B : Nat} {e : TypeId} {v : Value} {xs : List Pr} (h : OwnP w B e v xs) : ∃ a n c, v = .slice a n c := by
  obtain ⟨a, c, h⟩ := row_slice h
  exact ⟨a, _, c, h⟩
theorem wpl_app_pr {ops : Array Oper} {rest : List Oper} {o : Oper} {a : Act} {Q : Exit → Act → World → Prop} {W : World} (x y : Int) (s t : Operand) (v : Value) (B : Nat) (xs : List Pr)
    (hgd : o.guard = none) (ho : o.op = .call { callee := .builtin .append, args := #[s, t], argTypes := #[28, 28] })
    (hs : a.eval s = v) (hx : a.eval t = .slice (some ⟨W.heap.size, 0, none⟩) 1 1)
    (hown : OwnP W B 54 v xs) (hlen : xs.length < 1000000) (hB : B ≤ W.heap.size)
    (h : ∀ v' w', OwnP w' B 54 v' (xs ++ [(x, y)]) → Below B W w' → W.grownBy w' v.ownBlock → wpList Tryd.prog ops Q rest (a.put o.dst v') w') :
    wpList Tryd.prog ops Q (o :: rest) a (W.alloc (.cells #[.int .i64 x, .int .i64 y] 54)) :=
  wpl_appn hgd s t 28 54 ho (.agg #[.int .i64 0, .int .i64 0]) 2 16 info54 rfl (by decide) Tryd.underlying28 v B xs.length (pcells xs) hs hown [.int .i64 x, .int .i64 y] rfl (fun u hu => by simp at hu; rcases hu with rfl | rfl <;> rfl) hx
    (by have : (xs.length + 1) * 16 ≤ 1000000 * 16 := Nat.mul_le_mul (by omega) (Nat.le_refl _)
        omega) (by unfold maxLen; omega) hB
    (fun v' w' h1 h2 => h v' w' (by unfold OwnP; rw [List.length_append, pcells_append]; exact h1) (((Below.refl B W).alloc hB _).trans (app_below h2 (by simp; omega) (fun k hk => (World.ownsRow.lt hown k hk).1))) (grown_alloc h2.grown))
section
variable {md : Region.Mode} {ops : Array Oper} {Q : Exit → Act → World → Prop} {S : World → Prop} {fuel : Nat} {listed : Array Bool} {a : Act} {w : World} {i : Nat} {o : Oper} {rs : List Nat}
theorem node_load3 (d k : Nat) (ad : Addr) (v : Value) (hi : ops[i]? = some o) (hgd : o.guard = none) (ho : o.op = .load 3 (.tmp k)) (hd : o.dst = some d)
    (hp : a.tmps[k]?.getD undef = .pointer (some ad)) (hc : w.cell? ad = some v) (hS : S w)
    (h : wpAnyH Tryd.prog md ops Q S fuel (listed.setIfInBounds i true) (a.put (some d) v) w)
    (hs : AllReadyH Tryd.prog md ops Q S fuel listed a w rs) : AllReadyH Tryd.prog md ops Q S fuel listed a w (i :: rs) := by
  refine AllReadyH.cons hi (fun K hK => ?_) hs
  have hw : Region.wanted o (yielded ops a.tmps) = true := by simp [Region.wanted, hgd]
  rw [if_pos hw]
  have hk := hK.out _ _ hS (fun _ => h)
  unfold Oper.wp execOp
  simp [ho, go_sem, hp, hc]
  rw [hd]
  exact hk
theorem node_store3 (k j g off : Nat) (x : Value) (z : Int) (hi : ops[i]? = some o) (hgd : o.guard = none) (ho : o.op = .store 3 (.tmp k) (.tmp j)) (hd : o.dst = none)
    (hp : a.tmps[k]?.getD undef = .pointer (some ⟨g, off, none⟩)) (hv : a.tmps[j]?.getD undef = .int .i64 z)
    (hc : w.cell? ⟨g, off, none⟩ = some x) (hf : w.frozen? ⟨g, off, none⟩ = false) (hS : S (w.setCell ⟨g, off, none⟩ (.int .i64 z)))
    (h : wpAnyH Tryd.prog md ops Q S fuel (listed.setIfInBounds i true) a (w.setCell ⟨g, off, none⟩ (.int .i64 z)))
    (hs : AllReadyH Tryd.prog md ops Q S fuel listed a w rs) : AllReadyH Tryd.prog md ops Q S fuel listed a w (i :: rs) := by
  refine AllReadyH.cons hi (fun K hK => ?_) hs
  have hw : Region.wanted o (yielded ops a.tmps) = true := by simp [Region.wanted, hgd]
  rw [if_pos hw]
  have hk := hK.out _ _ hS (fun _ => h)
  unfold Oper.wp execOp
  simp [ho, go_sem, hp, hv, hc, hf]
  rw [hd]
  exact hk
theorem node_build22 (d k : Nat) (z : Int) (hi : ops[i]? = some o) (hgd : Region.wanted o (yielded ops a.tmps) = true) (ho : o.op = .buildSlice 22 1 #[(0, .tmp k)]) (hd : o.dst = some d)
    (hp : a.tmps[k]?.getD undef = .int .i64 z) (hS : S (w.alloc (.cells #[.int .i64 z] 3)))
    (h : S (w.alloc (.cells #[.int .i64 z] 3)) → wpAnyH Tryd.prog md ops Q S fuel (listed.setIfInBounds i true) (a.put (some d) (.slice (some ⟨w.heap.size, 0, none⟩) 1 1)) (w.alloc (.cells #[.int .i64 z] 3)))
    (hs : AllReadyH Tryd.prog md ops Q S fuel listed a w rs) : AllReadyH Tryd.prog md ops Q S fuel listed a w (i :: rs) := by
  refine AllReadyH.cons hi (fun K hK => ?_) hs
  rw [if_pos hgd]
  have hk := hK.out _ _ hS h
  unfold Oper.wp execOp
  simp [ho, go_sem, hp]
  rw [hd]
  exact hk
theorem node_none22 (d : Nat) (hi : ops[i]? = some o) (hgd : o.guard = none) (ho : o.op = .buildSlice 22 0 #[]) (hd : o.dst = some d)
    (hS : S (w.alloc (.cells #[] 3)))
    (h : S (w.alloc (.cells #[] 3)) → wpAnyH Tryd.prog md ops Q S fuel (listed.setIfInBounds i true) (a.put (some d) (.slice (some ⟨w.heap.size, 0, none⟩) 0 0)) (w.alloc (.cells #[] 3)))
    (hs : AllReadyH Tryd.prog md ops Q S fuel listed a w rs) : AllReadyH Tryd.prog md ops Q S fuel listed a w (i :: rs) := by
  refine AllReadyH.cons hi (fun K hK => ?_) hs
  have hw : Region.wanted o (yielded ops a.tmps) = true := by simp [Region.wanted, hgd]
  rw [if_pos hw]
  have hk := hK.out _ _ hS h
  unfold Oper.wp execOp
  simp [ho, go_sem]
  rw [hd]
  exact hk
theorem node_app22n (d B : Nat) (ks kx : Nat) (v : Value) (xs : List Value) (src : Value) (m : Nat) (us : List Value)
    (hi : ops[i]? = some o) (hgd : o.guard = none) (ho : o.op = .call { callee := .builtin .append, args := #[.tmp ks, .tmp kx], argTypes := #[22, 22] }) (hd : o.dst = some d)
    (hs' : a.tmps[ks]?.getD undef = v) (hx : a.tmps[kx]?.getD undef = src) (hsrc : Rd w src m 1 us)
    (hown : OwnV w B 3 v xs) (hB : B ≤ w.heap.size) (hlen : xs.length ≤ 1000000 ∧ m ≤ 1000000)
    (h : ∀ v' w', OwnV w' B 3 v' (xs ++ us) → w.grownBy w' v.ownBlock → S w' ∧ wpAnyH Tryd.prog md ops Q S fuel (listed.setIfInBounds i true) (a.put (some d) v') w')
    (hs : AllReadyH Tryd.prog md ops Q S fuel listed a w rs) : AllReadyH Tryd.prog md ops Q S fuel listed a w (i :: rs) := by
  refine AllReadyH.cons hi (fun K hK => ?_) hs
  have hw : Region.wanted o (yielded ops a.tmps) = true := by simp [Region.wanted, hgd]
  rw [if_pos hw]
  have hinf := info3
  cases hi0 : Tryd.prog.info? 3 with
  | none => rw [hi0] at hinf; cases hinf
  | some inf =>
    rw [hi0] at hinf
    simp only [Option.map_some, Option.some.injEq, Prod.mk.injEq] at hinf
    obtain ⟨e1, e2, e3⟩ := hinf
    have a1 : a.eval (.tmp ks) = v := by simpa [Act.eval] using hs'
    have a2 : a.eval (.tmp kx) = src := by simpa [Act.eval] using hx
    obtain ⟨r1, r2, ⟨rfl, rfl⟩ | ⟨ad, c, rfl, hlt, hc⟩⟩ := hsrc
    · have hr := run_append_owned_none (P := Tryd.prog) w B 22 o.type 3 inf 1 Tryd.underlying22 hi0 _ xs.length xs hown
      unfold Oper.wp execOp
      simp only [ho, resolve, invoke, builtin, Sem.run_bind, Sem.run_pure, Result.andThen_ok, List.map_toArray, List.map_cons, List.map_nil, a1, a2, hr]
      have hus : us = [] := List.length_eq_zero_iff.1 (by simpa using r1)
      subst hus
      show K (a.put o.dst v) w
      rw [hd]
      have h2 := h v w (by rw [List.append_nil]; exact hown) ⟨rfl, rfl, rfl, Nat.le_refl _, fun _ _ _ => rfl⟩
      exact hK.out _ _ h2.1 (fun _ => h2.2)
    · refine wp_append_own w (.tmp ks) (.tmp kx) 22 ho B 3 inf (.int .i64 0) 1 8 Tryd.underlying22 hi0 e1 e2 e3 rfl (by decide) v xs.length xs a1 hown ad m c us a2 r1 hc r2 (by unfold maxLen; omega) (by omega) hB ?_
      intro v' w' hv hgr _
      rw [hd]
      have hul : us.length = m := by simpa using r1
      have h2 := h v' w' (by unfold OwnV; rw [List.length_append, hul]; exact hv) hgr
      exact hK.out _ _ h2.1 (fun _ => h2.2)
end
theorem ownV_cell {w : World} {B g m c : Nat} {e : TypeId} {xs : List Value} (h : OwnV w B e (.slice (some ⟨g, 0, none⟩) m c) xs) (i : Nat) (hi : i < xs.length) : w.cell? ⟨g, i, none⟩ = some (xs.getD i undef) := by
  obtain ⟨a', c', hv, _, _, hc⟩ := row_cells1 h
  obtain ⟨g', hg, hcell, _⟩ := hc i hi
  cases hv
  cases hg
  refine hcell.trans ?_
  rw [List.getD_eq_getElem?_getD, List.getElem?_eq_getElem hi]; rfl
theorem ownV_frozen {w : World} {B g m c : Nat} {e : TypeId} {xs : List Value} (h : OwnV w B e (.slice (some ⟨g, 0, none⟩) m c) xs) (j : Nat) : w.frozen? ⟨g, j, none⟩ = false := by
  obtain ⟨a', c', hv, _, _, _⟩ := row_cells1 h
  cases hv
  exact World.ownsRow.frozenAt h j
theorem ownV_set {w : World} {B g m c : Nat} {e : TypeId} {xs : List Value} (h : OwnV w B e (.slice (some ⟨g, 0, none⟩) m c) xs) (j : Nat) (x : Value) :
    OwnV (w.setCell ⟨g, j, none⟩ x) B e (.slice (some ⟨g, 0, none⟩) m c) (xs.set j x) ∧ w.grownBy (w.setCell ⟨g, j, none⟩ x) (some g) := by
  obtain ⟨a', c', hv, _, _, _⟩ := row_cells1 h
  cases hv
  have h2 := World.ownsRow.stored h j x
  refine ⟨?_, h2.2⟩
  unfold OwnV
  rw [List.length_set]
  exact h2.1
theorem ownV_le {w : World} {B g m c : Nat} {e : TypeId} {xs : List Value} (h : OwnV w B e (.slice (some ⟨g, 0, none⟩) m c) xs) : B ≤ g ∧ g < w.heap.size := h.lt g rfl
theorem ownV_kept {w w' : World} {B : Nat} {e : TypeId} {v : Value} {xs : List Value} {row : Option Nat} (h : OwnV w B e v xs) (hg : w.grownBy w' row) (hne : v.ownBlock = none ∨ v.ownBlock ≠ row) : OwnV w' B e v xs := World.ownsRow.kept h hg hne
theorem ownV_some {w : World} {B : Nat} {e : TypeId} {v : Value} {xs : List Value} (h : OwnV w B e v xs) (h0 : 0 < xs.length) : ∃ g c, v = .slice (some ⟨g, 0, none⟩) xs.length c ∧ B ≤ g ∧ g < w.heap.size := by
  have hlt := h.lt
  obtain ⟨_, ⟨rfl, h3⟩ | ⟨g, cap, cur, rfl, hB, _⟩⟩ := h
  · omega
  · exact ⟨g, cap, rfl, hB, (hlt g rfl).2⟩
theorem ba (w : World) (o : Obj) : Below w.heap.size w (w.alloc o) := (Below.refl _ _).alloc (Nat.le_refl _) _
theorem ownV_rd {w : World} {B : Nat} {e : TypeId} {g n c : Nat} {xs : List Value} (h : OwnV w B e (.slice (some ⟨g, 0, none⟩) n c) xs) (h1 : ∀ u ∈ xs, u.oneCell' = true) (i j : Nat) (hij : i ≤ j) (hj : j ≤ xs.length) (c' : Nat) :
    Rd w (.slice (some ⟨g, i, none⟩) (j - i) c') (j - i) 1 ((xs.drop i).take (j - i)) := by
  refine ⟨by rw [List.length_take, List.length_drop]; omega, fun u hu => h1 u (List.mem_of_mem_drop (List.mem_of_mem_take hu)), .inr ⟨⟨g, i, none⟩, c', rfl, fun _ => (ownV_le h).2, fun k u hk => ?_⟩⟩
  have hk2 := (List.getElem?_eq_some_iff.1 hk).1
  rw [List.length_take, List.length_drop] at hk2
  have hadd : (⟨g, i, none⟩ : Addr).add k = ⟨g, i + k, none⟩ := by
    unfold Addr.add
    split <;> simp_all
  rw [hadd, ownV_cell h (i + k) (by omega)]
  rw [List.getElem?_take_of_lt (by omega), List.getElem?_drop] at hk
  rw [List.getD_eq_getElem?_getD, hk]
  rfl
theorem ownV_capN {w : World} {B : Nat} {e : TypeId} {a : Option Addr} {n c : Nat} {xs : List Value} (h : OwnV w B e (.slice a n c) xs) : n ≤ c := by
  unfold OwnV World.ownsRow at h
  obtain ⟨_, h | ⟨g, c', cs, hv, _, _, hc, _⟩⟩ := h
  · have := h.1; simp_all
  · cases hv
    have := hc
    omega
/-- the call's own row of lists -/
theorem made1 (z : Value) (n : Nat) : (madeCells #[z] n).toList = List.replicate n z := by
  unfold madeCells
  refine List.ext_getElem (by simp) fun i h1 h2 => ?_
  simp [Nat.mod_one]
/-- n empty sets, newly made -/
theorem cell_same {w w' : World} {g i : Nat} (h : w'.heap[g]? = w.heap[g]?) : w'.cell? ⟨g, i, none⟩ = w.cell? ⟨g, i, none⟩ := by
  unfold World.cell?
  rw [h]
theorem grown_of {a b : World} {row : Option Nat} (h : Below a.heap.size a b) : a.grownBy b row := ⟨h.os, h.tape, h.output, h.size, fun j hj _ => h.block j hj⟩
theorem grown_trans {a b c : World} {row : Option Nat} (h : a.grownBy b row) (k : b.grownBy c row) : a.grownBy c row :=
  ⟨k.os.trans h.os, k.tape.trans h.tape, k.output.trans h.output, Nat.le_trans h.size k.size, fun j hj hn => (k.block j (Nat.lt_of_lt_of_le hj h.size) hn).trans (h.block j hj hn)⟩
def IsLL (w : World) (v : Value) (Ls : List (List Nat)) : Prop :=
  ∃ us : List Value, us.length = Ls.length ∧ IsV w v us ∧ ∀ j, j < Ls.length → IsV w (us.getD j undef) ((Ls.getD j []).map iv)
theorem isLL_below {w w' : World} {v : Value} {Ls : List (List Nat)} (h : IsLL w v Ls) (hb : Below w.heap.size w w') : IsLL w' v Ls := by
  obtain ⟨us, h1, h2, h3⟩ := h
  exact ⟨us, h1, isV_below h2 hb, fun j hj => isV_below (h3 j hj) hb⟩
/-- the call's own row of own lists -/
def OwnLL (w : World) (B : Nat) (v : Value) (us : List Value) (Ls : List (List Nat)) : Prop :=
  us.length = Ls.length ∧ OwnV w B 22 v us ∧ ∀ j, j < Ls.length → OwnV w B 3 (us.getD j undef) ((Ls.getD j []).map iv)
theorem ownLL_isLL {w : World} {B : Nat} {v : Value} {us : List Value} {Ls : List (List Nat)} (h : OwnLL w B v us Ls) (h1 : Ls.length ≤ 1000000) (h2 : ∀ l, l ∈ Ls → l.length ≤ 1000000) : IsLL w v Ls := by
  obtain ⟨g1, g2, g3⟩ := h
  refine ⟨us, g1, ownV_isV g2 (by omega), fun j hj => ownV_isV (g3 j hj) ?_⟩
  rw [List.length_map, List.getD_eq_getElem?_getD, List.getElem?_eq_getElem hj]
  exact h2 _ (List.getElem_mem hj)
theorem ownLL_nil (w : World) (B : Nat) : OwnLL w B (.slice none 0 0) [] [] := ⟨rfl, ownV_nil _ _ _, fun j hj => absurd hj (Nat.not_lt_zero _)⟩
theorem ownLL_below {w w' : World} {B : Nat} {v : Value} {us : List Value} {Ls : List (List Nat)} (h : OwnLL w B v us Ls) (hb : Below w.heap.size w w') : OwnLL w' B v us Ls :=
  ⟨h.1, ownV_below h.2.1 hb, fun j hj => ownV_below (h.2.2 j hj) hb⟩
theorem getD_snoc {α : Type} (xs : List α) (x d : α) (j : Nat) (h : j < xs.length) : (xs ++ [x]).getD j d = xs.getD j d := by
  rw [List.getD_eq_getElem?_getD, List.getD_eq_getElem?_getD, List.getElem?_append_left h]
theorem getD_last {α : Type} (xs : List α) (x d : α) : (xs ++ [x]).getD xs.length d = x := by
  rw [List.getD_eq_getElem?_getD, List.getElem?_append_right (Nat.le_refl _), Nat.sub_self]; rfl
theorem ownLL_app {w w' : World} {B : Nat} {v v' u : Value} {us : List Value} {Ls : List (List Nat)} {x : List Nat} (h : OwnLL w B v us Ls) (hx : OwnV w B 3 u (x.map iv)) (ho : OwnV w' B 22 v' (us ++ [u])) (hg : w.grownBy w' v.ownBlock) : OwnLL w' B v' (us ++ [u]) (Ls ++ [x]) := by
  obtain ⟨h1, h2, h3⟩ := h
  have kept : ∀ {q : Value} {ys : List Value}, OwnV w B 3 q ys → OwnV w' B 3 q ys := fun hq => row_other hq hg (fun k hk => row_type h2 k hk) (by decide)
  refine ⟨by simp [h1], ho, fun j hj => ?_⟩
  rw [List.length_append, List.length_singleton] at hj
  by_cases e : j < Ls.length
  · rw [getD_snoc _ _ _ _ (by rw [h1]; exact e), getD_snoc _ _ _ _ e]
    exact kept (h3 j e)
  · obtain rfl : j = Ls.length := by omega
    rw [getD_last, ← h1, getD_last]
    exact kept hx
theorem isLL_at {w : World} {a : Option Addr} {n c : Nat} {Ls : List (List Nat)} (h : IsLL w (.slice a n c) Ls) (i : Nat) (hi : i < Ls.length) : ∃ g pa pn pc, a = some ⟨g, 0, none⟩ ∧ n = Ls.length ∧ w.cell? ⟨g, i, none⟩ = some (.slice pa pn pc) ∧ IsV w (.slice pa pn pc) ((Ls.getD i []).map iv) := by
  obtain ⟨us, h1, h2, h3⟩ := h
  obtain ⟨g, h4, h5, h6⟩ := isV_at h2 i (by omega)
  have h7 := h3 i hi
  obtain ⟨pa, pc, h8⟩ := isV_slice h7
  rw [h8] at h6 h7
  exact ⟨g, pa, _, pc, h4, by omega, h6, h7⟩
theorem isLL_slice {w : World} {v : Value} {Ls : List (List Nat)} (h : IsLL w v Ls) : ∃ a c, v = .slice a Ls.length c ∧ Ls.length ≤ 1000000 := by
  obtain ⟨us, h1, ⟨a, c, h2, h4, _⟩, h3⟩ := h
  exact ⟨a, c, by rw [h2, h1], by omega⟩
end Go.Proofs.YtppkgilpmmhpoaaDoor
