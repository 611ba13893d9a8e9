/-
  Rows of numbers in a block of their own; appends in a region that draws.
-/
import Derived.Test.YtppkgilpmmhpoaaDoorBaseC
namespace Go.Proofs.YtppkgilpmmhpoaaDoor
open Go.RowKit
section
variable {md : Region.Mode} {ops : Array Oper} {Q : Exit → Act → World → Prop} {S : World → Prop} {fuel : Nat} {listed : Array Bool} {a : Act} {w : World} {i : Nat} {o : Oper} {rs : List Nat}
theorem node_app1 (d B : Nat) (ks kx : Nat) (v : Value) (xs : List Value) (sb : Nat) (z : Int)
    (hi : ops[i]? = some o) (hgd : o.guard = none) (ho : o.op = .call { callee := .builtin .append, args := #[.tmp ks, .tmp kx], argTypes := #[22, 22] }) (hd : o.dst = some d)
    (hs' : a.tmps[ks]?.getD undef = v) (hx : a.tmps[kx]?.getD undef = .slice (some ⟨sb, 0, none⟩) 1 1) (hsrc : w.heap[sb]? = some (.cells #[.int .i64 z] 3))
    (hown : OwnV w B 3 v xs) (hB : B ≤ w.heap.size) (hlen : xs.length ≤ 1000000)
    (h : ∀ v' w', OwnV w' B 3 v' (xs ++ [.int .i64 z]) → AppTo w v w' v' → S w' ∧ wpAnyH Tryd.prog md ops Q S fuel (listed.setIfInBounds i true) (a.put (some d) v') w')
    (hs : AllReadyH Tryd.prog md ops Q S fuel listed a w rs) : AllReadyH Tryd.prog md ops Q S fuel listed a w (i :: rs) := by
  refine AllReadyH.cons hi (fun K hK => ?_) hs
  have hw : Region.wanted o (yielded ops a.tmps) = true := by simp [Region.wanted, hgd]
  rw [if_pos hw]
  have hinf := info3
  cases hi0 : Tryd.prog.info? 3 with
  | none => rw [hi0] at hinf; cases hinf
  | some inf =>
    rw [hi0] at hinf
    simp only [Option.map_some, Option.some.injEq, Prod.mk.injEq] at hinf
    obtain ⟨e1, e2, e3⟩ := hinf
    have a1 : a.eval (.tmp ks) = v := by simpa [Act.eval] using hs'
    have a2 : a.eval (.tmp kx) = .slice (some ⟨sb, 0, none⟩) 1 1 := by simpa [Act.eval] using hx
    have hc : ∀ (j : Nat) (u : Value), [Value.int .i64 z][j]? = some u → w.cell? ((⟨sb, 0, none⟩ : Addr).add j) = some u := fun j u hu => by
      cases j with
      | zero =>
        simp at hu
        rw [← hu]
        exact box1 hsrc
      | succ j => simp at hu
    obtain ⟨v', w', hr, h2, h3, h4⟩ := run_app (P := Tryd.prog) w B 22 o.type 3 inf (.int .i64 0) 1 8 Tryd.underlying22 hi0 e1 e2 e3 rfl (by decide) v xs.length xs hown ⟨sb, 0, none⟩ 1 1 [.int .i64 z] (by decide) rfl hc (fun u hu => by simp at hu; rw [hu]; rfl) (by unfold maxLen; omega) (by omega) hB
    unfold Oper.wp execOp
    simp only [ho, resolve, invoke, builtin, Sem.run_bind, Sem.run_pure, Result.andThen_ok, List.map_toArray, List.map_cons, List.map_nil, a1, a2, hr]
    have h5 := h v' w' (by unfold OwnV; rw [List.length_append]; exact h2) ⟨h3, h4⟩
    show K (a.put o.dst v') w'
    rw [hd]
    exact hK.out _ _ h5.1 (fun _ => h5.2)
theorem node_ld22 (d k : Nat) (ad : Addr) (b : Option Addr) (m c : Nat) (hi : ops[i]? = some o) (hgd : o.guard = none) (ho : o.op = .load 22 (.tmp k)) (hd : o.dst = some d)
    (hp : a.tmps[k]?.getD undef = .pointer (some ad)) (hc : w.cell? ad = some (.slice b m c)) (hS : S w)
    (h : wpAnyH Tryd.prog md ops Q S fuel (listed.setIfInBounds i true) (a.put (some d) (.slice b m c)) w)
    (hs : AllReadyH Tryd.prog md ops Q S fuel listed a w rs) : AllReadyH Tryd.prog md ops Q S fuel listed a w (i :: rs) := by
  refine AllReadyH.cons hi (fun K hK => ?_) hs
  have hw : Region.wanted o (yielded ops a.tmps) = true := by simp [Region.wanted, hgd]
  rw [if_pos hw]
  have hk := hK.out _ _ hS (fun _ => h)
  unfold Oper.wp execOp
  simp [ho, go_sem, hp, hc]
  rw [hd]
  exact hk
theorem node_st22 (k j : Nat) (ad : Addr) (x : Value) (b : Option Addr) (m c : Nat) (hi : ops[i]? = some o) (hgd : o.guard = none) (ho : o.op = .store 22 (.tmp k) (.tmp j)) (hd : o.dst = none)
    (hp : a.tmps[k]?.getD undef = .pointer (some ad)) (hv : a.tmps[j]?.getD undef = .slice b m c) (hc : w.cell? ad = some x) (hf : w.frozen? ad = false)
    (hS : S (w.setCell ad (.slice b m c)))
    (h : wpAnyH Tryd.prog md ops Q S fuel (listed.setIfInBounds i true) a (w.setCell ad (.slice b m c)))
    (hs : AllReadyH Tryd.prog md ops Q S fuel listed a w rs) : AllReadyH Tryd.prog md ops Q S fuel listed a w (i :: rs) := by
  refine AllReadyH.cons hi (fun K hK => ?_) hs
  have hw : Region.wanted o (yielded ops a.tmps) = true := by simp [Region.wanted, hgd]
  rw [if_pos hw]
  have hk := hK.out _ _ hS (fun _ => h)
  unfold Oper.wp execOp
  simp [ho, go_sem, hp, hv, hc, hf]
  rw [hd]
  exact hk
end
theorem make_rows (n : Nat) (hn : n ≤ 10) : ∃ cs : Array Value, cs.toList = List.replicate n (.slice none 0 0) ∧ ∀ w : World, (Instr.makeSlice 33 (.int .i64 (n : Int)) (.int .i64 (n : Int))).run Tryd.prog w = .ok (.slice (some ⟨w.heap.size, 0, none⟩) n n) (w.alloc (.cells cs 22)) := by
  cases hi0 : Tryd.prog.info? 22 with
  | none => have := info22; rw [hi0] at this; cases this
  | some i =>
    have h := info22
    rw [hi0] at h
    simp only [Option.map_some, Option.some.injEq, Prod.mk.injEq] at h
    obtain ⟨h1, h2, h3⟩ := h
    refine ⟨madeCells (Value.slice none 0 0).cells (n * 1), ?_, fun w => ?_⟩
    · rw [Nat.mul_one]
      exact made1 (.slice none 0 0) n
    · have := run_make (P := Tryd.prog) (w := w) 33 22 i (.slice none 0 0) Tryd.underlying33 hi0 h1 .i64 .i64 (n : Int) (n : Int) (by omega) (by omega) (by rw [h3]; omega) (by omega)
      rw [this, h2]
      simp
/-- rows of numbers in a block of their own, at pb; w0 is the world at the start -/
structure Rws (w0 W : World) (n pb : Nat) (us : List Value) (P : Nat → List Nat) : Prop where
  blo : Below w0.heap.size w0 W
  len : us.length = n
  tab : OwnV W w0.heap.size 22 (.slice (some ⟨pb, 0, none⟩) n n) us
  row : ∀ x, x < n → OwnV W w0.heap.size 3 (us.getD x undef) ((P x).map iv)
  dis : ∀ x y, x < n → y < n → x ≠ y → ∀ k, (us.getD x undef).ownBlock = some k → (us.getD y undef).ownBlock ≠ some k
theorem Rws.below {w0 W W' : World} {n pb : Nat} {us : List Value} {P : Nat → List Nat} (h : Rws w0 W n pb us P) (hb : Below W.heap.size W W') : Rws w0 W' n pb us P :=
  ⟨below_step h.blo hb, h.len, ownV_below h.tab hb, fun x hx => ownV_below (h.row x hx) hb, h.dis⟩
theorem Rws.at {w0 W : World} {n pb : Nat} {us : List Value} {P : Nat → List Nat} (h : Rws w0 W n pb us P) {x : Nat} (hx : x < n) : W.cell? ⟨pb, x, none⟩ = some (us.getD x undef) := ownV_cell h.tab x (by rw [h.len]; exact hx)
theorem getD_set {us : List Value} {x y : Nat} {v : Value} (hx : x < us.length) : (us.set x v).getD y undef = if y = x then v else us.getD y undef := by
  rw [List.getD_eq_getElem?_getD, List.getD_eq_getElem?_getD, List.getElem?_set]
  by_cases h : x = y
  · subst h
    simp [hx]
  · rw [if_neg h, if_neg (fun e => h e.symm)]
theorem Rws.step {w0 W W' : World} {n pb x i : Nat} {us : List Value} {P : Nat → List Nat} {v' : Value} (h : Rws w0 W n pb us P) (hx : x < n)
    (ho : OwnV W' w0.heap.size 3 v' ((P x).map iv ++ [iv i])) (ha : AppTo W (us.getD x undef) W' v') :
    (W'.cell? ⟨pb, x, none⟩ = some (us.getD x undef) ∧ W'.frozen? ⟨pb, x, none⟩ = false) ∧ Rws w0 (W'.setCell ⟨pb, x, none⟩ v') n pb (us.set x v') (fun y => if y = x then P x ++ [i] else P y) := by
  have hrx := h.row x hx
  have htab : OwnV W' w0.heap.size 22 (.slice (some ⟨pb, 0, none⟩) n n) us := row_other (e' := 3) h.tab ha.grown (fun k hk => row_type hrx k hk) (by decide)
  have hs := ownV_set htab x v'
  have hb1 : Below w0.heap.size w0 W' := h.blo.trans (below_app ha h.blo.size (fun k hk => (ownV_lt hrx k hk).1))
  have hpb := ownV_le htab
  have hlx : x < us.length := by rw [h.len]; exact hx
  have kept : ∀ y, y < n → y ≠ x → OwnV W' w0.heap.size 3 (us.getD y undef) ((P y).map iv) := fun y hy hne => by
    refine ownV_kept (h.row y hy) ha.grown ?_
    cases hb : (us.getD y undef).ownBlock with
    | none => exact .inl rfl
    | some k => exact .inr fun e => h.dis y x hy hx hne k hb e.symm
  have put : ∀ {q : Value} {ys : List Value}, OwnV W' w0.heap.size 3 q ys → OwnV (W'.setCell ⟨pb, x, none⟩ v') w0.heap.size 3 q ys := fun hq => row_other (e' := 22) hq hs.2 (fun k hk => by cases hk; exact row_type htab _ rfl) (by decide)
  have hfresh : ∀ y, y < n → y ≠ x → ∀ k, v'.ownBlock = some k → (us.getD y undef).ownBlock ≠ some k := fun y hy hne k hk e => by
    rcases ha.block with h1 | h1
    · rw [h1] at hk
      exact h.dis x y hx hy (fun e => hne e.symm) k hk e
    · rw [h1] at hk
      injection hk with hk
      have := (ownV_lt (h.row y hy) k e).2
      omega
  refine ⟨⟨ownV_cell htab x hlx, ownV_frozen htab x⟩, hb1.trans ((Below.refl _ _).grown hs.2 hb1.size (fun k hk => by cases hk; exact hpb.1)), by rw [List.length_set]; exact h.len, hs.1, fun y hy => ?_, fun y z hy hz hne k hk => ?_⟩
  · rw [getD_set hlx]
    by_cases e : y = x
    · rw [if_pos e, if_pos e, List.map_append]
      exact put ho
    · rw [if_neg e, if_neg e]
      exact put (kept y hy e)
  · rw [getD_set hlx] at hk ⊢
    by_cases e : y = x
    · rw [if_pos e] at hk
      rw [if_neg (fun e2 => hne (e.trans e2.symm))]
      exact hfresh z hz (fun e2 => hne (e.trans e2.symm)) k hk
    · rw [if_neg e] at hk
      by_cases e2 : z = x
      · rw [if_pos e2]
        exact fun e3 => hfresh y hy e k e3 hk
      · rw [if_neg e2]
        exact h.dis y z hy hz hne k hk
/-- the positions of a letter among the first i -/
def plc (n r i x : Nat) : List Nat := (List.range i).filter fun j => (j + r) % n == x
theorem plc_step (n r i x : Nat) : plc n r (i + 1) x = if x = (i + r) % n then plc n r i x ++ [i] else plc n r i x := by
  unfold plc
  rw [List.range_succ, List.filter_append]
  by_cases h : x = (i + r) % n
  · rw [if_pos h, List.filter_cons_of_pos (by rw [h]; simp)]; rfl
  · rw [if_neg h, List.filter_cons_of_neg (by simp; exact fun e => h e.symm)]; simp
theorem plc_two : ∀ n < 11, ∀ r < 10, r < n → ∀ i < 20, i < 2 * n → (plc n r i ((i + r) % n)).length < 2 := by decide +kernel
theorem plc_end : ∀ n < 11, ∀ x < n, plc n 0 (2 * n) x = [x, n + x] := by decide +kernel
theorem rws_start {w0 W : World} {n pb r : Nat} {cs : Array Value} (hh : W.heap[pb]? = some (.cells cs 22)) (hc : cs.toList = List.replicate n (.slice none 0 0)) (hB : w0.heap.size ≤ pb) (hb : Below w0.heap.size w0 W) (hn : n ≤ 10) : Rws w0 W n pb (List.replicate n (.slice none 0 0)) (plc n r 0) := by
  have hsz : cs.size = n := by rw [← Array.length_toList, hc, List.length_replicate]
  have hg : ∀ x, x < n → (List.replicate n (Value.slice none 0 0)).getD x undef = .slice none 0 0 := fun x hx => by
    rw [List.getD_eq_getElem?_getD, List.getElem?_replicate_of_lt hx]; rfl
  refine ⟨hb, by simp, ?_, fun x hx => ?_, fun x y hx hy hne k hk => ?_⟩
  · refine ⟨by simp, .inr ⟨pb, n, cs, by simp, hB, hh, by simp, by unfold maxLen; omega, by simp [hsz], ?_⟩⟩
    rw [Nat.mul_one, List.length_replicate, List.take_of_length_le (by rw [Array.length_toList, hsz]; omega), hc]
  · rw [hg x hx]; exact ownV_nil _ _ _
  · rw [hg x hx] at hk; cases hk
end Go.Proofs.YtppkgilpmmhpoaaDoor
