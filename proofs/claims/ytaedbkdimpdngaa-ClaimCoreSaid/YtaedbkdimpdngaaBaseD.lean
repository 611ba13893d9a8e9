/-
  Odd: what its inner function finds in memory, and what it hands back.
-/
import Derived.Test.YtaedbkdimpdngaaWalkK
import Derived.Laws.EntriesVeiled
namespace Go.Proofs.Ytaedbkdimpdngaa
open Go.RowKit
section
variable {md : Region.Mode} {ops : Array Oper} {Q : Exit → Act → World → Prop} {S : World → Prop} {fuel : Nat} {listed : Array Bool} {a : Act} {w : World} {i : Nat} {o : Oper} {rs : List Nat}
theorem node_dyn3 (d kf k1 k2 k3 g : Nat) (lb : Array Value) (v1 v2 v3 : Value) (eg : ∀ args w, (callFunc g args).run Try.prog w = .ok (.enter g args) w) (hi : ops[i]? = some o) (hgd : Region.wanted o (yielded ops a.tmps) = true) (ho : o.op = .call { callee := .value (.tmp kf), args := #[.tmp k1, .tmp k2, .tmp k3], argTypes := #[24, 75, 3] }) (hd : o.dst = some d)
    (hpf : a.tmps[kf]?.getD undef = .func (.func g) #[] lb) (hp1 : a.tmps[k1]?.getD undef = v1) (hp2 : a.tmps[k2]?.getD undef = v2) (hp3 : a.tmps[k3]?.getD undef = v3)
    (h : Calls Try.prog g (#[v1, v2, v3] ++ lb) w fun e w' => ∃ u, e = .returned u ∧ S w' ∧ wpAnyH Try.prog md ops Q S fuel (listed.setIfInBounds i true) (a.put (some d) u) w')
    (hs : AllReadyH Try.prog md ops Q S fuel listed a w rs) : AllReadyH Try.prog md ops Q S fuel listed a w (i :: rs) := by
  refine AllReadyH.cons hi (fun K hK => ?_) hs
  rw [if_pos hgd]
  unfold Oper.wp execOp
  simp [ho, go_sem, hpf, hp1, hp2, hp3, eg]
  refine Calls.mono (P := Try.prog) (by simpa using h) ?_
  rintro e w' ⟨u, rfl, h1, h2⟩
  have hk := hK.out _ _ h1 (fun _ => h2)
  rw [hd]
  exact hk
theorem node_build24 (d k : Nat) (z : Int) (hi : ops[i]? = some o) (hgd : Region.wanted o (yielded ops a.tmps) = true) (ho : o.op = .buildSlice 24 1 #[(0, .tmp k)]) (hd : o.dst = some d)
    (hp : a.tmps[k]?.getD undef = .int .i64 z) (hS : S (w.alloc (.cells #[.int .i64 z] 3)))
    (h : S (w.alloc (.cells #[.int .i64 z] 3)) → wpAnyH Try.prog md ops Q S fuel (listed.setIfInBounds i true) (a.put (some d) (.slice (some ⟨w.heap.size, 0, none⟩) 1 1)) (w.alloc (.cells #[.int .i64 z] 3)))
    (hs : AllReadyH Try.prog md ops Q S fuel listed a w rs) : AllReadyH Try.prog md ops Q S fuel listed a w (i :: rs) := by
  refine AllReadyH.cons hi (fun K hK => ?_) hs
  rw [if_pos hgd]
  have hk := hK.out _ _ hS h
  unfold Oper.wp execOp
  simp [ho, go_sem, hp]
  rw [hd]
  exact hk
theorem node_app24 (d B : Nat) (ks kx : Nat) (v : Value) (xs : List Value) (gb : Nat) (z : Int)
    (hi : ops[i]? = some o) (hgd : Region.wanted o (yielded ops a.tmps) = true) (ho : o.op = .call { callee := .builtin .append, args := #[.tmp ks, .tmp kx], argTypes := #[24, 24] }) (hd : o.dst = some d)
    (hs' : a.tmps[ks]?.getD undef = v) (hx : a.tmps[kx]?.getD undef = .slice (some ⟨gb, 0, none⟩) 1 1) (hgb : w.heap[gb]? = some (.cells #[.int .i64 z] 3))
    (hown : OwnV w B 3 v xs) (hB : B ≤ w.heap.size) (hlen : xs.length + 1 ≤ 1000000)
    (h : ∀ v' w', OwnV w' B 3 v' (xs ++ [.int .i64 z]) → w.grownBy w' v.ownBlock → S w' ∧ wpAnyH Try.prog md ops Q S fuel (listed.setIfInBounds i true) (a.put (some d) v') w')
    (hs : AllReadyH Try.prog md ops Q S fuel listed a w rs) : AllReadyH Try.prog md ops Q S fuel listed a w (i :: rs) := by
  refine AllReadyH.cons hi (fun K hK => ?_) hs
  rw [if_pos hgd]
  have hinf := info3
  cases hi0 : Try.prog.info? 3 with
  | none => rw [hi0] at hinf; cases hinf
  | some inf =>
    rw [hi0] at hinf
    simp only [Option.map_some, Option.some.injEq, Prod.mk.injEq] at hinf
    obtain ⟨e1, e2, e3⟩ := hinf
    have a1 : a.eval (.tmp ks) = v := by simpa [Act.eval] using hs'
    have a2 : a.eval (.tmp kx) = .slice (some ⟨gb, 0, none⟩) 1 1 := by simpa [Act.eval] using hx
    refine wp_append_own w (.tmp ks) (.tmp kx) 24 ho B 3 inf (.int .i64 0) 1 8 Try.underlying24 hi0 e1 e2 e3 rfl (by decide) v xs.length xs a1 hown ⟨gb, 0, none⟩ 1 1 [.int .i64 z] a2 rfl ?_ (by simp [Value.oneCell']) (by unfold maxLen; omega) (by omega) hB ?_
    · intro j u hu
      have hadd : (⟨gb, 0, none⟩ : Addr).add j = ⟨gb, j, none⟩ := by unfold Addr.add; split <;> simp_all
      rw [hadd, World.cell?, hgb]
      simpa using hu
    · intro v' w' hv hgr _
      rw [hd]
      have h2 := h v' w' (by unfold OwnV; rw [List.length_append]; exact hv) hgr
      exact hK.out _ _ h2.1 (fun _ => h2.2)
theorem node_f55 (d : Nat) (k1 : Nat) (v1 : Value) (hi : ops[i]? = some o) (hgd : Region.wanted o (yielded ops a.tmps) = true) (ho : o.op = .call { callee := .value (.func 55), args := #[.tmp k1], argTypes := #[24] }) (hd : o.dst = some d)
    (hp1 : a.tmps[k1]?.getD undef = v1)
    (h : Calls Try.prog 55 #[v1] w fun e w' => ∃ u, e = .returned u ∧ S w' ∧ wpAnyH Try.prog md ops Q S fuel (listed.setIfInBounds i true) (a.put (some d) u) w')
    (hs : AllReadyH Try.prog md ops Q S fuel listed a w rs) : AllReadyH Try.prog md ops Q S fuel listed a w (i :: rs) := by
  refine AllReadyH.cons hi (fun K hK => ?_) hs
  rw [if_pos hgd]
  unfold Oper.wp execOp
  simp [ho, go_sem, hp1]
  refine h.mono ?_
  rintro e w' ⟨u, rfl, h1, h2⟩
  have hk := hK.out _ _ h1 (fun _ => h2)
  rw [hd]
  exact hk
end
theorem grown_trans {a b c : World} {row : Option Nat} (h : a.grownBy b row) (k : b.grownBy c row) : a.grownBy c row :=
  ⟨k.os.trans h.os, k.tape.trans h.tape, k.output.trans h.output, Nat.le_trans h.size k.size, fun j hj hn => (k.block j (Nat.lt_of_lt_of_le hj h.size) hn).trans (h.block j hj hn)⟩
theorem grown_of {a b : World} {row : Option Nat} (h : Below a.heap.size a b) : a.grownBy b row := ⟨h.os, h.tape, h.output, h.size, fun j hj _ => h.block j hj⟩
theorem grown_refl (a : World) (row : Option Nat) : a.grownBy a row := ⟨rfl, rfl, rfl, Nat.le_refl _, fun _ _ _ => rfl⟩
theorem eg54 : ∀ args w, (callFunc 54 args).run Try.prog w = .ok (.enter 54 args) w := enters_of Try.func54 (by kernel_rfl) rfl
/-- what Odd's inner function finds in memory -/
structure OddEnv (w : World) (OUT DB NB WK D : Nat) (d : Dsp) : Prop where
  out : ∃ a m c, w.heap[OUT]? = some (.cells #[.slice a m c] 24)
  db : w.heap[DB]? = some (.cells #[.pointer (some ⟨D, 0, none⟩)] 70)
  nb : w.heap[NB]? = some (.cells #[.int .i64 (d.n : Int)] 3)
  wk : w.heap[WK]? = some (.cells #[.func (.func 54) #[] #[.pointer (some ⟨OUT, 0, none⟩), .pointer (some ⟨DB, 0, none⟩), .pointer (some ⟨NB, 0, none⟩), .pointer (some ⟨WK, 0, none⟩)]] 80)
  dat : DAt w D d
section
variable {w w' : World} {OUT DB NB WK D : Nat} {d : Dsp}
theorem ne_of_type {w : World} {x y : Nat} {cs cs' : Array Value} {t t' : TypeId} (h : w.heap[x]? = some (.cells cs t)) (h' : w.heap[y]? = some (.cells cs' t')) (ht : t ≠ t') : x ≠ y := fun e => by
  subst e
  rw [h] at h'
  simp only [Option.some.injEq, Obj.cells.injEq] at h'
  exact ht h'.2.1
theorem OddEnv.below (h : OddEnv w OUT DB NB WK D d) (hb : Below w.heap.size w w') : OddEnv w' OUT DB NB WK D d := by
  obtain ⟨⟨a, m, c, h1⟩, h2, h3, h4, h5⟩ := h
  exact ⟨⟨a, m, c, (hb.block _ (heap_lt h1)).trans h1⟩, (hb.block _ (heap_lt h2)).trans h2, (hb.block _ (heap_lt h3)).trans h3, (hb.block _ (heap_lt h4)).trans h4, dAt_below h5 hb⟩
def OddFacts (w' : World) (DB NB WK OUT D b1 b2 c1 c2 : Nat) (d : Dsp) : Prop :=
  w'.cell? ⟨DB, 0, none⟩ = some (.pointer (some ⟨D, 0, none⟩)) ∧ w'.cell? ⟨NB, 0, none⟩ = some (.int .i64 (d.n : Int)) ∧ w'.cell? ⟨WK, 0, none⟩ = some (.func (.func 54) #[] #[.pointer (some ⟨OUT, 0, none⟩), .pointer (some ⟨DB, 0, none⟩), .pointer (some ⟨NB, 0, none⟩), .pointer (some ⟨WK, 0, none⟩)]) ∧
    (w'.cell? ⟨D, 0, none⟩ = some (.int .i64 (d.n : Int)) ∧ w'.cell? ⟨D, 1, none⟩ = some (.slice (some ⟨b1, 0, none⟩) d.n c1) ∧ w'.cell? ⟨D, 2, none⟩ = some (.slice (some ⟨b2, 0, none⟩) d.n c2)) ∧
    (∀ i, i < d.n → w'.cell? ⟨b1, i, none⟩ = some (.int .u16 (((byL d).getD i 0 : Nat) : Int)))
theorem row_ne {a m c : Value} {b x i : Nat} {z : Int} {s1 : Option Addr} {s2 s3 : Nat} (h : w.heap[x]? = some (.cells #[.slice s1 s2 s3] 24)) (hc : w.cell? ⟨b, i, none⟩ = some (.int .u16 z)) : b ≠ x := fun e => by
  subst e
  rw [World.cell?, h] at hc
  cases i with
  | zero => simp at hc
  | succ i => simp at hc
theorem cell_same {w w' : World} {g i : Nat} (h : w'.heap[g]? = w.heap[g]?) : w'.cell? ⟨g, i, none⟩ = w.cell? ⟨g, i, none⟩ := by
  unfold World.cell?
  rw [h]
theorem isV_grown {v : Value} {xs : List Value} (h : IsV w v xs) (hg : w.grownBy w' (some OUT)) (hne : ∀ g, g = OUT → ∀ i, i < xs.length → w.cell? ⟨g, i, none⟩ ≠ some (xs.getD i undef)) : IsV w' v xs := by
  obtain ⟨a, c, rfl, hl, hc⟩ := h
  refine ⟨a, c, rfl, hl, fun i hi => ?_⟩
  obtain ⟨g, ha, hcell⟩ := hc i hi
  have hne2 : g ≠ OUT := fun e => hne g e i hi hcell
  refine ⟨g, ha, ?_⟩
  have hlt := World.block_lt_of_cell? w _ hcell
  exact (cell_same (hg.block g hlt (fun e => hne2 (by injection e)))).trans hcell
theorem OddEnv.grown (h : OddEnv w OUT DB NB WK D d) (hg : w.grownBy w' (some OUT)) (ho : ∃ a m c, w'.heap[OUT]? = some (.cells #[.slice a m c] 24)) : OddEnv w' OUT DB NB WK D d := by
  obtain ⟨⟨a, m, c, h1⟩, h2, h3, h4, b1, b2, c1, c2, h5, h6, h7⟩ := h
  have kp : ∀ {x : Nat} {cs : Array Value} {t : TypeId}, w.heap[x]? = some (.cells cs t) → t ≠ 24 → w'.heap[x]? = some (.cells cs t) := fun hx ht => by
    have hne := ne_of_type hx h1 ht
    rw [hg.block _ (heap_lt hx) (fun e => hne (by injection e))]; exact hx
  refine ⟨ho, kp h2 (by decide), kp h3 (by decide), kp h4 (by decide), b1, b2, c1, c2, kp h5 (by decide), isV_grown h6 hg ?_, isV_grown h7 hg ?_⟩
  all_goals
    intro g e i hi hc
    rw [List.length_map] at hi
    subst e
  · rw [getD_map sv _ 0 i hi] at hc
    exact row_ne (a := undef) (m := undef) (c := undef) h1 hc rfl
  · rw [getD_map sv _ 0 i hi] at hc
    exact row_ne (a := undef) (m := undef) (c := undef) h1 hc rfl
theorem OddEnv.facts (h : OddEnv w OUT DB NB WK D d) : ∃ b1 b2 c1 c2, ∀ w', w.grownBy w' (some OUT) → OddFacts w' DB NB WK OUT D b1 b2 c1 c2 d := by
  obtain ⟨⟨a, m, c, h1⟩, h2, h3, h4, b1, b2, c1, c2, h5, h6, h7⟩ := h
  refine ⟨b1, b2, c1, c2, fun w' hg => ?_⟩
  have kp : ∀ {x : Nat} {cs : Array Value} {t : TypeId}, w.heap[x]? = some (.cells cs t) → t ≠ 24 → w'.heap[x]? = some (.cells cs t) := fun hx ht => by
    have hne := ne_of_type hx h1 ht
    rw [hg.block _ (heap_lt hx) (fun e => hne (by injection e))]; exact hx
  refine ⟨box1 (kp h2 (by decide)), box1 (kp h3 (by decide)), box1 (kp h4 (by decide)), cells3_of (kp h5 (by decide)), fun i hi => ?_⟩
  obtain ⟨g, hg2, _, hc⟩ := isV_at h6 i (by rw [List.length_map, byL_len]; exact hi)
  cases hg2
  rw [getD_map sv _ 0 i (by rw [byL_len]; exact hi)] at hc
  have hne := row_ne (a := undef) (m := undef) (c := undef) h1 hc
  have hlt := World.block_lt_of_cell? w _ hc
  exact (cell_same (hg.block _ hlt (fun e => hne (by injection e)))).trans hc
end
theorem by_bit (d : Dsp) {a i : Nat} (ha : a < d.n) (hi : i < d.n) : ((byL d).getD a 0).testBit i = d.att a i := by
  rw [byL_at d a ha, mask_bit, decide_eq_true hi]; rfl
theorem lastN_mem : ∀ (l : List Nat) (h : Nat), lastN h l ∈ h :: l
  | [], h => by simp [lastN]
  | a :: l, h => by
    have := lastN_mem l a
    exact List.mem_cons_of_mem _ this
theorem lastN_at : ∀ (l : List Nat) (h : Nat), (h :: l).getD l.length 0 = lastN h l
  | [], _ => rfl
  | a :: l, _ => lastN_at l a
/-- what Odd's inner function hands back -/
def OddPost (w : World) (OUT DB NB WK D : Nat) (d : Dsp) (res : Option (List Nat)) (e : Ending) (w' : World) : Prop :=
  OddEnv w' OUT DB NB WK D d ∧ w.grownBy w' (some OUT) ∧ e = .returned (.bool res.isSome) ∧ ∀ x, res = some x → ∃ o, w'.heap[OUT]? = some (.cells #[o] 24) ∧ IsV w' o (x.map iv)
end Go.Proofs.Ytaedbkdimpdngaa
