/-
  Nodes of regions by hand; a dispute as the program keeps it.
-/
import Derived.Test.YtaedbkdimpdngaaBaseB
namespace Go.Proofs.Ytaedbkdimpdngaa
open Go.RowKit
section
variable {md : Region.Mode} {ops : Array Oper} {Q : Exit → Act → World → Prop} {S : World → Prop} {fuel : Nat} {listed : Array Bool} {a : Act} {w : World} {i : Nat} {o : Oper} {rs : List Nat}
theorem node_f52 (d : Nat) (k1 : Nat) (v1 : Value) (hi : ops[i]? = some o) (hgd : Region.wanted o (yielded ops a.tmps) = true) (ho : o.op = .call { callee := .value (.func 52), args := #[.tmp k1], argTypes := #[3] }) (hd : o.dst = some d)
    (hp1 : a.tmps[k1]?.getD undef = v1)
    (h : Calls Try.prog 52 #[v1] w fun e w' => ∃ u, e = .returned u ∧ S w' ∧ wpAnyH Try.prog md ops Q S fuel (listed.setIfInBounds i true) (a.put (some d) u) w')
    (hs : AllReadyH Try.prog md ops Q S fuel listed a w rs) : AllReadyH Try.prog md ops Q S fuel listed a w (i :: rs) := by
  refine AllReadyH.cons hi (fun K hK => ?_) hs
  rw [if_pos hgd]
  unfold Oper.wp execOp
  simp [ho, go_sem, hp1]
  refine h.mono ?_
  rintro e w' ⟨u, rfl, h1, h2⟩
  have hk := hK.out _ _ h1 (fun _ => h2)
  rw [hd]
  exact hk
theorem node_load75 (d k : Nat) (ad : Addr) (v : Value) (hi : ops[i]? = some o) (hgd : o.guard = none) (ho : o.op = .load 75 (.tmp k)) (hd : o.dst = some d)
    (hp : a.tmps[k]?.getD undef = .pointer (some ad)) (hc : w.cell? ad = some v) (hS : S w)
    (h : wpAnyH Try.prog md ops Q S fuel (listed.setIfInBounds i true) (a.put (some d) v) w)
    (hs : AllReadyH Try.prog md ops Q S fuel listed a w rs) : AllReadyH Try.prog md ops Q S fuel listed a w (i :: rs) := by
  refine AllReadyH.cons hi (fun K hK => ?_) hs
  have hw : Region.wanted o (yielded ops a.tmps) = true := by simp [Region.wanted, hgd]
  rw [if_pos hw]
  have hk := hK.out _ _ hS (fun _ => h)
  unfold Oper.wp execOp
  simp [ho, go_sem, hp, hc]
  rw [hd]
  exact hk
theorem node_load3 (d k : Nat) (ad : Addr) (v : Value) (hi : ops[i]? = some o) (hgd : o.guard = none) (ho : o.op = .load 3 (.tmp k)) (hd : o.dst = some d)
    (hp : a.tmps[k]?.getD undef = .pointer (some ad)) (hc : w.cell? ad = some v) (hS : S w)
    (h : wpAnyH Try.prog md ops Q S fuel (listed.setIfInBounds i true) (a.put (some d) v) w)
    (hs : AllReadyH Try.prog md ops Q S fuel listed a w rs) : AllReadyH Try.prog md ops Q S fuel listed a w (i :: rs) := by
  refine AllReadyH.cons hi (fun K hK => ?_) hs
  have hw : Region.wanted o (yielded ops a.tmps) = true := by simp [Region.wanted, hgd]
  rw [if_pos hw]
  have hk := hK.out _ _ hS (fun _ => h)
  unfold Oper.wp execOp
  simp [ho, go_sem, hp, hc]
  rw [hd]
  exact hk
theorem node_store75 (k j g off : Nat) (x : Value) (z : Int) (hi : ops[i]? = some o) (hgd : o.guard = none) (ho : o.op = .store 75 (.tmp k) (.tmp j)) (hd : o.dst = none)
    (hp : a.tmps[k]?.getD undef = .pointer (some ⟨g, off, none⟩)) (hv : a.tmps[j]?.getD undef = .int .u16 z)
    (hc : w.cell? ⟨g, off, none⟩ = some x) (hf : w.frozen? ⟨g, off, none⟩ = false) (hS : S (w.setCell ⟨g, off, none⟩ (.int .u16 z)))
    (h : wpAnyH Try.prog md ops Q S fuel (listed.setIfInBounds i true) a (w.setCell ⟨g, off, none⟩ (.int .u16 z)))
    (hs : AllReadyH Try.prog md ops Q S fuel listed a w rs) : AllReadyH Try.prog md ops Q S fuel listed a w (i :: rs) := by
  refine AllReadyH.cons hi (fun K hK => ?_) hs
  have hw : Region.wanted o (yielded ops a.tmps) = true := by simp [Region.wanted, hgd]
  rw [if_pos hw]
  have hk := hK.out _ _ hS (fun _ => h)
  unfold Oper.wp execOp
  simp [ho, go_sem, hp, hv, hc, hf]
  rw [hd]
  exact hk
theorem node_store3 (k j g off : Nat) (x : Value) (z : Int) (hi : ops[i]? = some o) (hgd : o.guard = none) (ho : o.op = .store 3 (.tmp k) (.tmp j)) (hd : o.dst = none)
    (hp : a.tmps[k]?.getD undef = .pointer (some ⟨g, off, none⟩)) (hv : a.tmps[j]?.getD undef = .int .i64 z)
    (hc : w.cell? ⟨g, off, none⟩ = some x) (hf : w.frozen? ⟨g, off, none⟩ = false) (hS : S (w.setCell ⟨g, off, none⟩ (.int .i64 z)))
    (h : wpAnyH Try.prog md ops Q S fuel (listed.setIfInBounds i true) a (w.setCell ⟨g, off, none⟩ (.int .i64 z)))
    (hs : AllReadyH Try.prog md ops Q S fuel listed a w rs) : AllReadyH Try.prog md ops Q S fuel listed a w (i :: rs) := by
  refine AllReadyH.cons hi (fun K hK => ?_) hs
  have hw : Region.wanted o (yielded ops a.tmps) = true := by simp [Region.wanted, hgd]
  rw [if_pos hw]
  have hk := hK.out _ _ hS (fun _ => h)
  unfold Oper.wp execOp
  simp [ho, go_sem, hp, hv, hc, hf]
  rw [hd]
  exact hk
theorem node_make73 (d k n : Nat) (cs : Array Value) (hi : ops[i]? = some o) (hgd : o.guard = none) (ho : o.op = .makeSlice 73 (.tmp k) (.tmp k)) (hd : o.dst = some d)
    (hp : a.tmps[k]?.getD undef = .int .i64 (n : Int)) (hmk : ∀ w, (Instr.makeSlice 73 (.int .i64 (n : Int)) (.int .i64 (n : Int))).run Try.prog w = .ok (.slice (some ⟨w.heap.size, 0, none⟩) n n) (w.alloc (.cells cs 75)))
    (hS : S (w.alloc (.cells cs 75)))
    (h : S (w.alloc (.cells cs 75)) → wpAnyH Try.prog md ops Q S fuel (listed.setIfInBounds i true) (a.put (some d) (.slice (some ⟨w.heap.size, 0, none⟩) n n)) (w.alloc (.cells cs 75)))
    (hs : AllReadyH Try.prog md ops Q S fuel listed a w rs) : AllReadyH Try.prog md ops Q S fuel listed a w (i :: rs) := by
  refine AllReadyH.cons hi (fun K hK => ?_) hs
  have hw : Region.wanted o (yielded ops a.tmps) = true := by simp [Region.wanted, hgd]
  rw [if_pos hw]
  have hk := hK.out _ _ hS h
  unfold Oper.wp execOp
  simp [ho, go_sem, hp, hmk]
  rw [hd]
  exact hk
theorem node_make24 (d k n : Nat) (cs : Array Value) (hi : ops[i]? = some o) (hgd : o.guard = none) (ho : o.op = .makeSlice 24 (.tmp k) (.tmp k)) (hd : o.dst = some d)
    (hp : a.tmps[k]?.getD undef = .int .i64 (n : Int)) (hmk : ∀ w, (Instr.makeSlice 24 (.int .i64 (n : Int)) (.int .i64 (n : Int))).run Try.prog w = .ok (.slice (some ⟨w.heap.size, 0, none⟩) n n) (w.alloc (.cells cs 3)))
    (hS : S (w.alloc (.cells cs 3)))
    (h : S (w.alloc (.cells cs 3)) → wpAnyH Try.prog md ops Q S fuel (listed.setIfInBounds i true) (a.put (some d) (.slice (some ⟨w.heap.size, 0, none⟩) n n)) (w.alloc (.cells cs 3)))
    (hs : AllReadyH Try.prog md ops Q S fuel listed a w rs) : AllReadyH Try.prog md ops Q S fuel listed a w (i :: rs) := by
  refine AllReadyH.cons hi (fun K hK => ?_) hs
  have hw : Region.wanted o (yielded ops a.tmps) = true := by simp [Region.wanted, hgd]
  rw [if_pos hw]
  have hk := hK.out _ _ hS h
  unfold Oper.wp execOp
  simp [ho, go_sem, hp, hmk]
  rw [hd]
  exact hk
end
/-- a dispute behind a pointer, as it is read -/
def DAt (w : World) (D : Nat) (d : Dsp) : Prop :=
  ∃ b1 b2 c1 c2, w.heap[D]? = some (.cells #[.int .i64 (d.n : Int), .slice (some ⟨b1, 0, none⟩) d.n c1, .slice (some ⟨b2, 0, none⟩) d.n c2] 82) ∧
    IsV w (.slice (some ⟨b1, 0, none⟩) d.n c1) ((byL d).map sv) ∧ IsV w (.slice (some ⟨b2, 0, none⟩) d.n c2) ((fromL d).map sv)
theorem dAt_below {w w' : World} {D : Nat} {d : Dsp} (h : DAt w D d) (hb : Below w.heap.size w w') : DAt w' D d := by
  obtain ⟨b1, b2, c1, c2, h1, h2, h3⟩ := h
  exact ⟨b1, b2, c1, c2, (hb.block D (heap_lt h1)).trans h1, isV_below h2 hb, isV_below h3 hb⟩
/-- .. as it is being made -/
structure Rds (w0 w : World) (D b1 b2 n : Nat) (d : Dsp) : Prop where
  box : w.heap[D]? = some (.cells #[.int .i64 (n : Int), .slice (some ⟨b1, 0, none⟩) n n, .slice (some ⟨b2, 0, none⟩) n n] 82)
  by_ : OwnV w w0.heap.size 75 (.slice (some ⟨b1, 0, none⟩) n n) ((byL d).map sv)
  fr : OwnV w w0.heap.size 75 (.slice (some ⟨b2, 0, none⟩) n n) ((fromL d).map sv)
  ne : b1 ≠ b2 ∧ D ≠ b1 ∧ D ≠ b2
  dn : d.n = n
  blo : Below w0.heap.size w0 w
section
variable {w0 w w' : World} {D b1 b2 n : Nat} {d : Dsp}
theorem Rds.below (h : Rds w0 w D b1 b2 n d) (hb : Below w.heap.size w w') : Rds w0 w' D b1 b2 n d :=
  ⟨(hb.block D (heap_lt h.box)).trans h.box, ownV_below h.by_ hb, ownV_below h.fr hb, h.ne, h.dn, below_step h.blo hb⟩
theorem Rds.dAt (h : Rds w0 w D b1 b2 n d) (hn : n ≤ 12) : DAt w D d := by
  have h1 := h.dn
  subst h1
  exact ⟨b1, b2, _, _, h.box, ownV_isV h.by_ (by rw [List.length_map, byL_len]; omega), ownV_isV h.fr (by rw [List.length_map, fromL_len]; omega)⟩
theorem ownV_cell {w : World} {B g m c : Nat} {e : TypeId} {xs : List Value} (h : OwnV w B e (.slice (some ⟨g, 0, none⟩) m c) xs) (i : Nat) (hi : i < xs.length) : w.cell? ⟨g, i, none⟩ = some (xs.getD i undef) := by
  obtain ⟨a', c', hv, _, _, hc⟩ := row_cells1 h
  obtain ⟨g', hg, hcell, _⟩ := hc i hi
  cases hv
  cases hg
  refine hcell.trans ?_
  rw [List.getD_eq_getElem?_getD, List.getElem?_eq_getElem hi]; rfl
theorem ownV_frozen {w : World} {B g m c : Nat} {e : TypeId} {xs : List Value} (h : OwnV w B e (.slice (some ⟨g, 0, none⟩) m c) xs) (j : Nat) : w.frozen? ⟨g, j, none⟩ = false := by
  obtain ⟨a', c', hv, _, _, _⟩ := row_cells1 h
  cases hv
  exact World.ownsRow.frozenAt h j
theorem ownV_set {w : World} {B g m c : Nat} {e : TypeId} {xs : List Value} (h : OwnV w B e (.slice (some ⟨g, 0, none⟩) m c) xs) (j : Nat) (x : Value) :
    OwnV (w.setCell ⟨g, j, none⟩ x) B e (.slice (some ⟨g, 0, none⟩) m c) (xs.set j x) ∧ w.grownBy (w.setCell ⟨g, j, none⟩ x) (some g) := by
  obtain ⟨a', c', hv, _, _, _⟩ := row_cells1 h
  cases hv
  have h2 := World.ownsRow.stored h j x
  refine ⟨?_, h2.2⟩
  unfold OwnV
  rw [List.length_set]
  exact h2.1
theorem ownV_le {w : World} {B g m c : Nat} {e : TypeId} {xs : List Value} (h : OwnV w B e (.slice (some ⟨g, 0, none⟩) m c) xs) : B ≤ g ∧ g < w.heap.size := h.lt g rfl
theorem ownV_kept {w w' : World} {B : Nat} {e : TypeId} {v : Value} {xs : List Value} {row : Option Nat} (h : OwnV w B e v xs) (hg : w.grownBy w' row) (hne : v.ownBlock = none ∨ v.ownBlock ≠ row) : OwnV w' B e v xs := World.ownsRow.kept h hg hne
theorem Rds.by_at (h : Rds w0 w D b1 b2 n d) {A : Nat} (hA : A < n) : w.cell? ⟨b1, A, none⟩ = some (sv ((byL d).getD A 0)) ∧ w.frozen? ⟨b1, A, none⟩ = false := by
  have hl : A < (byL d).length := by rw [byL_len, h.dn]; exact hA
  have h2 := ownV_cell h.by_ A (by rw [List.length_map]; exact hl)
  rw [getD_map sv _ 0 A hl] at h2
  exact ⟨h2, ownV_frozen h.by_ A⟩
theorem Rds.fr_at (h : Rds w0 w D b1 b2 n d) {A : Nat} (hA : A < n) : w.cell? ⟨b2, A, none⟩ = some (sv ((fromL d).getD A 0)) ∧ w.frozen? ⟨b2, A, none⟩ = false := by
  have hl : A < (fromL d).length := by rw [fromL_len, h.dn]; exact hA
  have h2 := ownV_cell h.fr A (by rw [List.length_map]; exact hl)
  rw [getD_map sv _ 0 A hl] at h2
  exact ⟨h2, ownV_frozen h.fr A⟩
/-- between the two stores of a round: the first row tells one attack more -/
structure Rd2 (w0 w : World) (D b1 b2 n : Nat) (d e : Dsp) : Prop where
  box : w.heap[D]? = some (.cells #[.int .i64 (n : Int), .slice (some ⟨b1, 0, none⟩) n n, .slice (some ⟨b2, 0, none⟩) n n] 82)
  by_ : OwnV w w0.heap.size 75 (.slice (some ⟨b1, 0, none⟩) n n) ((byL e).map sv)
  fr : OwnV w w0.heap.size 75 (.slice (some ⟨b2, 0, none⟩) n n) ((fromL d).map sv)
  ne : b1 ≠ b2 ∧ D ≠ b1 ∧ D ≠ b2
  dn : d.n = n ∧ e.n = n
  blo : Below w0.heap.size w0 w
theorem Rd2.below {e : Dsp} (h : Rd2 w0 w D b1 b2 n d e) (hb : Below w.heap.size w w') : Rd2 w0 w' D b1 b2 n d e :=
  ⟨(hb.block D (heap_lt h.box)).trans h.box, ownV_below h.by_ hb, ownV_below h.fr hb, h.ne, h.dn, below_step h.blo hb⟩
theorem Rd2.fr_at {e : Dsp} (h : Rd2 w0 w D b1 b2 n d e) {A : Nat} (hA : A < n) : w.cell? ⟨b2, A, none⟩ = some (sv ((fromL d).getD A 0)) ∧ w.frozen? ⟨b2, A, none⟩ = false := by
  have hl : A < (fromL d).length := by rw [fromL_len, h.dn.1]; exact hA
  have h2 := ownV_cell h.fr A (by rw [List.length_map]; exact hl)
  rw [getD_map sv _ 0 A hl] at h2
  exact ⟨h2, ownV_frozen h.fr A⟩
theorem map_set {α : Type} (f : α → Value) (xs : List α) (i : Nat) (x : α) : (xs.set i x).map f = (xs.map f).set i (f x) := by rw [List.map_set]
theorem Rds.set1 {l : List Pr} (h : Rds w0 w D b1 b2 n (dsp n l)) {A B : Nat} (hA : A < n) (hB : B < n) :
    Rd2 w0 (w.setCell ⟨b1, A, none⟩ (sv ((byL (dsp n l)).getD A 0 ||| 2 ^ B))) D b1 b2 n (dsp n l) (dsp n (l ++ [((A : Int), (B : Int))])) := by
  obtain ⟨h1, h2⟩ := ownV_set h.by_ A (sv ((byL (dsp n l)).getD A 0 ||| 2 ^ B))
  rw [← map_set, ← byL_snoc n l A B hA hB] at h1
  refine ⟨?_, h1, ownV_kept h.fr h2 (.inr fun e => ?_), h.ne, ⟨rfl, rfl⟩, h.blo.setCell (p := ⟨b1, A, none⟩) (ownV_le h.by_).1 _⟩
  · rw [Below.heap_setCell _ _ _ _ h.ne.2.1]; exact h.box
  · simp [Value.ownBlock] at e
    exact h.ne.1 e.symm
theorem Rd2.set2 {l : List Pr} {A B : Nat} (h : Rd2 w0 w D b1 b2 n (dsp n l) (dsp n (l ++ [((A : Int), (B : Int))]))) (hA : A < n) (hB : B < n) :
    Rds w0 (w.setCell ⟨b2, B, none⟩ (sv ((fromL (dsp n l)).getD B 0 ||| 2 ^ A))) D b1 b2 n (dsp n (l ++ [((A : Int), (B : Int))])) := by
  obtain ⟨h1, h2⟩ := ownV_set h.fr B (sv ((fromL (dsp n l)).getD B 0 ||| 2 ^ A))
  rw [← map_set, ← fromL_snoc n l A B hA hB] at h1
  refine ⟨?_, ownV_kept h.by_ h2 (.inr fun e => ?_), h1, h.ne, rfl, h.blo.setCell (p := ⟨b2, B, none⟩) (ownV_le h.fr).1 _⟩
  · rw [Below.heap_setCell _ _ _ _ h.ne.2.2]; exact h.box
  · simp [Value.ownBlock] at e
    exact h.ne.1 e
end
theorem byL_lt (d : Dsp) (hn : d.n ≤ 12) (a : Nat) : (byL d).getD a 0 < 4096 := by
  by_cases h : a < d.n
  · rw [byL_at d a h]
    exact Nat.lt_of_lt_of_le (mask_lt _ _) (pow_small (n := 12) hn)
  · rw [List.getD_eq_getElem?_getD, List.getElem?_eq_none (by rw [byL_len]; omega)]; decide
theorem fromL_lt (d : Dsp) (hn : d.n ≤ 12) (a : Nat) : (fromL d).getD a 0 < 4096 := by
  by_cases h : a < d.n
  · rw [fromL_at d a h]
    exact Nat.lt_of_lt_of_le (mask_lt _ _) (pow_small (n := 12) hn)
  · rw [List.getD_eq_getElem?_getD, List.getElem?_eq_none (by rw [fromL_len]; omega)]; decide
theorem made1 (z : Value) (n : Nat) : (madeCells #[z] n).toList = List.replicate n z := by
  unfold madeCells
  refine List.ext_getElem (by simp) fun i h1 h2 => ?_
  simp [Nat.mod_one]
/-- n empty sets, newly made -/
theorem make_sets (n : Nat) (hn : n ≤ 12) : ∃ cs : Array Value, cs.toList = (List.replicate n 0).map sv ∧ ∀ w : World, (Instr.makeSlice 73 (.int .i64 (n : Int)) (.int .i64 (n : Int))).run Try.prog w = .ok (.slice (some ⟨w.heap.size, 0, none⟩) n n) (w.alloc (.cells cs 75)) := by
  cases hi0 : Try.prog.info? 75 with
  | none => have := info75; rw [hi0] at this; cases this
  | some i =>
    have h := info75
    rw [hi0] at h
    simp only [Option.map_some, Option.some.injEq, Prod.mk.injEq] at h
    obtain ⟨h1, h2, h3⟩ := h
    refine ⟨madeCells (Value.int .u16 0).cells (n * 1), ?_, fun w => ?_⟩
    · rw [Nat.mul_one, List.map_replicate]
      exact made1 (.int .u16 0) n
    · have := run_make (P := Try.prog) (w := w) 73 75 i (.int .u16 0) Try.underlying73 hi0 h1 .i64 .i64 (n : Int) (n : Int) (by omega) (by omega) (by rw [h3]; omega) (by omega)
      rw [this, h2]
      simp
end Go.Proofs.Ytaedbkdimpdngaa
