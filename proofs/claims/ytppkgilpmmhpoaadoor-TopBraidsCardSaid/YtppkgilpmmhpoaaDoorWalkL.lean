/-
  Drawn (4) of the braid with an even number of crossings.
-/
import Derived.Test.YtppkgilpmmhpoaaDoorWalkK
namespace Go.Proofs.YtppkgilpmmhpoaaDoor
open Go.RowKit
theorem eg13 : ∀ args w, (callFunc 13 args).run Tryd.prog w = .ok (.enter 13 args) w := enters_of Tryd.func13 (by kernel_rfl) rfl
/-- the set of the breadth-first search: the first m letters are marked -/
def SL (n m : Nat) : List Value := List.replicate m (.int .i64 0) ++ List.replicate (n - m) (.int .i64 (-1))
theorem sl_len {n m : Nat} : (SL n m).length = m + (n - m) := by simp [SL]
theorem sl_lo (n m j : Nat) (h : j < m) : (SL n m).getD j undef = .int .i64 0 := by
  rw [List.getD_eq_getElem?_getD]
  unfold SL
  rw [List.getElem?_append_left (by simpa using h), List.getElem?_replicate, if_pos h]; rfl
theorem sl_hi (n m j : Nat) (h : m ≤ j) (hj : j < n) : (SL n m).getD j undef = .int .i64 (-1) := by
  rw [List.getD_eq_getElem?_getD]
  unfold SL
  rw [List.getElem?_append_right (by simpa using h), List.getElem?_replicate, if_pos (by rw [List.length_replicate]; omega)]; rfl
theorem sl_set (n m : Nat) (h : m < n) : (SL n m).set m (.int .i64 0) = SL n (m + 1) := by
  unfold SL
  refine List.ext_getElem (by simp; omega) fun i h1 h2 => ?_
  rw [List.getElem_set]
  by_cases e : m = i
  · subst e; simp
  · rw [if_neg e, List.getElem_append, List.getElem_append]
    simp only [List.length_replicate]
    by_cases e1 : i < m
    · rw [dif_pos e1, dif_pos (by omega)]; simp
    · rw [dif_neg e1, dif_neg (by omega)]; simp
/-- what is still to be done, behind the first round -/
def TD (w : World) (n k : Nat) (v : Value) : Prop := ∃ a c, v = .slice a (n - k) c ∧ (k < n → ∃ tb, a = some ⟨tb, k, none⟩ ∧ n ≤ c + k ∧ ∀ j, j < n → w.cell? ⟨tb, j, none⟩ = some (iv j))
theorem td_below {w w' : World} {n k : Nat} {v : Value} (h : TD w n k v) (hb : Below w.heap.size w w') : TD w' n k v := by
  obtain ⟨a, c, rfl, h⟩ := h
  refine ⟨a, c, rfl, fun hk => ?_⟩
  obtain ⟨tb, e, hc, hj⟩ := h hk
  exact ⟨tb, e, hc, fun j hjn => (hb.cell (World.block_lt_of_cell? w _ (hj j hjn))).trans (hj j hjn)⟩
section
variable {md : Region.Mode} {ops : Array Oper} {Q : Exit → Act → World → Prop} {S : World → Prop} {fuel : Nat} {listed : Array Bool} {a : Act} {w : World} {i : Nat} {o : Oper} {rs : List Nat}
theorem node_both (d kf k1 k2 X D n wb wc pb : Nat) (gs cs : Nat → Nat) (x y : Nat) (hi : ops[i]? = some o) (hgd : Region.wanted o (yielded ops a.tmps) = true) (ho : o.op = .call { callee := .value (.tmp kf), args := #[.tmp k1, .tmp k2], argTypes := #[3, 3] }) (hd : o.dst = some d)
    (hpf : a.tmps[kf]?.getD undef = .func (.func 13) #[] #[.pointer (some ⟨X, 0, none⟩)]) (hp1 : a.tmps[k1]?.getD undef = .int .i64 (x : Int)) (hp2 : a.tmps[k2]?.getD undef = .int .i64 (y : Int))
    (hC : Cur w D n wb wc pb gs cs) (hX : w.cell? ⟨X, 0, none⟩ = some (.pointer (some ⟨D, 0, none⟩))) (hx : x < n) (hy : y < n)
    (h : ∀ w', Below w.heap.size w w' → S w' ∧ wpAnyH Tryd.prog md ops Q S fuel (listed.setIfInBounds i true) (a.put (some d) (.int .i64 ((bth x y n : Nat) : Int))) w')
    (hs : AllReadyH Tryd.prog md ops Q S fuel listed a w rs) : AllReadyH Tryd.prog md ops Q S fuel listed a w (i :: rs) := by
  refine AllReadyH.cons hi (fun K hK => ?_) hs
  rw [if_pos hgd]
  have hc : Calls Tryd.prog 13 (#[.int .i64 (x : Int), .int .i64 (y : Int)] ++ #[.pointer (some ⟨X, 0, none⟩)]) w fun e w' => e = .returned (.int .i64 ((bth x y n : Nat) : Int)) ∧ Below w.heap.size w w' := both_any X D n wb wc pb gs cs x y w hC hX hx hy
  unfold Oper.wp execOp
  simp [ho, go_sem, hpf, hp1, hp2, eg13]
  refine Calls.mono (P := Tryd.prog) (by simpa using hc) ?_
  rintro e w' ⟨rfl, hb⟩
  have h2 := h w' hb
  have hk := hK.out _ _ h2.1 (fun _ => h2.2)
  rw [hd]
  exact hk
end
theorem par_diag {n x : Nat} (hn : 1 ≤ n ∧ n ≤ 10) (hx : x < n) : bth x x n = n - 1 := by
  have h := bth_all n (by omega) x hx x hx
  rwa [if_pos rfl] at h
theorem par_off {n x y : Nat} (hn : 1 ≤ n ∧ n ≤ 10) (hx : x < n) (hy : y < n) (h : x ≠ y) : bth x y n = n - 2 := by
  have h2 := bth_all n (by omega) x hx y hy
  rwa [if_neg h] at h2
set_option maxRecDepth 100000 in
set_option maxHeartbeats 4000000 in
theorem drawn_even (n wb wc : Nat) (w : World) (hn : 1 ≤ n ∧ n ≤ 10) (hp : n % 2 = 0) (hw : Wrd w n 0 wb) :
    Calls Tryd.prog 4 #[.slice (some ⟨wb, 0, none⟩) (2 * n) wc] w fun e w' => e = .returned (.tuple #[.bool false, .int .i64 0]) ∧ Below w.heap.size w w' := by
  have RC := hid (read_cur n wb wc w hn hw)
  obtain ⟨hn1, hn10⟩ := hn
  have HDG := hid (par_diag (x := 0) ⟨hn1, hn10⟩ (by omega))
  clear hw
  generalize 2 * n = m at *
  go_enter Tryd.func4, Tryd.ntmps4
  go_upto_region 2 with (first | (go_at_call 12; refine RC.out.mono ?_; rintro e w1 ⟨D, pb, gs, cs, rfl, HC, hb1⟩; have HB1 := hid hb1; clear hb1) | fail)
  obtain ⟨X, hX⟩ : ∃ X, X = w1.heap.size := ⟨_, rfl⟩
  obtain ⟨w2, hw2⟩ : ∃ v, v = w1.alloc (.cells #[.pointer (some ⟨D, 0, none⟩)] 39) := ⟨_, rfl⟩
  rw [← hX, ← hw2]
  have HB12 : Hid (Below w1.heap.size w1 w2) := by rw [hw2]; exact ba _ _
  have HX : Hid (∀ w', Below w2.heap.size w2 w' → w'.cell? ⟨X, 0, none⟩ = some (.pointer (some ⟨D, 0, none⟩))) := by
    have h : w2.heap[X]? = some (.cells #[.pointer (some ⟨D, 0, none⟩)] 39) := by rw [hw2, hX]; exact heap_alloc_new _ _
    exact fun w' hb => box1 ((hb.block X (heap_lt h)).trans h)
  clear hw2 hX
  have KB : Hid (∀ w', Below w2.heap.size w2 w' → w'.cell? ⟨D, 0, none⟩ = some (.int .i64 (n : Int))) := fun w' hb => (cells3_of (HC.out.below (HB12.out.trans (hb.mono HB12.out.size))).box).1
  have k0 := KB.out w2 (Below.refl _ _)
  have q0 := HX.out w2 (Below.refl _ _)
  go_upto_region 6 with fail
  clear k0 q0
  go_loopw [28] (fun xv wr => xv = .int .i64 0 ∧ wr = w2) (fun xv _ => 0)
  case atStart => exact ⟨rfl, rfl⟩
  case round =>
    obtain ⟨rfl, rfl⟩ := hrel
    have BC := hid (both_any X D n wb wc pb gs cs 0 0 wr (HC.out.below HB12.out) (HX.out wr (Below.refl _ _)) (by omega) (by omega))
    rw [HDG.out] at BC
    have e1 : (0 : Int) ≤ (n : Int) - 1 := by omega
    have e2 : (((n - 1 : Nat) : Int)).tmod 2 = 1 := by rw [Int.tmod_eq_emod_of_nonneg (by omega)]; omega
    have h0n : (0 : Int) < (n : Int) := by omega
    go_wp2_with (first | (go_at_call 13; refine BC.out.mono ?_; rintro e w3 ⟨rfl, hb3⟩; have HB3 := hid hb3; clear hb3) | fail)
    go_ret2
    exact ⟨rfl, below_step (HB1.out.trans (HB12.out.mono HB1.out.size)) HB3.out⟩
end Go.Proofs.YtppkgilpmmhpoaaDoor
