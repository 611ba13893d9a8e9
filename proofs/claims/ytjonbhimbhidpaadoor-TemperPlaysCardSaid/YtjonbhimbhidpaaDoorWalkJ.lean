/-
  Walks over chapter 6: an oven and a cell are read.
-/
import Derived.Test.YtjonbhimbhidpaaDoorWalkI
namespace Go.Proofs.YtjonbhimbhidpaaDoor
open Go.RowKit

/-- what 'at' returns -/
def AtR (w : World) (vs vm vj : Value) (o : Ov) (c : Sp) (e : Ending) (w' : World) : Prop :=
  Below w.heap.size w w' ∧ if (o.valid && o.ex c) = true then ∃ x, e = .returned (.tuple #[.pointer (some ⟨x, 0, none⟩), spv c, .int .i64 0]) ∧ OvAt w' x vs vm vj o else e = .returned (.tuple #[.pointer none, spv (0, 0, 0), .int .i64 1])
theorem atR_no {w w' : World} {vs vm vj : Value} {o : Ov} {c : Sp} {e : Ending} (hv : (o.valid && o.ex c) = false) (he : e = .returned (.tuple #[.pointer none, spv (0, 0, 0), .int .i64 1])) (hb : Below w.heap.size w w') : AtR w vs vm vj o c e w' := ⟨hb, by rw [if_neg (by rw [hv]; decide)]; exact he⟩
theorem atR_yes {w w' : World} {vs vm vj : Value} {o : Ov} {c : Sp} {x : Nat} {e : Ending} (hv : (o.valid && o.ex c) = true) (he : e = .returned (.tuple #[.pointer (some ⟨x, 0, none⟩), spv c, .int .i64 0])) (hb : Below w.heap.size w w') (ho : OvAt w' x vs vm vj o) : AtR w vs vm vj o c e w' := ⟨hb, by rw [if_pos hv]; exact ⟨x, he, ho⟩⟩

theorem store3 {W : World} {g : Nat} {a b c x y z : Value} {t : TypeId} (h : W.heap[g]? = some (.cells #[a, b, c] t)) :
    (((W.setCell ⟨g, 0, none⟩ x).setCell ⟨g, 1, none⟩ y).setCell ⟨g, 2, none⟩ z).heap[g]? = some (.cells #[x, y, z] t) := by
  simp [World.setCell, Array.getElem?_modify, h]
theorem below_store3 {B g : Nat} {w W : World} {x y z : Value} (h : Below B w W) (hg : B ≤ g) : Below B w (((W.setCell ⟨g, 0, none⟩ x).setCell ⟨g, 1, none⟩ y).setCell ⟨g, 2, none⟩ z) :=
  ((h.setCell (p := ⟨g, 0, none⟩) hg _).setCell (p := ⟨g, 1, none⟩) hg _).setCell (p := ⟨g, 2, none⟩) hg _

theorem heap_store3 {W : World} {b g : Nat} (hne : b ≠ g) (n : Nat) (x y z : Value) : ((((W.drewN n).setCell ⟨g, 0, none⟩ x).setCell ⟨g, 1, none⟩ y).setCell ⟨g, 2, none⟩ z).heap[b]? = W.heap[b]? := by
  show ((((W.drewN n).setCell ⟨g, 0, none⟩ x).setCell ⟨g, 1, none⟩ y).setCell ⟨g, 2, none⟩ z).heap[b]? = _
  rw [Below.heap_setCell _ _ _ _ hne, Below.heap_setCell _ _ _ _ hne, Below.heap_setCell _ _ _ _ hne]
  rfl
theorem ovAt_store3 {w0 w : World} {b g : Nat} {vs vm vj : Value} {o : Ov} (h : OvAt w b vs vm vj o) (n : Nat) {a : Option Addr} {l c : Nat} (hs : vs = .slice a l c) {k : Int} (hq : w.cell? ⟨g, 0, none⟩ = some (.int .i64 k)) (x y z : Value) (h0 : IsOv w0 vs vm vj o)
    (hb : Below w0.heap.size w0 ((((w.drewN n).setCell ⟨g, 0, none⟩ x).setCell ⟨g, 1, none⟩ y).setCell ⟨g, 2, none⟩ z)) : OvAt ((((w.drewN n).setCell ⟨g, 0, none⟩ x).setCell ⟨g, 1, none⟩ y).setCell ⟨g, 2, none⟩ z) b vs vm vj o := by
  have hne : b ≠ g := by
    rintro rfl
    have := h.c0
    rw [hq, hs] at this
    cases this
  have e := heap_store3 (W := w) hne n x y z
  exact ⟨isOv_below h0 hb, (cell_of_heap e 0).trans h.c0, (cell_of_heap e 1).trans h.c1, (cell_of_heap e 2).trans h.c2, (cell_of_heap e 3).trans h.c3, (cell_of_heap e 4).trans h.c4⟩

set_option maxHeartbeats 10000000 in
set_option maxRecDepth 100000 in
theorem at_any (vs vm vj : Value) (o : Ov) (c : Sp) (w : World) (ho : IsOv w vs vm vj o) (hn : o.Num) :
    Calls Tryd.prog 44 #[.agg #[vs, vm, vj], spv c] w (AtR w vs vm vj o c) := by
  obtain ⟨p, x, y⟩ := c
  have HO := hid ho
  obtain ⟨⟨a1, c1, rfl, _, _⟩, ⟨a2, c2, rfl, _, _⟩, ⟨a3, c3, rfl, _, _⟩⟩ := ho
  obtain ⟨hb3, hz3, k0, k1, k2⟩ := alloc3 w (.cells #[.slice a1 o.safe.length c1, .slice a2 o.moves.length c2, .slice a3 o.jolts.length c3] 26) (.cells #[.int .i64 p, .int .i64 x, .int .i64 y] 28) (.cells #[.int .i64 0, .int .i64 0, .int .i64 0] 87)
  obtain ⟨W, hW⟩ : ∃ W, W = (((w.alloc (.cells #[.slice a1 o.safe.length c1, .slice a2 o.moves.length c2, .slice a3 o.jolts.length c3] 26)).alloc (.cells #[.int .i64 p, .int .i64 x, .int .i64 y] 28)).alloc (.cells #[.int .i64 0, .int .i64 0, .int .i64 0] 87)) := ⟨_, rfl⟩
  rw [← hW] at hb3 hz3 k0 k1 k2
  have cr := hid (read_any _ _ _ o W (isOv_below HO.out hb3) hn)
  obtain ⟨P, hP⟩ : ∃ P, P = o.P := ⟨_, rfl⟩
  obtain ⟨M, hM⟩ : ∃ M, M = o.moves.length := ⟨_, rfl⟩
  obtain ⟨J, hJ⟩ : ∃ J, J = o.jolts.length := ⟨_, rfl⟩
  obtain ⟨R, hR⟩ : ∃ R, R = o.R := ⟨_, rfl⟩
  obtain ⟨C, hC⟩ : ∃ C, C = o.C := ⟨_, rfl⟩
  have hPl : o.safe.length = P := hP.symm
  rw [hPl, ← hM, ← hJ] at cr hW k0
  rw [hPl, ← hM, ← hJ]
  have HP := hid hP
  have HM := hid hM
  have HJ := hid hJ
  have HR := hid hR
  have HC := hid hC
  have K1 := hid k1
  have K2 := hid k2
  have HZ := hid hz3
  have HB := hid hb3
  have HW := hid hW
  unfold spv
  simp only
  clear hn hb3 hz3 k0 k1 k2 hW hP hM hJ hR hC hPl
  cases hv : o.valid
  · have HV : Hid ((o.valid && o.ex (p, x, y)) = false) := by rw [hv]; exact rfl
    have cr2 : Hid (Calls Tryd.prog 51 #[.agg #[.slice a1 P c1, .slice a2 M c2, .slice a3 J c3]] W (fun e w' => e = .returned (.tuple #[.pointer none, .bool false]) ∧ Below W.heap.size W w')) := (cr.out).mono (by
      rintro e w4 ⟨hb4, h4⟩
      rw [hv, if_neg (by decide)] at h4
      exact ⟨h4, hb4⟩)
    clear hv cr
    go_enter Tryd.func44, Tryd.ntmps44
    go_wp2_with (first | (go_at_call 51; rw [← HW.out]; refine (cr2.out).mono ?_; rintro e w4 ⟨rfl, hb4⟩; have k4 := (hb4.block (w.heap.size + 2) (by have := HZ.out; omega)).trans K2.out; have K4 := hid k4; have HB4 := hid hb4; obtain ⟨f0, f1, f2⟩ := free3_of k4; obtain ⟨q0, q1, q2⟩ := cells3_of k4; clear k4 hb4) | fail)
    go_quiet (fail)
    go_wp2
    obtain ⟨s0, s1, s2⟩ := cells3_of (store3 (W := w4.drewN nq) (x := .int .i64 0) (y := .int .i64 0) (z := .int .i64 0) K4.out)
    refine bodyPost_ret (v := .tuple #[.pointer none, .agg #[.int .i64 0, .int .i64 0, .int .i64 0], .int .i64 1]) (by simp [results, Tryd.results44, go_sem, s0, s1, s2]) rfl (atR_no HV.out rfl (below_store3 (below_drewN_r (HB.out.trans (HB4.out.mono HB.out.size)) nq) (by omega)))
  · have HVT := hid hv
    have cr2 : Hid (Calls Tryd.prog 51 #[.agg #[.slice a1 P c1, .slice a2 M c2, .slice a3 J c3]] W (fun e w' => ∃ xb, e = .returned (.tuple #[.pointer (some ⟨xb, 0, none⟩), .bool true]) ∧ OvAt w' xb (.slice a1 P c1) (.slice a2 M c2) (.slice a3 J c3) o ∧ Below W.heap.size W w')) := (cr.out).mono (by
      rintro e w4 ⟨hb4, h4⟩
      rw [hv, if_pos rfl] at h4
      obtain ⟨xb, h5, h6⟩ := h4
      exact ⟨xb, h5, h6, hb4⟩)
    clear hv cr
    by_cases e0 : p < 0
    · have HV : Hid ((o.valid && o.ex (p, x, y)) = false) := by
        rw [Bool.and_eq_false_iff]; right; unfold Ov.ex; rw [← HP.out, ← HR.out, ← HC.out]; exact decide_eq_false (by simp only; omega)
      have D0 : Hid (decide (p < 0) = true) := decide_eq_true e0
      go_enter Tryd.func44, Tryd.ntmps44
      go_wp2_with (first | (go_at_call 51; rw [← HW.out]; refine (cr2.out).mono ?_; rintro e w4 ⟨xb, rfl, hov, hb4⟩; have k4 := (hb4.block (w.heap.size + 2) (by have := HZ.out; omega)).trans K2.out; have k3 := (hb4.block (w.heap.size + 1) (by have := HZ.out; omega)).trans K1.out; obtain ⟨f0, f1, f2⟩ := free3_of k4; obtain ⟨q0, q1, q2⟩ := cells3_of k4; obtain ⟨v0, v1, v2⟩ := cells3_of k3; have u0 := hov.c0; have u3 := hov.c3; have u4 := hov.c4; rw [← HR.out] at u3; rw [← HC.out] at u4; have hl0 := ovAt_lt hov; rw [show o.safe.length = P from HP.out.symm, show o.moves.length = M from HM.out.symm, show o.jolts.length = J from HJ.out.symm] at HO; have HF4 : Hid (∀ n, AtR w (.slice a1 P c1) (.slice a2 M c2) (.slice a3 J c3) o (p, x, y) (.returned (.tuple #[.pointer none, .agg #[.int .i64 0, .int .i64 0, .int .i64 0], .int .i64 1])) ((((w4.drewN n).setCell ⟨w.heap.size + 1 + 1, 0, none⟩ (.int .i64 0)).setCell ⟨w.heap.size + 1 + 1, 1, none⟩ (.int .i64 0)).setCell ⟨w.heap.size + 1 + 1, 2, none⟩ (.int .i64 0))) := (fun n => atR_no HV.out rfl (below_store3 (below_drewN_r (HB.out.trans (hb4.mono HB.out.size)) n) (by omega))); have K4 : Hid (∀ n, ((((w4.drewN n).setCell ⟨w.heap.size + 1 + 1, 0, none⟩ (.int .i64 0)).setCell ⟨w.heap.size + 1 + 1, 1, none⟩ (.int .i64 0)).setCell ⟨w.heap.size + 1 + 1, 2, none⟩ (.int .i64 0)).heap[w.heap.size + 1 + 1]? = some (.cells #[.int .i64 0, .int .i64 0, .int .i64 0] 87)) := (fun n => store3 (W := w4.drewN n) k4); clear k3 k4 hb4 hov HV HB HR HC HP HM HJ K1 K2 HZ HW cr2 HO HVT) | fail)
      clear e0
      have d0 := D0.out
      go_quiet (fail)
      go_wp2
      obtain ⟨s0, s1, s2⟩ := cells3_of (K4.out nq)
      refine bodyPost_ret (v := .tuple #[.pointer none, .agg #[.int .i64 0, .int .i64 0, .int .i64 0], .int .i64 1]) (by simp [results, Tryd.results44, go_sem, s0, s1, s2]) rfl ?_
      exact HF4.out nq
    · skip
      by_cases e1 : (P : Int) ≤ p
      · have HV : Hid ((o.valid && o.ex (p, x, y)) = false) := by
          rw [Bool.and_eq_false_iff]; right; unfold Ov.ex; rw [← HP.out, ← HR.out, ← HC.out]; exact decide_eq_false (by simp only; omega)
        have D0 : Hid (decide (p < 0) = false) := decide_eq_false e0
        have D1 : Hid (decide ((P : Int) ≤ p) = true) := decide_eq_true e1
        go_enter Tryd.func44, Tryd.ntmps44
        go_wp2_with (first | (go_at_call 51; rw [← HW.out]; refine (cr2.out).mono ?_; rintro e w4 ⟨xb, rfl, hov, hb4⟩; have k4 := (hb4.block (w.heap.size + 2) (by have := HZ.out; omega)).trans K2.out; have k3 := (hb4.block (w.heap.size + 1) (by have := HZ.out; omega)).trans K1.out; obtain ⟨f0, f1, f2⟩ := free3_of k4; obtain ⟨q0, q1, q2⟩ := cells3_of k4; obtain ⟨v0, v1, v2⟩ := cells3_of k3; have u0 := hov.c0; have u3 := hov.c3; have u4 := hov.c4; rw [← HR.out] at u3; rw [← HC.out] at u4; have hl0 := ovAt_lt hov; rw [show o.safe.length = P from HP.out.symm, show o.moves.length = M from HM.out.symm, show o.jolts.length = J from HJ.out.symm] at HO; have HF4 : Hid (∀ n, AtR w (.slice a1 P c1) (.slice a2 M c2) (.slice a3 J c3) o (p, x, y) (.returned (.tuple #[.pointer none, .agg #[.int .i64 0, .int .i64 0, .int .i64 0], .int .i64 1])) ((((w4.drewN n).setCell ⟨w.heap.size + 1 + 1, 0, none⟩ (.int .i64 0)).setCell ⟨w.heap.size + 1 + 1, 1, none⟩ (.int .i64 0)).setCell ⟨w.heap.size + 1 + 1, 2, none⟩ (.int .i64 0))) := (fun n => atR_no HV.out rfl (below_store3 (below_drewN_r (HB.out.trans (hb4.mono HB.out.size)) n) (by omega))); have K4 : Hid (∀ n, ((((w4.drewN n).setCell ⟨w.heap.size + 1 + 1, 0, none⟩ (.int .i64 0)).setCell ⟨w.heap.size + 1 + 1, 1, none⟩ (.int .i64 0)).setCell ⟨w.heap.size + 1 + 1, 2, none⟩ (.int .i64 0)).heap[w.heap.size + 1 + 1]? = some (.cells #[.int .i64 0, .int .i64 0, .int .i64 0] 87)) := (fun n => store3 (W := w4.drewN n) k4); clear k3 k4 hb4 hov HV HB HR HC HP HM HJ K1 K2 HZ HW cr2 HO HVT) | fail)
        clear e0 e1
        have d0 := D0.out
        have d1 := D1.out
        go_quiet (fail)
        go_wp2
        obtain ⟨s0, s1, s2⟩ := cells3_of (K4.out nq)
        refine bodyPost_ret (v := .tuple #[.pointer none, .agg #[.int .i64 0, .int .i64 0, .int .i64 0], .int .i64 1]) (by simp [results, Tryd.results44, go_sem, s0, s1, s2]) rfl ?_
        exact HF4.out nq
      · skip
        by_cases e2 : x < 0
        · have HV : Hid ((o.valid && o.ex (p, x, y)) = false) := by
            rw [Bool.and_eq_false_iff]; right; unfold Ov.ex; rw [← HP.out, ← HR.out, ← HC.out]; exact decide_eq_false (by simp only; omega)
          have D0 : Hid (decide (p < 0) = false) := decide_eq_false e0
          have D1 : Hid (decide ((P : Int) ≤ p) = false) := decide_eq_false e1
          have D2 : Hid (decide (x < 0) = true) := decide_eq_true e2
          go_enter Tryd.func44, Tryd.ntmps44
          go_wp2_with (first | (go_at_call 51; rw [← HW.out]; refine (cr2.out).mono ?_; rintro e w4 ⟨xb, rfl, hov, hb4⟩; have k4 := (hb4.block (w.heap.size + 2) (by have := HZ.out; omega)).trans K2.out; have k3 := (hb4.block (w.heap.size + 1) (by have := HZ.out; omega)).trans K1.out; obtain ⟨f0, f1, f2⟩ := free3_of k4; obtain ⟨q0, q1, q2⟩ := cells3_of k4; obtain ⟨v0, v1, v2⟩ := cells3_of k3; have u0 := hov.c0; have u3 := hov.c3; have u4 := hov.c4; rw [← HR.out] at u3; rw [← HC.out] at u4; have hl0 := ovAt_lt hov; rw [show o.safe.length = P from HP.out.symm, show o.moves.length = M from HM.out.symm, show o.jolts.length = J from HJ.out.symm] at HO; have HF4 : Hid (∀ n, AtR w (.slice a1 P c1) (.slice a2 M c2) (.slice a3 J c3) o (p, x, y) (.returned (.tuple #[.pointer none, .agg #[.int .i64 0, .int .i64 0, .int .i64 0], .int .i64 1])) ((((w4.drewN n).setCell ⟨w.heap.size + 1 + 1, 0, none⟩ (.int .i64 0)).setCell ⟨w.heap.size + 1 + 1, 1, none⟩ (.int .i64 0)).setCell ⟨w.heap.size + 1 + 1, 2, none⟩ (.int .i64 0))) := (fun n => atR_no HV.out rfl (below_store3 (below_drewN_r (HB.out.trans (hb4.mono HB.out.size)) n) (by omega))); have K4 : Hid (∀ n, ((((w4.drewN n).setCell ⟨w.heap.size + 1 + 1, 0, none⟩ (.int .i64 0)).setCell ⟨w.heap.size + 1 + 1, 1, none⟩ (.int .i64 0)).setCell ⟨w.heap.size + 1 + 1, 2, none⟩ (.int .i64 0)).heap[w.heap.size + 1 + 1]? = some (.cells #[.int .i64 0, .int .i64 0, .int .i64 0] 87)) := (fun n => store3 (W := w4.drewN n) k4); clear k3 k4 hb4 hov HV HB HR HC HP HM HJ K1 K2 HZ HW cr2 HO HVT) | fail)
          clear e0 e1 e2
          have d0 := D0.out
          have d1 := D1.out
          have d2 := D2.out
          go_quiet (fail)
          go_wp2
          obtain ⟨s0, s1, s2⟩ := cells3_of (K4.out nq)
          refine bodyPost_ret (v := .tuple #[.pointer none, .agg #[.int .i64 0, .int .i64 0, .int .i64 0], .int .i64 1]) (by simp [results, Tryd.results44, go_sem, s0, s1, s2]) rfl ?_
          exact HF4.out nq
        · skip
          by_cases e3 : (C : Int) ≤ x
          · have HV : Hid ((o.valid && o.ex (p, x, y)) = false) := by
              rw [Bool.and_eq_false_iff]; right; unfold Ov.ex; rw [← HP.out, ← HR.out, ← HC.out]; exact decide_eq_false (by simp only; omega)
            have D0 : Hid (decide (p < 0) = false) := decide_eq_false e0
            have D1 : Hid (decide ((P : Int) ≤ p) = false) := decide_eq_false e1
            have D2 : Hid (decide (x < 0) = false) := decide_eq_false e2
            have D3 : Hid (decide ((C : Int) ≤ x) = true) := decide_eq_true e3
            go_enter Tryd.func44, Tryd.ntmps44
            go_wp2_with (first | (go_at_call 51; rw [← HW.out]; refine (cr2.out).mono ?_; rintro e w4 ⟨xb, rfl, hov, hb4⟩; have k4 := (hb4.block (w.heap.size + 2) (by have := HZ.out; omega)).trans K2.out; have k3 := (hb4.block (w.heap.size + 1) (by have := HZ.out; omega)).trans K1.out; obtain ⟨f0, f1, f2⟩ := free3_of k4; obtain ⟨q0, q1, q2⟩ := cells3_of k4; obtain ⟨v0, v1, v2⟩ := cells3_of k3; have u0 := hov.c0; have u3 := hov.c3; have u4 := hov.c4; rw [← HR.out] at u3; rw [← HC.out] at u4; have hl0 := ovAt_lt hov; rw [show o.safe.length = P from HP.out.symm, show o.moves.length = M from HM.out.symm, show o.jolts.length = J from HJ.out.symm] at HO; have HF4 : Hid (∀ n, AtR w (.slice a1 P c1) (.slice a2 M c2) (.slice a3 J c3) o (p, x, y) (.returned (.tuple #[.pointer none, .agg #[.int .i64 0, .int .i64 0, .int .i64 0], .int .i64 1])) ((((w4.drewN n).setCell ⟨w.heap.size + 1 + 1, 0, none⟩ (.int .i64 0)).setCell ⟨w.heap.size + 1 + 1, 1, none⟩ (.int .i64 0)).setCell ⟨w.heap.size + 1 + 1, 2, none⟩ (.int .i64 0))) := (fun n => atR_no HV.out rfl (below_store3 (below_drewN_r (HB.out.trans (hb4.mono HB.out.size)) n) (by omega))); have K4 : Hid (∀ n, ((((w4.drewN n).setCell ⟨w.heap.size + 1 + 1, 0, none⟩ (.int .i64 0)).setCell ⟨w.heap.size + 1 + 1, 1, none⟩ (.int .i64 0)).setCell ⟨w.heap.size + 1 + 1, 2, none⟩ (.int .i64 0)).heap[w.heap.size + 1 + 1]? = some (.cells #[.int .i64 0, .int .i64 0, .int .i64 0] 87)) := (fun n => store3 (W := w4.drewN n) k4); clear k3 k4 hb4 hov HV HB HR HC HP HM HJ K1 K2 HZ HW cr2 HO HVT) | fail)
            clear e0 e1 e2 e3
            have d0 := D0.out
            have d1 := D1.out
            have d2 := D2.out
            have d3 := D3.out
            go_quiet (fail)
            go_wp2
            obtain ⟨s0, s1, s2⟩ := cells3_of (K4.out nq)
            refine bodyPost_ret (v := .tuple #[.pointer none, .agg #[.int .i64 0, .int .i64 0, .int .i64 0], .int .i64 1]) (by simp [results, Tryd.results44, go_sem, s0, s1, s2]) rfl ?_
            exact HF4.out nq
          · skip
            by_cases e4 : y < 0
            · have HV : Hid ((o.valid && o.ex (p, x, y)) = false) := by
                rw [Bool.and_eq_false_iff]; right; unfold Ov.ex; rw [← HP.out, ← HR.out, ← HC.out]; exact decide_eq_false (by simp only; omega)
              have D0 : Hid (decide (p < 0) = false) := decide_eq_false e0
              have D1 : Hid (decide ((P : Int) ≤ p) = false) := decide_eq_false e1
              have D2 : Hid (decide (x < 0) = false) := decide_eq_false e2
              have D3 : Hid (decide ((C : Int) ≤ x) = false) := decide_eq_false e3
              have D4 : Hid (decide (y < 0) = true) := decide_eq_true e4
              go_enter Tryd.func44, Tryd.ntmps44
              go_wp2_with (first | (go_at_call 51; rw [← HW.out]; refine (cr2.out).mono ?_; rintro e w4 ⟨xb, rfl, hov, hb4⟩; have k4 := (hb4.block (w.heap.size + 2) (by have := HZ.out; omega)).trans K2.out; have k3 := (hb4.block (w.heap.size + 1) (by have := HZ.out; omega)).trans K1.out; obtain ⟨f0, f1, f2⟩ := free3_of k4; obtain ⟨q0, q1, q2⟩ := cells3_of k4; obtain ⟨v0, v1, v2⟩ := cells3_of k3; have u0 := hov.c0; have u3 := hov.c3; have u4 := hov.c4; rw [← HR.out] at u3; rw [← HC.out] at u4; have hl0 := ovAt_lt hov; rw [show o.safe.length = P from HP.out.symm, show o.moves.length = M from HM.out.symm, show o.jolts.length = J from HJ.out.symm] at HO; have HF4 : Hid (∀ n, AtR w (.slice a1 P c1) (.slice a2 M c2) (.slice a3 J c3) o (p, x, y) (.returned (.tuple #[.pointer none, .agg #[.int .i64 0, .int .i64 0, .int .i64 0], .int .i64 1])) ((((w4.drewN n).setCell ⟨w.heap.size + 1 + 1, 0, none⟩ (.int .i64 0)).setCell ⟨w.heap.size + 1 + 1, 1, none⟩ (.int .i64 0)).setCell ⟨w.heap.size + 1 + 1, 2, none⟩ (.int .i64 0))) := (fun n => atR_no HV.out rfl (below_store3 (below_drewN_r (HB.out.trans (hb4.mono HB.out.size)) n) (by omega))); have K4 : Hid (∀ n, ((((w4.drewN n).setCell ⟨w.heap.size + 1 + 1, 0, none⟩ (.int .i64 0)).setCell ⟨w.heap.size + 1 + 1, 1, none⟩ (.int .i64 0)).setCell ⟨w.heap.size + 1 + 1, 2, none⟩ (.int .i64 0)).heap[w.heap.size + 1 + 1]? = some (.cells #[.int .i64 0, .int .i64 0, .int .i64 0] 87)) := (fun n => store3 (W := w4.drewN n) k4); clear k3 k4 hb4 hov HV HB HR HC HP HM HJ K1 K2 HZ HW cr2 HO HVT) | fail)
              clear e0 e1 e2 e3 e4
              have d0 := D0.out
              have d1 := D1.out
              have d2 := D2.out
              have d3 := D3.out
              have d4 := D4.out
              go_quiet (fail)
              go_wp2
              obtain ⟨s0, s1, s2⟩ := cells3_of (K4.out nq)
              refine bodyPost_ret (v := .tuple #[.pointer none, .agg #[.int .i64 0, .int .i64 0, .int .i64 0], .int .i64 1]) (by simp [results, Tryd.results44, go_sem, s0, s1, s2]) rfl ?_
              exact HF4.out nq
            · skip
              by_cases e5 : (R : Int) ≤ y
              · have HV : Hid ((o.valid && o.ex (p, x, y)) = false) := by
                  rw [Bool.and_eq_false_iff]; right; unfold Ov.ex; rw [← HP.out, ← HR.out, ← HC.out]; exact decide_eq_false (by simp only; omega)
                have D0 : Hid (decide (p < 0) = false) := decide_eq_false e0
                have D1 : Hid (decide ((P : Int) ≤ p) = false) := decide_eq_false e1
                have D2 : Hid (decide (x < 0) = false) := decide_eq_false e2
                have D3 : Hid (decide ((C : Int) ≤ x) = false) := decide_eq_false e3
                have D4 : Hid (decide (y < 0) = false) := decide_eq_false e4
                have D5 : Hid (decide ((R : Int) ≤ y) = true) := decide_eq_true e5
                go_enter Tryd.func44, Tryd.ntmps44
                go_wp2_with (first | (go_at_call 51; rw [← HW.out]; refine (cr2.out).mono ?_; rintro e w4 ⟨xb, rfl, hov, hb4⟩; have k4 := (hb4.block (w.heap.size + 2) (by have := HZ.out; omega)).trans K2.out; have k3 := (hb4.block (w.heap.size + 1) (by have := HZ.out; omega)).trans K1.out; obtain ⟨f0, f1, f2⟩ := free3_of k4; obtain ⟨q0, q1, q2⟩ := cells3_of k4; obtain ⟨v0, v1, v2⟩ := cells3_of k3; have u0 := hov.c0; have u3 := hov.c3; have u4 := hov.c4; rw [← HR.out] at u3; rw [← HC.out] at u4; have hl0 := ovAt_lt hov; rw [show o.safe.length = P from HP.out.symm, show o.moves.length = M from HM.out.symm, show o.jolts.length = J from HJ.out.symm] at HO; have HF4 : Hid (∀ n, AtR w (.slice a1 P c1) (.slice a2 M c2) (.slice a3 J c3) o (p, x, y) (.returned (.tuple #[.pointer none, .agg #[.int .i64 0, .int .i64 0, .int .i64 0], .int .i64 1])) ((((w4.drewN n).setCell ⟨w.heap.size + 1 + 1, 0, none⟩ (.int .i64 0)).setCell ⟨w.heap.size + 1 + 1, 1, none⟩ (.int .i64 0)).setCell ⟨w.heap.size + 1 + 1, 2, none⟩ (.int .i64 0))) := (fun n => atR_no HV.out rfl (below_store3 (below_drewN_r (HB.out.trans (hb4.mono HB.out.size)) n) (by omega))); have K4 : Hid (∀ n, ((((w4.drewN n).setCell ⟨w.heap.size + 1 + 1, 0, none⟩ (.int .i64 0)).setCell ⟨w.heap.size + 1 + 1, 1, none⟩ (.int .i64 0)).setCell ⟨w.heap.size + 1 + 1, 2, none⟩ (.int .i64 0)).heap[w.heap.size + 1 + 1]? = some (.cells #[.int .i64 0, .int .i64 0, .int .i64 0] 87)) := (fun n => store3 (W := w4.drewN n) k4); clear k3 k4 hb4 hov HV HB HR HC HP HM HJ K1 K2 HZ HW cr2 HO HVT) | fail)
                clear e0 e1 e2 e3 e4 e5
                have d0 := D0.out
                have d1 := D1.out
                have d2 := D2.out
                have d3 := D3.out
                have d4 := D4.out
                have d5 := D5.out
                go_quiet (fail)
                go_wp2
                obtain ⟨s0, s1, s2⟩ := cells3_of (K4.out nq)
                refine bodyPost_ret (v := .tuple #[.pointer none, .agg #[.int .i64 0, .int .i64 0, .int .i64 0], .int .i64 1]) (by simp [results, Tryd.results44, go_sem, s0, s1, s2]) rfl ?_
                exact HF4.out nq
              · skip
                have HV : Hid ((o.valid && o.ex (p, x, y)) = true) := by
                  rw [HVT.out, Bool.true_and]; unfold Ov.ex; rw [← HP.out, ← HR.out, ← HC.out]; exact decide_eq_true (by simp only; omega)
                have D0 : Hid (decide (p < 0) = false) := decide_eq_false e0
                have D1 : Hid (decide ((P : Int) ≤ p) = false) := decide_eq_false e1
                have D2 : Hid (decide (x < 0) = false) := decide_eq_false e2
                have D3 : Hid (decide ((C : Int) ≤ x) = false) := decide_eq_false e3
                have D4 : Hid (decide (y < 0) = false) := decide_eq_false e4
                have D5 : Hid (decide ((R : Int) ≤ y) = false) := decide_eq_false e5
                go_enter Tryd.func44, Tryd.ntmps44
                go_wp2_with (first | (go_at_call 51; rw [← HW.out]; refine (cr2.out).mono ?_; rintro e w4 ⟨xb, rfl, hov, hb4⟩; have k4 := (hb4.block (w.heap.size + 2) (by have := HZ.out; omega)).trans K2.out; have k3 := (hb4.block (w.heap.size + 1) (by have := HZ.out; omega)).trans K1.out; obtain ⟨f0, f1, f2⟩ := free3_of k4; obtain ⟨q0, q1, q2⟩ := cells3_of k4; obtain ⟨v0, v1, v2⟩ := cells3_of k3; have u0 := hov.c0; have u3 := hov.c3; have u4 := hov.c4; rw [← HR.out] at u3; rw [← HC.out] at u4; have hl0 := ovAt_lt hov; rw [show o.safe.length = P from HP.out.symm, show o.moves.length = M from HM.out.symm, show o.jolts.length = J from HJ.out.symm] at HO; have HF4 : Hid (∀ n, AtR w (.slice a1 P c1) (.slice a2 M c2) (.slice a3 J c3) o (p, x, y) (.returned (.tuple #[.pointer (some ⟨xb, 0, none⟩), .agg #[.int .i64 p, .int .i64 x, .int .i64 y], .int .i64 0])) ((((w4.drewN n).setCell ⟨w.heap.size + 1 + 1, 0, none⟩ (.int .i64 p)).setCell ⟨w.heap.size + 1 + 1, 1, none⟩ (.int .i64 x)).setCell ⟨w.heap.size + 1 + 1, 2, none⟩ (.int .i64 y))) := (fun n => atR_yes HV.out rfl (below_store3 (below_drewN_r (HB.out.trans (hb4.mono HB.out.size)) n) (by omega)) (ovAt_store3 hov n rfl q0 _ _ _ HO.out (below_store3 (below_drewN_r (HB.out.trans (hb4.mono HB.out.size)) n) (by omega)))); have K4 : Hid (∀ n, ((((w4.drewN n).setCell ⟨w.heap.size + 1 + 1, 0, none⟩ (.int .i64 p)).setCell ⟨w.heap.size + 1 + 1, 1, none⟩ (.int .i64 x)).setCell ⟨w.heap.size + 1 + 1, 2, none⟩ (.int .i64 y)).heap[w.heap.size + 1 + 1]? = some (.cells #[.int .i64 p, .int .i64 x, .int .i64 y] 87)) := (fun n => store3 (W := w4.drewN n) k4); clear k3 k4 hb4 hov HR HC HP HM HJ K1 K2 HZ HW cr2 HO HVT) | fail)
                clear e0 e1 e2 e3 e4 e5
                have d0 := D0.out
                have d1 := D1.out
                have d2 := D2.out
                have d3 := D3.out
                have d4 := D4.out
                have d5 := D5.out
                go_quiet (fail)
                go_wp2
                go_region
                all_goals
                  (try go_wp2)
                  obtain ⟨s0, s1, s2⟩ := cells3_of (K4.out (nq + 1))
                  refine bodyPost_ret (v := .tuple #[.pointer (some ⟨xb, 0, none⟩), .agg #[.int .i64 p, .int .i64 x, .int .i64 y], .int .i64 0]) (by simp [results, Tryd.results44, go_sem, s0, s1, s2]) rfl ?_
                  exact HF4.out (nq + 1)
end Go.Proofs.YtjonbhimbhidpaaDoor
