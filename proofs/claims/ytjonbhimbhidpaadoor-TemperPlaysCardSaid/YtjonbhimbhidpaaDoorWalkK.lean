/-
  Walks over chapter 6: Choose and Lost.
-/
import Derived.Test.YtjonbhimbhidpaaDoorWalkJ
import Derived.Test.YtjonbhimbhidpaaDoorPlainD
namespace Go.Proofs.YtjonbhimbhidpaaDoor
open Go.RowKit

theorem alloc2 (w : World) (a b : Obj) : Below w.heap.size w ((w.alloc a).alloc b) ∧ ((w.alloc a).alloc b).heap.size = w.heap.size + 2 ∧ ((w.alloc a).alloc b).heap[w.heap.size]? = some a ∧ ((w.alloc a).alloc b).heap[w.heap.size + 1]? = some b := by
  refine ⟨((Below.refl _ _).alloc (Nat.le_refl _) _).alloc (by simp) _, by simp, ?_, ?_⟩
  · rw [Below.heap_alloc _ _ _ (by simp)]
    exact heap_alloc_new _ _
  · rw [show w.heap.size + 1 = (w.alloc a).heap.size by simp]
    exact heap_alloc_new _ _
/-- the kernel, in the words KK and LL -/
theorem kernel_kk (b : Nat) (vs vm vj : Value) (o : Ov) (w : World) (ho : OvAt w b vs vm vj o) (hok : o.Ok) :
    Calls Tryd.prog 45 #[.pointer (some ⟨b, 0, none⟩)] w fun e w' => ∃ m ml n, e = .returned (.tuple #[.map (some m), .map (some ml)]) ∧ SetW w' m (o.cells.filter o.KK) ∧ NumW w' ml n (fun c => if o.ex c then o.LL c else none) ∧ Below w.heap.size w w' := by
  refine (kernel_any b vs vm vj o w ho hok).mono ?_
  rintro e w' ⟨k, m, ml, n, rfl, hs, h1, h2, h3⟩
  rw [KK_of o hs] at h1
  rw [LL_of o hs] at h2
  exact ⟨m, ml, n, rfl, h1, h2, h3⟩
theorem dec_KK (o : Ov) : (fun d => decide (d ∈ o.cells.filter o.KK)) = o.KK := by
  funext d
  rw [Bool.eq_iff_iff, decide_eq_true_eq, List.mem_filter, mem_cells]
  exact ⟨fun h => h.2, fun h => ⟨KK_ex o d h, h⟩⟩

def chooseV (o : Ov) (c : Sp) : Value := if (o.valid && o.ex c) = true then (if o.KK c = true then .tuple #[.int .i64 (o.move o.KK c), .int .i64 0] else .tuple #[.int .i64 0, .int .i64 5]) else .tuple #[.int .i64 0, .int .i64 1]

set_option maxHeartbeats 4000000 in
set_option maxRecDepth 100000 in
theorem choose_any (vs vm vj : Value) (o : Ov) (c : Sp) (w : World) (ho : IsOv w vs vm vj o) (hn : o.Num) :
    Calls Tryd.prog 15 #[.agg #[vs, vm, vj], spv c] w fun e w' => e = .returned (chooseV o c) ∧ Below w.heap.size w w' := by
  have hmf : ∀ (fn : Fn) (first cap : Array Value) (w : World), (Instr.makeFunc fn first cap).run Tryd.prog w = .ok (.func fn first cap) w := fun _ _ _ _ => rfl
  obtain ⟨p, x, y⟩ := c
  have HO := hid ho
  obtain ⟨hb2, hz2, k0, k1⟩ := alloc2 w (.cells #[vs, vm, vj] 26) (.cells #[.int .i64 p, .int .i64 x, .int .i64 y] 28)
  obtain ⟨W, hW⟩ : ∃ W, W = ((w.alloc (.cells #[vs, vm, vj] 26)).alloc (.cells #[.int .i64 p, .int .i64 x, .int .i64 y] 28)) := ⟨_, rfl⟩
  rw [← hW] at hb2 hz2 k0 k1
  have cr := hid (at_any _ _ _ o (p, x, y) W (isOv_below HO.out hb2) hn)
  have HB := hid hb2
  have HW := hid hW
  unfold spv at cr ⊢
  simp only
  clear hn hb2 hz2 k0 k1 hW ho
  cases hv : (o.valid && o.ex (p, x, y))
  · have HR : Hid (chooseV o (p, x, y) = .tuple #[.int .i64 0, .int .i64 1]) := by unfold chooseV; rw [if_neg (by rw [hv]; decide)]; exact rfl
    have cr2 : Hid (Calls Tryd.prog 44 #[.agg #[vs, vm, vj], .agg #[.int .i64 p, .int .i64 x, .int .i64 y]] W (fun e w' => e = .returned (.tuple #[.pointer none, .agg #[.int .i64 0, .int .i64 0, .int .i64 0], .int .i64 1]) ∧ Below W.heap.size W w')) := (cr.out).mono (by
      rintro e w4 ⟨hb4, h4⟩
      rw [hv, if_neg (by decide)] at h4
      exact ⟨h4, hb4⟩)
    clear hv cr
    go_enter Tryd.func15, Tryd.ntmps15
    go_wp2_with (first | (go_at_call 44; rw [← HW.out]; refine (cr2.out).mono ?_; rintro e w4 ⟨rfl, hb4⟩; have HB4 := hid hb4; clear hb4) | fail)
    go_ret2
    refine ⟨ret_eq HR.out.symm, ?_⟩
    have hb := HB.out.trans (HB4.out.mono HB.out.size)
    exact hb.alloc hb.size _
  · have HOK : Hid o.Ok := by rw [Bool.and_eq_true] at hv; exact ok_of_valid hv.1
    have HEX : Hid (o.ex (p, x, y) = true) := by rw [Bool.and_eq_true] at hv; exact hv.2
    have cr2 : Hid (Calls Tryd.prog 44 #[.agg #[vs, vm, vj], .agg #[.int .i64 p, .int .i64 x, .int .i64 y]] W (fun e w' => ∃ xb, e = .returned (.tuple #[.pointer (some ⟨xb, 0, none⟩), .agg #[.int .i64 p, .int .i64 x, .int .i64 y], .int .i64 0]) ∧ OvAt w' xb vs vm vj o ∧ Below W.heap.size W w')) := (cr.out).mono (by
      rintro e w4 ⟨hb4, h4⟩
      rw [hv, if_pos rfl] at h4
      obtain ⟨xb, h5, h6⟩ := h4
      exact ⟨xb, h5, h6, hb4⟩)
    have HV := hid hv
    clear hv cr
    cases hk : o.KK (p, x, y)
    · have HR : Hid (chooseV o (p, x, y) = .tuple #[.int .i64 0, .int .i64 5]) := by unfold chooseV; rw [if_pos (HV.out), if_neg (by rw [hk]; decide)]; exact rfl
      go_enter Tryd.func15, Tryd.ntmps15
      go_wp2_with (first
        | (go_at_call 44; rw [← HW.out]; refine (cr2.out).mono ?_; rintro e w4 ⟨xb, rfl, hov, hb4⟩; have HOV := hid hov; have HB4 := hid hb4; clear hb4 hov)
        | (go_at_call 45; refine (kernel_kk xb vs vm vj o _ (ovAt_below HOV.out ((Below.refl _ _).alloc (Nat.le_refl _) _)) HOK.out).mono ?_; rintro e w5 ⟨m, ml, n, rfl, hS, hN, hb5⟩; obtain ⟨z0, z1, z2⟩ := cells3_of ((hb5.block w4.heap.size (by simp)).trans (heap_alloc_new w4 _)); have l5 : w4.heap.size < w5.heap.size := (by have := hb5.size; simp at this; omega); have hlk := setW_look (setW_kept (row := none) hS (World.grownBy_alloc w5 (Obj.cells #[.map (some m)] 90) none) (by simp)) (ex_inR HOK.out HEX.out); rw [show decide ((p, x, y) ∈ o.cells.filter o.KK) = o.KK (p, x, y) from congrFun (dec_KK o) _, hk] at hlk; unfold spv at hlk; simp only at hlk; have HS := hid hS; have HB5 := hid hb5; have HOV5 := hid (ovAt_below HOV.out (((Below.refl _ _).alloc (Nat.le_refl _) _).trans (hb5.mono (by simp)))); clear hS hN hb5)
        | fail)
      go_ret2
      refine ⟨ret_eq HR.out.symm, ?_⟩
      have hb := HB.out.trans (HB4.out.mono HB.out.size)
      have hb' := (hb.alloc hb.size (Obj.cells #[Value.int IntKind.i64 p, Value.int IntKind.i64 x, Value.int IntKind.i64 y] 87))
      have hb'' := hb'.trans (HB5.out.mono hb'.size)
      exact hb''.alloc hb''.size _
    · have HR : Hid (chooseV o (p, x, y) = .tuple #[.int .i64 (o.move o.KK (p, x, y)), .int .i64 0]) := by unfold chooseV; rw [if_pos (HV.out), if_pos hk]; exact rfl
      go_enter Tryd.func15, Tryd.ntmps15
      go_wp2_with (first
        | (go_at_call 44; rw [← HW.out]; refine (cr2.out).mono ?_; rintro e w4 ⟨xb, rfl, hov, hb4⟩; have HOV := hid hov; have HB4 := hid hb4; clear hb4 hov)
        | (go_at_call 45; refine (kernel_kk xb vs vm vj o _ (ovAt_below HOV.out ((Below.refl _ _).alloc (Nat.le_refl _) _)) HOK.out).mono ?_; rintro e w5 ⟨m, ml, n, rfl, hS, hN, hb5⟩; obtain ⟨z0, z1, z2⟩ := cells3_of ((hb5.block w4.heap.size (by simp)).trans (heap_alloc_new w4 _)); have l5 : w4.heap.size < w5.heap.size := (by have := hb5.size; simp at this; omega); have hlk := setW_look (setW_kept (row := none) hS (World.grownBy_alloc w5 (Obj.cells #[.map (some m)] 90) none) (by simp)) (ex_inR HOK.out HEX.out); rw [show decide ((p, x, y) ∈ o.cells.filter o.KK) = o.KK (p, x, y) from congrFun (dec_KK o) _, hk] at hlk; unfold spv at hlk; simp only at hlk; have HS := hid hS; have HB5 := hid hb5; have HOV5 := hid (ovAt_below HOV.out (((Below.refl _ _).alloc (Nat.le_refl _) _).trans (hb5.mono (by simp)))); clear hS hN hb5)
        | (go_at_call 46; have cm := move_any xb vs vm vj o (p, x, y) 47 #[.pointer (some ⟨w5.heap.size, 0, none⟩)] _ (w5.alloc (Obj.cells #[.map (some m)] 90)) (ovAt_below HOV5.out ((Below.refl _ _).alloc (Nat.le_refl _) _)) HOK.out HEX.out (testC47 (box1 (heap_alloc_new _ _)) (setW_kept (row := none) HS.out (World.grownBy_alloc w5 (Obj.cells #[.map (some m)] 90) none) (by simp))); rw [dec_KK] at cm; refine cm.mono ?_; rintro e w6 ⟨rfl, hb6⟩; have HB6 := hid hb6; clear hb6 cm)
        | fail)
      go_ret2
      refine ⟨ret_eq HR.out.symm, ?_⟩
      have hb := HB.out.trans (HB4.out.mono HB.out.size)
      have hb' := (hb.alloc hb.size (Obj.cells #[Value.int IntKind.i64 p, Value.int IntKind.i64 x, Value.int IntKind.i64 y] 87))
      have hb'' := hb'.trans (HB5.out.mono hb'.size)
      have hb3 := hb''.alloc hb''.size (Obj.cells #[.map (some m)] 90)
      exact hb3.trans (HB6.out.mono hb3.size)

def lostV (o : Ov) (c : Sp) : Value := if (o.valid && o.ex c) = true then (match o.LL c with | some j => .tuple #[.int .i64 j, .int .i64 0] | none => .tuple #[.int .i64 0, .int .i64 5]) else .tuple #[.int .i64 0, .int .i64 1]

set_option maxHeartbeats 4000000 in
set_option maxRecDepth 100000 in
theorem lost_any (vs vm vj : Value) (o : Ov) (c : Sp) (w : World) (ho : IsOv w vs vm vj o) (hn : o.Num) :
    Calls Tryd.prog 16 #[.agg #[vs, vm, vj], spv c] w fun e w' => e = .returned (lostV o c) ∧ Below w.heap.size w w' := by
  have hmf : ∀ (fn : Fn) (first cap : Array Value) (w : World), (Instr.makeFunc fn first cap).run Tryd.prog w = .ok (.func fn first cap) w := fun _ _ _ _ => rfl
  obtain ⟨p, x, y⟩ := c
  have HO := hid ho
  obtain ⟨hb2, hz2, k0, k1⟩ := alloc2 w (.cells #[vs, vm, vj] 26) (.cells #[.int .i64 p, .int .i64 x, .int .i64 y] 28)
  obtain ⟨W, hW⟩ : ∃ W, W = ((w.alloc (.cells #[vs, vm, vj] 26)).alloc (.cells #[.int .i64 p, .int .i64 x, .int .i64 y] 28)) := ⟨_, rfl⟩
  rw [← hW] at hb2 hz2 k0 k1
  have cr := hid (at_any _ _ _ o (p, x, y) W (isOv_below HO.out hb2) hn)
  have HB := hid hb2
  have HW := hid hW
  unfold spv at cr ⊢
  simp only
  clear hn hb2 hz2 k0 k1 hW ho
  cases hv : (o.valid && o.ex (p, x, y))
  · have HR : Hid (lostV o (p, x, y) = .tuple #[.int .i64 0, .int .i64 1]) := by unfold lostV; rw [if_neg (by rw [hv]; decide)]; exact rfl
    have cr2 : Hid (Calls Tryd.prog 44 #[.agg #[vs, vm, vj], .agg #[.int .i64 p, .int .i64 x, .int .i64 y]] W (fun e w' => e = .returned (.tuple #[.pointer none, .agg #[.int .i64 0, .int .i64 0, .int .i64 0], .int .i64 1]) ∧ Below W.heap.size W w')) := (cr.out).mono (by
      rintro e w4 ⟨hb4, h4⟩
      rw [hv, if_neg (by decide)] at h4
      exact ⟨h4, hb4⟩)
    clear hv cr
    go_enter Tryd.func16, Tryd.ntmps16
    go_wp2_with (first | (go_at_call 44; rw [← HW.out]; refine (cr2.out).mono ?_; rintro e w4 ⟨rfl, hb4⟩; have HB4 := hid hb4; clear hb4) | fail)
    go_ret2
    refine ⟨ret_eq HR.out.symm, ?_⟩
    have hb := HB.out.trans (HB4.out.mono HB.out.size)
    exact hb.alloc hb.size _
  · have HOK : Hid o.Ok := by rw [Bool.and_eq_true] at hv; exact ok_of_valid hv.1
    have HEX : Hid (o.ex (p, x, y) = true) := by rw [Bool.and_eq_true] at hv; exact hv.2
    have cr2 : Hid (Calls Tryd.prog 44 #[.agg #[vs, vm, vj], .agg #[.int .i64 p, .int .i64 x, .int .i64 y]] W (fun e w' => ∃ xb, e = .returned (.tuple #[.pointer (some ⟨xb, 0, none⟩), .agg #[.int .i64 p, .int .i64 x, .int .i64 y], .int .i64 0]) ∧ OvAt w' xb vs vm vj o ∧ Below W.heap.size W w')) := (cr.out).mono (by
      rintro e w4 ⟨hb4, h4⟩
      rw [hv, if_pos rfl] at h4
      obtain ⟨xb, h5, h6⟩ := h4
      exact ⟨xb, h5, h6, hb4⟩)
    have HV := hid hv
    clear hv cr
    cases hk : o.LL (p, x, y) with
    | none =>
      have HR : Hid (lostV o (p, x, y) = .tuple #[.int .i64 0, .int .i64 5]) := by unfold lostV; rw [if_pos (HV.out), hk]; exact rfl
      go_enter Tryd.func16, Tryd.ntmps16
      go_wp2_with (first
        | (go_at_call 44; rw [← HW.out]; refine (cr2.out).mono ?_; rintro e w4 ⟨xb, rfl, hov, hb4⟩; have HOV := hid hov; have HB4 := hid hb4; clear hb4 hov)
        | (go_at_call 45; refine (kernel_kk xb vs vm vj o _ (ovAt_below HOV.out ((Below.refl _ _).alloc (Nat.le_refl _) _)) HOK.out).mono ?_; rintro e w5 ⟨m, ml, n, rfl, hS, hN, hb5⟩; obtain ⟨z0, z1, z2⟩ := cells3_of ((hb5.block w4.heap.size (by simp)).trans (heap_alloc_new w4 _)); have l5 : w4.heap.size < w5.heap.size := (by have := hb5.size; simp at this; omega); have hlk := numW_look hN (ex_inR HOK.out HEX.out); rw [if_pos HEX.out, hk] at hlk; simp only [Option.getD, Option.isSome] at hlk; unfold spv at hlk; simp only at hlk; have HS := hid hS; have HB5 := hid hb5; have HOV5 := hid (ovAt_below HOV.out (((Below.refl _ _).alloc (Nat.le_refl _) _).trans (hb5.mono (by simp)))); clear hS hN hb5)
        | fail)
      go_ret2
      refine ⟨ret_eq HR.out.symm, ?_⟩
      have hb := HB.out.trans (HB4.out.mono HB.out.size)
      have hb' := (hb.alloc hb.size (Obj.cells #[Value.int IntKind.i64 p, Value.int IntKind.i64 x, Value.int IntKind.i64 y] 87))
      have hb'' := hb'.trans (HB5.out.mono hb'.size)
      exact hb''
    | some j =>
      have HR : Hid (lostV o (p, x, y) = .tuple #[.int .i64 j, .int .i64 0]) := by unfold lostV; rw [if_pos (HV.out), hk]; exact rfl
      go_enter Tryd.func16, Tryd.ntmps16
      go_wp2_with (first
        | (go_at_call 44; rw [← HW.out]; refine (cr2.out).mono ?_; rintro e w4 ⟨xb, rfl, hov, hb4⟩; have HOV := hid hov; have HB4 := hid hb4; clear hb4 hov)
        | (go_at_call 45; refine (kernel_kk xb vs vm vj o _ (ovAt_below HOV.out ((Below.refl _ _).alloc (Nat.le_refl _) _)) HOK.out).mono ?_; rintro e w5 ⟨m, ml, n, rfl, hS, hN, hb5⟩; obtain ⟨z0, z1, z2⟩ := cells3_of ((hb5.block w4.heap.size (by simp)).trans (heap_alloc_new w4 _)); have l5 : w4.heap.size < w5.heap.size := (by have := hb5.size; simp at this; omega); have hlk := numW_look hN (ex_inR HOK.out HEX.out); rw [if_pos HEX.out, hk] at hlk; simp only [Option.getD, Option.isSome] at hlk; unfold spv at hlk; simp only at hlk; have HS := hid hS; have HB5 := hid hb5; have HOV5 := hid (ovAt_below HOV.out (((Below.refl _ _).alloc (Nat.le_refl _) _).trans (hb5.mono (by simp)))); clear hS hN hb5)
        | fail)
      go_ret2
      refine ⟨ret_eq HR.out.symm, ?_⟩
      have hb := HB.out.trans (HB4.out.mono HB.out.size)
      have hb' := (hb.alloc hb.size (Obj.cells #[Value.int IntKind.i64 p, Value.int IntKind.i64 x, Value.int IntKind.i64 y] 87))
      have hb'' := hb'.trans (HB5.out.mono hb'.size)
      exact hb''
end Go.Proofs.YtjonbhimbhidpaaDoor
