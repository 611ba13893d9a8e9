/-
  Walks over chapter 6: the areas; the statements cut a set.
-/
import Derived.Test.YtjonbhimbhidpaaDoorWalkY
namespace Go.Proofs.YtjonbhimbhidpaaDoor
open Go.RowKit

theorem ownG_slice' {w : World} {B : Nat} {v : Value} {g : Grid} (h : OwnG w B v g) : ∃ a n c, v = .slice a n c := by
  obtain ⟨a, c, h⟩ := ownG_slice h
  exact ⟨a, _, c, h⟩
/-- what Area returns -/
def areaV (o : Ov) : Value := if o.valid = true then .tuple #[.int .i64 ((o.cells.filter (inG o.safe)).length), .int .i64 ((o.cells.filter o.KK).length), .int .i64 0] else .tuple #[.int .i64 0, .int .i64 0, .int .i64 1]
set_option maxHeartbeats 4000000 in
set_option maxRecDepth 100000 in
theorem area_any (vs vm vj : Value) (o : Ov) (w : World) (ho : IsOv w vs vm vj o) (hn : o.Num) :
    Calls Tryd.prog 33 #[.agg #[vs, vm, vj]] w fun e w' => e = .returned (areaV o) ∧ Below w.heap.size w w' := by
  have cr := hid (read_any _ _ _ o _ (isOv_below ho ((Below.refl w.heap.size w).alloc (Nat.le_refl _) (.cells #[vs, vm, vj] 26))) hn)
  obtain ⟨⟨av, cv, rfl, _, _⟩, _, _⟩ := ho
  have HB : Hid (Below w.heap.size w (w.alloc (.cells #[.slice av o.safe.length cv, vm, vj] 26))) := (Below.refl w.heap.size w).alloc (Nat.le_refl _) _
  obtain ⟨P, hP⟩ : ∃ P, P = o.safe.length := ⟨_, rfl⟩
  rw [← hP] at cr HB ⊢
  obtain ⟨W, hW⟩ : ∃ W, W = (w.alloc (.cells #[.slice av P cv, vm, vj] 26)) := ⟨_, rfl⟩
  rw [← hW] at cr HB
  have HW := hid hW
  clear hn hW hP
  cases hv : o.valid
  · have HR : Hid (areaV o = .tuple #[.int .i64 0, .int .i64 0, .int .i64 1]) := by unfold areaV; rw [if_neg (by rw [hv]; decide)]; exact rfl
    have cr2 : Hid (Calls Tryd.prog 51 #[.agg #[.slice av P cv, vm, vj]] W (fun e w' => e = .returned (.tuple #[.pointer none, .bool false]) ∧ Below W.heap.size W w')) := (cr.out).mono (by
      rintro e w4 ⟨hb4, h4⟩
      rw [hv, if_neg (by decide)] at h4
      exact ⟨h4, hb4⟩)
    clear hv cr
    go_enter Tryd.func33, Tryd.ntmps33
    go_wp2_with (first | (go_at_call 51; rw [← HW.out]; refine (cr2.out).mono ?_; rintro e w4 ⟨rfl, hb4⟩; have HB4 := hid hb4; clear hb4) | fail)
    (try simp only [Exit.inBlock, Exit.then])
    refine bodyPost_ret (results_tmp3 rfl _ _ _) rfl ?_
    exact ⟨ret_eq HR.out.symm, HB.out.trans (HB4.out.mono HB.out.size)⟩
  · have HOK := hid (ok_of_valid hv)
    have HR : Hid (areaV o = .tuple #[.int .i64 ((o.cells.filter (inG o.safe)).length), .int .i64 ((o.cells.filter o.KK).length), .int .i64 0]) := by unfold areaV; rw [if_pos hv]; exact rfl
    have cr2 : Hid (Calls Tryd.prog 51 #[.agg #[.slice av P cv, vm, vj]] W (fun e w' => ∃ xb, e = .returned (.tuple #[.pointer (some ⟨xb, 0, none⟩), .bool true]) ∧ OvAt w' xb (.slice av P cv) vm vj o ∧ Below W.heap.size W w')) := (cr.out).mono (by
      rintro e w4 ⟨hb4, h4⟩
      rw [hv, if_pos rfl] at h4
      obtain ⟨xb, h5, h6⟩ := h4
      exact ⟨xb, h5, h6, hb4⟩)
    clear hv cr
    go_enter Tryd.func33, Tryd.ntmps33
    go_wp2_with (first
      | (go_at_call 51; rw [← HW.out]; refine (cr2.out).mono ?_; rintro e w4 ⟨xb, rfl, hov, hb4⟩; have HOV := hid hov; have HB4 := hid hb4; clear hb4 hov)
      | (go_at_call 45; refine (kernel_kk xb _ vm vj o _ HOV.out HOK.out).mono ?_; rintro e w5 ⟨m, ml, n, rfl, hS, hN, hb5⟩; have HOV5 := hid (ovAt_below HOV.out hb5); have y0 := HOV5.out.c0; have HS5 := hid hS; have HB5 := hid hb5; clear hS hN hb5)
      | (go_at_call 54; refine (in_any xb _ vm vj o _ o.safe _ HOV5.out HOK.out HOV5.out.ov.safe HOK.out.form).mono ?_; rintro e w6 ⟨m2, rfl, hm2, hS6, hb6⟩; have hl1 := fun ty => setW_len hS6 ty; have hl2 := fun ty => setW_len (setW_below HS5.out hb6 (setW_lt HS5.out)) ty; have HB6 := hid hb6; clear hm2 hS6 hb6)
      | fail)
    (try simp only [Exit.inBlock, Exit.then])
    refine bodyPost_ret (results_tmp3 rfl _ _ _) rfl ?_
    refine ⟨ret_eq HR.out.symm, ?_⟩
    have hb := HB.out.trans (HB4.out.mono HB.out.size)
    have hb' := hb.trans (HB5.out.mono hb.size)
    exact hb'.trans (HB6.out.mono hb'.size)

set_option maxHeartbeats 4000000 in
set_option maxRecDepth 100000 in
/-- the statements' set -/
theorem set_any (v : Value) (g : Grid) (w : World) (hg : ArgGrid w v g) :
    Calls Tryd.prog 35 #[v] w fun e w' => ∃ v', e = .returned v' ∧ OwnG w' w.heap.size v' ((g.take 5).map cutStrs) ∧ Below w.heap.size w w' := by
  obtain ⟨a, c, rfl, hl, hc⟩ := hg
  have HC := hid hc
  obtain ⟨N, hN⟩ : ∃ N, N = g.length := ⟨_, rfl⟩
  rw [← hN] at hl ⊢
  have HN := hid hN
  obtain ⟨T, hT⟩ : ∃ T, T = min N 5 := ⟨_, rfl⟩
  unfold maxLen at hl
  clear hc hN
  have HM : Hid (OwnG (w.alloc (.cells #[] 71)) w.heap.size (.slice (some ⟨w.heap.size, 0, none⟩) 0 0) []) := ownG_made w _ (Nat.le_refl _)
  have HB0 : Hid (Below w.heap.size w (w.alloc (.cells #[] 71))) := (Below.refl _ _).alloc (Nat.le_refl _) _
  go_enter Tryd.func35, Tryd.ntmps35
  go_wp2
  go_loopw [3, 4] (fun v iv wr => ∃ (i : Nat) (a : Option Addr) (n c : Nat), iv = .int .i64 i ∧ v = .slice a n c ∧ i ≤ T ∧ Hid (OwnG wr w.heap.size (.slice a n c) ((g.take i).map cutStrs)) ∧ Hid (Below w.heap.size w wr)) (fun _ iv _ => T - (intOf iv).toNat)
  case atStart => exact ⟨0, _, 0, 0, rfl, rfl, Nat.zero_le _, by rw [List.take_zero]; exact HM, HB0⟩
  case round =>
    obtain ⟨i, a2, n2, c2, rfl, rfl, hi, HT, HB⟩ := hrel
    by_cases hlt : i < T
    · have hiN : i < N := by omega
      have hi5 : i < 5 := by omega
      have hig : i < g.length := by rw [← HN.out]; exact hiN
      obtain ⟨ad, u, rfl, hadb, hcell, hst⟩ := HC.out i hig
      obtain ⟨ua, uc, rfl, _, _⟩ := id hst
      obtain ⟨un, hun⟩ : ∃ un, un = (g.getD i []).length := ⟨_, rfl⟩
      rw [← hun] at hcell hst
      have HAS := hid hst
      have e1 := (HB.out.cell (p := ad.add i) (by rw [add_block]; exact hadb)).trans hcell
      have HLN : Hid (((g.take i).map cutStrs).length < 1000000) := by show _ < _; simp; omega
      have HLX : Hid ((g.take i).map cutStrs ++ [cutStrs (g.getD i [])] = (g.take (i + 1)).map cutStrs) := by
        show _ = _
        rw [List.take_succ_eq_append_getElem hig, List.map_append, List.getD_eq_getElem?_getD, List.getElem?_eq_getElem hig]; rfl
      clear hun hcell hst hig
      go_wp2_with (first
        | (go_at_call 43; refine (strings_any (.slice ua un uc) (g.getD i []) _ (argStrs_below HAS.out HB.out)).mono ?_; rintro e w7 ⟨v7, rfl, ht7, hb7⟩; obtain ⟨q1, q2, q3, rfl⟩ := ownT_slice' ht7; have HT7 : Hid (OwnT w7 w.heap.size (.slice q1 q2 q3) (cutStrs (g.getD i []))) := ownT_mono ht7 HB.out.size; have HG7 := hid (ownG_below HT.out hb7); have HB7 : Hid (Below w.heap.size w w7) := HB.out.trans (hb7.mono HB.out.size); clear ht7 hb7)
        | (at_builtin; refine wpl_app_row (.slice q1 q2 q3) (cutStrs (g.getD i [])) _ _ (.slice a2 n2 c2) w.heap.size _ (by rfl) (by rfl) (by rfl) (by rfl) HG7.out HT7.out HLN.out HB7.out.size ?_; intro v' w8 ho8 hb8; rw [HLX.out] at ho8; obtain ⟨sa, sn, sc, rfl⟩ := ownG_slice' ho8; have HO8 := hid ho8; have HB8 : Hid (Below w.heap.size w w8) := HB7.out.trans hb8; clear ho8 hb8)
        | fail)
      go_roundw
      case rel => exact ⟨i + 1, _, _, _, by go_num, rfl, by omega, HO8, HB8⟩
      case measure => simp [intOf]; omega
    · obtain rfl : i = T := by omega
      have HTE : Hid (g.take i = g.take 5) := by
        have h1 := HN.out
        show _ = _
        rw [List.take_eq_take_iff]; omega
      by_cases hiN : i < N
      all_goals
        go_wp2
        go_ret
        refine ⟨_, rfl, ?_, HB.out⟩
        rw [← HTE.out]
        exact HT.out
end Go.Proofs.YtjonbhimbhidpaaDoor
