/-
  The law TemperKernels of chapter 6: its contract.
-/
import Derived.Test.YtjonbhimbhidpaaDoorWalkX
import Derived.Test.YtjonbhimbhidpaaDoorWalkZ
import Derived.Test.YtjonbhimbhidpaaDoorPlainF
namespace Go.Proofs.YtjonbhimbhidpaaDoor
open Go.RowKit

theorem keep3 {w3 : World} {u1 u2 u3 : Value} :
    ∀ w', Below (w3.heap.size + 1) (w3.alloc (.cells #[u1, u2, u3] 26)) w' → w'.cell? ⟨w3.heap.size, 0, none⟩ = some u1 ∧ w'.cell? ⟨w3.heap.size, 1, none⟩ = some u2 ∧ w'.cell? ⟨w3.heap.size, 2, none⟩ = some u3 := by
  intro w' hb
  obtain ⟨c0, c1, c2⟩ := cells3_of ((hb.block w3.heap.size (by omega)).trans (heap_alloc_new w3 _))
  exact ⟨c0, c1, c2⟩

set_option maxHeartbeats 4000000 in
set_option maxRecDepth 100000 in
theorem TemperKernels_ok (vs vm vj : Value) (o : Ov) (w : World) (ho : ArgOv w vs vm vj o) (hbig : o.Big) :
    Calls Tryd.prog 7 #[.agg #[vs, vm, vj]] w fun e w' => e = .returned (.bool true) ∧ Below w.heap.size w w' := by
  obtain ⟨q, hq⟩ : ∃ q, q = cutOv o := ⟨_, rfl⟩
  have HQN : Hid q.Num := by rw [hq]; exact num_cut hbig
  have hB1 := (Below.refl w.heap.size w).alloc (Nat.le_refl _) (.cells #[vs, vm, vj] 26)
  have CUT : Hid (Calls Tryd.prog 14 #[.agg #[vs, vm, vj]] (w.alloc (.cells #[vs, vm, vj] 26)) fun e w' => ∃ vs' vm' vj', e = .returned (.agg #[vs', vm', vj']) ∧ IsOv w' vs' vm' vj' q ∧ Below w.heap.size w w') := by
    refine (cut_any vs vm vj o _ (argOv_below ho hB1)).mono ?_
    rintro e w' ⟨vs', vm', vj', h1, h2, h3⟩
    exact ⟨vs', vm', vj', h1, by rw [hq]; exact h2, hB1.trans (h3.mono (by simp))⟩
  have FIN : Hid (∀ a1 a2 a3 c1 c2 c3 (w3 w' : World), Below w.heap.size w w3 → Below (w3.heap.size + 1) (w3.alloc (.cells #[.slice a1 q.safe.length c1, .slice a2 q.moves.length c2, .slice a3 q.jolts.length c3] 26)) w' → Below w.heap.size w w') := by
    intro a1 a2 a3 c1 c2 c3 w3 w' h3 h'
    have hz := h3.size
    exact (h3.alloc hz _).trans (h'.mono (by omega))
  clear hB1 ho hbig hq
  cases hv : q.valid
  · have AR : Hid (areaV q = .tuple #[.int .i64 0, .int .i64 0, .int .i64 1]) := by unfold areaV; rw [if_neg (by rw [hv]; decide)]; exact rfl
    have VA : Hid (q.valid = false) := hv
    clear hv
    go_enter Tryd.func7, Tryd.ntmps7
    go_wp2_with (first
      | (go_at_call 14; refine (CUT.out).mono ?_; rintro e w3 ⟨us, um, uj, rfl, ho3, hb3⟩; have HO3 := hid ho3; obtain ⟨⟨a1, c1, rfl, _, _⟩, ⟨a2, c2, rfl, _, _⟩, ⟨a3, c3, rfl, _, _⟩⟩ := id ho3; have KP : Hid _ := keep3 (w3 := w3) (u1 := .slice a1 q.safe.length c1) (u2 := .slice a2 q.moves.length c2) (u3 := .slice a3 q.jolts.length c3); have HO4 : Hid (∀ w', Below (w3.heap.size + 1) (w3.alloc (.cells #[.slice a1 q.safe.length c1, .slice a2 q.moves.length c2, .slice a3 q.jolts.length c3] 26)) w' → IsOv w' _ _ _ q) := fun w' hb => isOv_below (isOv_below ho3 ((Below.refl _ _).alloc (Nat.le_refl _) _)) (hb.mono (by simp)); have HB3 := hid hb3; clear ho3 hb3)
      | (go_at_call 25; refine (kernelP_any _ _ _ q _ (HO4.out _ (by repeat (first | exact Below.refl _ _ | (apply Hid.out; assumption) | refine Below.drew ?_ | refine below_drewN_r ?_ _))) HQN.out).mono ?_; rintro e w5 ⟨hb5, h5⟩; rw [if_neg (by rw [VA.out]; decide)] at h5; subst h5; have HB5 : Hid (Below (w3.heap.size + 1) (w3.alloc (.cells #[.slice a1 q.safe.length c1, .slice a2 q.moves.length c2, .slice a3 q.jolts.length c3] 26)) w5) := hb5.mono (by simp); obtain ⟨y0, y1, y2⟩ := KP.out w5 HB5.out; clear hb5)
      | (go_at_call 33; refine (area_any _ _ _ q _ (HO4.out _ (by repeat (first | exact Below.refl _ _ | (apply Hid.out; assumption) | refine Below.drew ?_ | refine below_drewN_r ?_ _))) HQN.out).mono ?_; rw [AR.out]; rintro e w6 ⟨rfl, hb6⟩; have HB6 : Hid (Below (w3.heap.size + 1) (w3.alloc (.cells #[.slice a1 q.safe.length c1, .slice a2 q.moves.length c2, .slice a3 q.jolts.length c3] 26)) w6) := Below.trans (b := _) (by repeat (first | exact Below.refl _ _ | (apply Hid.out; assumption) | refine Below.drew ?_ | refine below_drewN_r ?_ _)) (hb6.mono (by have := HB5.out.size; simp at this ⊢; omega)); obtain ⟨y0, y1, y2⟩ := KP.out w6 HB6.out; clear hb6)
      | (go_at_call 17; refine (valid_any _ _ _ q _ (HO4.out _ (by repeat (first | exact Below.refl _ _ | (apply Hid.out; assumption) | refine Below.drew ?_ | refine below_drewN_r ?_ _))) HQN.out).mono ?_; rw [VA.out]; rintro e w7 ⟨rfl, hb7⟩; have HB7 : Hid (Below (w3.heap.size + 1) (w3.alloc (.cells #[.slice a1 q.safe.length c1, .slice a2 q.moves.length c2, .slice a3 q.jolts.length c3] 26)) w7) := Below.trans (b := _) (by repeat (first | exact Below.refl _ _ | (apply Hid.out; assumption) | refine Below.drew ?_ | refine below_drewN_r ?_ _)) (hb7.mono (by have := HB6.out.size; simp at this ⊢; omega)); obtain ⟨y0, y1, y2⟩ := KP.out w7 HB7.out; clear hb7)
      | (go_at_call 19; refine (lives_any _).mono ?_; rintro e w11 ⟨rfl, hb11⟩; have HB11 : Hid (Below (w3.heap.size + 1) (w3.alloc (.cells #[.slice a1 q.safe.length c1, .slice a2 q.moves.length c2, .slice a3 q.jolts.length c3] 26)) w11) := Below.trans (b := _) (by repeat (first | exact Below.refl _ _ | (apply Hid.out; assumption) | refine Below.drew ?_ | refine below_drewN_r ?_ _)) (hb11.mono (by have := HB7.out.size; simp at this ⊢; omega)); obtain ⟨y0, y1, y2⟩ := KP.out w11 HB11.out; clear hb11)
      | fail)
    go_ret
    exact ⟨rfl, FIN.out _ _ _ _ _ _ _ _ HB3.out HB11.out⟩
  · have HOK : Hid q.Ok := ok_of_valid hv
    have VA : Hid (q.valid = true) := hv
    obtain ⟨n1, hn1⟩ : ∃ n1, n1 = (q.cells.filter (inG q.safe)).length := ⟨_, rfl⟩
    obtain ⟨n2, hn2⟩ : ∃ n2, n2 = (q.cells.filter q.KK).length := ⟨_, rfl⟩
    have AR : Hid (areaV q = .tuple #[.int .i64 n1, .int .i64 n2, .int .i64 0]) := by unfold areaV; rw [if_pos hv, ← hn1, ← hn2]; exact rfl
    have C1 : Hid (cntG q.safe = n1) := by rw [cntG_form q q.safe HOK.out.form, hn1]; exact rfl
    have C2 : Hid (cntG (q.gridOf q.KK) = n2) := by rw [cntG_gridOf, hn2]; exact rfl
    clear hv hn1 hn2
    go_enter Tryd.func7, Tryd.ntmps7
    go_wp2_with (first
      | (go_at_call 14; refine (CUT.out).mono ?_; rintro e w3 ⟨us, um, uj, rfl, ho3, hb3⟩; have HO3 := hid ho3; obtain ⟨⟨a1, c1, rfl, _, _⟩, ⟨a2, c2, rfl, _, _⟩, ⟨a3, c3, rfl, _, _⟩⟩ := id ho3; have KP : Hid _ := keep3 (w3 := w3) (u1 := .slice a1 q.safe.length c1) (u2 := .slice a2 q.moves.length c2) (u3 := .slice a3 q.jolts.length c3); have HO4 : Hid (∀ w', Below (w3.heap.size + 1) (w3.alloc (.cells #[.slice a1 q.safe.length c1, .slice a2 q.moves.length c2, .slice a3 q.jolts.length c3] 26)) w' → IsOv w' _ _ _ q) := fun w' hb => isOv_below (isOv_below ho3 ((Below.refl _ _).alloc (Nat.le_refl _) _)) (hb.mono (by simp)); have HB3 := hid hb3; clear ho3 hb3)
      | (go_at_call 25; refine (kernelP_any _ _ _ q _ (HO4.out _ (by repeat (first | exact Below.refl _ _ | (apply Hid.out; assumption) | refine Below.drew ?_ | refine below_drewN_r ?_ _))) HQN.out).mono ?_; rintro e w5 ⟨hb5, h5⟩; rw [if_pos VA.out] at h5; obtain ⟨v5, rfl, h5⟩ := h5; have HG5 := hid (gridOf_isGrid HOK.out h5); obtain ⟨k1, k2, rfl, _, _⟩ := id HG5.out; have HB5 : Hid (Below (w3.heap.size + 1) (w3.alloc (.cells #[.slice a1 q.safe.length c1, .slice a2 q.moves.length c2, .slice a3 q.jolts.length c3] 26)) w5) := hb5.mono (by simp); obtain ⟨y0, y1, y2⟩ := KP.out w5 HB5.out; clear hb5 h5)
      | (go_at_call 33; refine (area_any _ _ _ q _ (HO4.out _ (by repeat (first | exact Below.refl _ _ | (apply Hid.out; assumption) | refine Below.drew ?_ | refine below_drewN_r ?_ _))) HQN.out).mono ?_; rw [AR.out]; rintro e w6 ⟨rfl, hb6⟩; have HG6 := hid (isGrid_below HG5.out hb6); have HB6 : Hid (Below (w3.heap.size + 1) (w3.alloc (.cells #[.slice a1 q.safe.length c1, .slice a2 q.moves.length c2, .slice a3 q.jolts.length c3] 26)) w6) := Below.trans (b := _) (by repeat (first | exact Below.refl _ _ | (apply Hid.out; assumption) | refine Below.drew ?_ | refine below_drewN_r ?_ _)) (hb6.mono (by have := HB5.out.size; simp at this ⊢; omega)); obtain ⟨y0, y1, y2⟩ := KP.out w6 HB6.out; clear hb6)
      | (go_at_call 17; refine (valid_any _ _ _ q _ (HO4.out _ (by repeat (first | exact Below.refl _ _ | (apply Hid.out; assumption) | refine Below.drew ?_ | refine below_drewN_r ?_ _))) HQN.out).mono ?_; rw [VA.out]; rintro e w7 ⟨rfl, hb7⟩; have HG7 := hid (isGrid_below HG6.out hb7); have HB7 : Hid (Below (w3.heap.size + 1) (w3.alloc (.cells #[.slice a1 q.safe.length c1, .slice a2 q.moves.length c2, .slice a3 q.jolts.length c3] 26)) w7) := Below.trans (b := _) (by repeat (first | exact Below.refl _ _ | (apply Hid.out; assumption) | refine Below.drew ?_ | refine below_drewN_r ?_ _)) (hb7.mono (by have := HB6.out.size; simp at this ⊢; omega)); obtain ⟨y0, y1, y2⟩ := KP.out w7 HB7.out; clear hb7)
      | (go_at_call 23; refine (rKernel_any _ _ _ q _ (HO4.out _ (by repeat (first | exact Below.refl _ _ | (apply Hid.out; assumption) | refine Below.drew ?_ | refine below_drewN_r ?_ _))) HOK.out).mono ?_; rintro e w8 ⟨v8, rfl, hg8, hb8⟩; have HK8 := hid (gridOf_isGrid HOK.out hg8); have HG8 := hid (isGrid_below HG7.out hb8); have HB8 : Hid (Below (w3.heap.size + 1) (w3.alloc (.cells #[.slice a1 q.safe.length c1, .slice a2 q.moves.length c2, .slice a3 q.jolts.length c3] 26)) w8) := Below.trans (b := _) (by repeat (first | exact Below.refl _ _ | (apply Hid.out; assumption) | refine Below.drew ?_ | refine below_drewN_r ?_ _)) (hb8.mono (by have := HB7.out.size; simp at this ⊢; omega)); obtain ⟨y0, y1, y2⟩ := KP.out w8 HB8.out; clear hb8; clear hg8)
      | (go_at_call 31; refine (rSame_any _ _ (q.gridOf q.KK) (q.gridOf q.KK) _ HG8.out HK8.out).mono ?_; rw [decide_eq_true (rfl : q.gridOf q.KK = q.gridOf q.KK)]; rintro e w9 ⟨rfl, hb9⟩; have HK9 := hid (isGrid_below HK8.out hb9); have HB9 : Hid (Below (w3.heap.size + 1) (w3.alloc (.cells #[.slice a1 q.safe.length c1, .slice a2 q.moves.length c2, .slice a3 q.jolts.length c3] 26)) w9) := Below.trans (b := _) (by repeat (first | exact Below.refl _ _ | (apply Hid.out; assumption) | refine Below.drew ?_ | refine below_drewN_r ?_ _)) (hb9.mono (by have := HB8.out.size; simp at this ⊢; omega)); obtain ⟨y0, y1, y2⟩ := KP.out w9 HB9.out; clear hb9; have GS9 := hid (HO4.out _ HB9.out).safe)
      | (go_at_call 34; first | (with_reducible refine Calls.mono (count_any (.slice a1 q.safe.length c1) q.safe _ GS9.out HQN.out.short) ?_; rw [C1.out]; rintro e w10 ⟨rfl, rfl⟩) | (refine Calls.mono (count_any v8 (q.gridOf q.KK) _ HK9.out (short_form (form_gridOf q q.KK) HOK.out.c.2)) ?_; rw [C2.out]; rintro e w10 ⟨rfl, rfl⟩))
      | (go_at_call 19; refine (lives_any _).mono ?_; rintro e w11 ⟨rfl, hb11⟩; have HB11 : Hid (Below (w3.heap.size + 1) (w3.alloc (.cells #[.slice a1 q.safe.length c1, .slice a2 q.moves.length c2, .slice a3 q.jolts.length c3] 26)) w11) := Below.trans (b := _) (by repeat (first | exact Below.refl _ _ | (apply Hid.out; assumption) | refine Below.drew ?_ | refine below_drewN_r ?_ _)) (hb11.mono (by have := HB9.out.size; simp at this ⊢; omega)); obtain ⟨y0, y1, y2⟩ := KP.out w11 HB11.out; clear hb11)
      | fail)
    go_ret
    exact ⟨rfl, FIN.out _ _ _ _ _ _ _ _ HB3.out HB11.out⟩
end Go.Proofs.YtjonbhimbhidpaaDoor
