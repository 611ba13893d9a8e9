/-
  The law TemperHolds of chapter 6: its contract.
-/
import Derived.Test.YtjonbhimbhidpaaDoorWalkX
import Derived.Test.YtjonbhimbhidpaaDoorWalkAA
import Derived.Test.YtjonbhimbhidpaaDoorWalkAB
namespace Go.Proofs.YtjonbhimbhidpaaDoor
open Go.RowKit

theorem keep3h {w3 : World} {u1 u2 u3 : Value} :
    ∀ w', Below (w3.heap.size + 1) (w3.alloc (.cells #[u1, u2, u3] 26)) w' → w'.cell? ⟨w3.heap.size, 0, none⟩ = some u1 ∧ w'.cell? ⟨w3.heap.size, 1, none⟩ = some u2 ∧ w'.cell? ⟨w3.heap.size, 2, none⟩ = some u3 := by
  intro w' hb
  obtain ⟨c0, c1, c2⟩ := cells3_of ((hb.block w3.heap.size (by omega)).trans (heap_alloc_new w3 _))
  exact ⟨c0, c1, c2⟩
theorem cutG_isGrid {w : World} {B : Nat} {v : Value} {g : Grid} (h : OwnG w B v ((g.take 5).map cutStrs)) : IsGrid w v ((g.take 5).map cutStrs) := by
  refine ownG_isGrid h (by simp; omega) (fun p hp => ?_)
  rw [List.mem_map] at hp
  obtain ⟨q, _, rfl⟩ := hp
  rw [cutStrs_len]
  split <;> omega

set_option maxHeartbeats 4000000 in
set_option maxRecDepth 100000 in
theorem TemperHolds_ok (vs vm vj : Value) (o : Ov) (v : Value) (g : Grid) (w : World) (ho : ArgOv w vs vm vj o) (hbig : o.Big) (hg : ArgGrid w v g) :
    Calls Tryd.prog 8 #[.agg #[vs, vm, vj], v] w fun e w' => e = .returned (.bool true) ∧ Below w.heap.size w w' := by
  have HG := hid hg
  obtain ⟨q, hq⟩ : ∃ q, q = cutOv o := ⟨_, rfl⟩
  obtain ⟨s, hs⟩ : ∃ s, s = (g.take 5).map cutStrs := ⟨_, rfl⟩
  have HSE := hid hs
  have HSS : Hid (ShortG s) := by rw [hs]; exact short_cutG g 5
  have HQN : Hid q.Num := by rw [hq]; exact num_cut hbig
  have hB1 := (Below.refl w.heap.size w).alloc (Nat.le_refl _) (.cells #[vs, vm, vj] 26)
  have CUT : Hid (Calls Tryd.prog 14 #[.agg #[vs, vm, vj]] (w.alloc (.cells #[vs, vm, vj] 26)) fun e w' => ∃ vs' vm' vj', e = .returned (.agg #[vs', vm', vj']) ∧ IsOv w' vs' vm' vj' q ∧ Below w.heap.size w w') := by
    refine (cut_any vs vm vj o _ (argOv_below ho hB1)).mono ?_
    rintro e w' ⟨vs', vm', vj', h1, h2, h3⟩
    exact ⟨vs', vm', vj', h1, by rw [hq]; exact h2, hB1.trans (h3.mono (by simp))⟩
  have FIN : Hid (∀ a1 a2 a3 c1 c2 c3 (w3 w' : World), Below w.heap.size w w3 → Below (w3.heap.size + 1) (w3.alloc (.cells #[.slice a1 q.safe.length c1, .slice a2 q.moves.length c2, .slice a3 q.jolts.length c3] 26)) w' → Below w.heap.size w w') := by
    intro a1 a2 a3 c1 c2 c3 w3 w' h3 h'
    have hz := h3.size
    exact (h3.alloc hz _).trans (h'.mono (by omega))
  obtain ⟨av, cv, rfl, _, _⟩ := id hg
  clear hB1 ho hbig hq hg hs
  cases hv : q.valid
  · have HV : Hid (holdsV q s = .tuple #[.bool false, .int .i64 1]) := by unfold holdsV; rw [if_neg (by rw [hv]; decide)]; exact rfl
    have VA : Hid (q.valid = false) := hv
    clear hv
    go_enter Tryd.func8, Tryd.ntmps8
    go_wp2_with (first
      | (go_at_call 14; refine (CUT.out).mono ?_; rintro e w3 ⟨us, um, uj, rfl, ho3, hb3⟩; have HO3 := hid ho3; obtain ⟨⟨a1, c1, rfl, _, _⟩, ⟨a2, c2, rfl, _, _⟩, ⟨a3, c3, rfl, _, _⟩⟩ := id ho3; have HB3 := hid hb3; clear ho3 hb3)
      | (go_at_call 35; refine (set_any _ g _ (argGrid_below HG.out HB3.out)).mono ?_; rintro e w4 ⟨v4, rfl, hg4, hb4⟩; have hg4' := cutG_isGrid hg4; rw [← HSE.out] at hg4'; have HG4 := hid hg4'; clear hg4'; obtain ⟨ag, cg, rfl, _, _⟩ := id HG4.out; have KP : Hid _ := keep3h (w3 := w4) (u1 := .slice a1 q.safe.length c1) (u2 := .slice a2 q.moves.length c2) (u3 := .slice a3 q.jolts.length c3); have HO4 : Hid (∀ w', Below (w4.heap.size + 1) (w4.alloc (.cells #[.slice a1 q.safe.length c1, .slice a2 q.moves.length c2, .slice a3 q.jolts.length c3] 26)) w' → IsOv w' _ _ _ q) := fun w' hb => isOv_below (isOv_below (isOv_below HO3.out hb4) ((Below.refl _ _).alloc (Nat.le_refl _) _)) (hb.mono (by simp)); have HS4 : Hid (∀ w', Below (w4.heap.size + 1) (w4.alloc (.cells #[.slice a1 q.safe.length c1, .slice a2 q.moves.length c2, .slice a3 q.jolts.length c3] 26)) w' → IsGrid w' _ s) := fun w' hb => isGrid_below (isGrid_below HG4.out ((Below.refl _ _).alloc (Nat.le_refl _) _)) (hb.mono (by simp)); have HB4 : Hid (Below w.heap.size w w4) := HB3.out.trans (hb4.mono HB3.out.size); clear hg4 hb4)
      | (go_at_call 36; refine (holdsP_any _ _ _ _ q s _ (HO4.out _ (by repeat (first | exact Below.refl _ _ | (apply Hid.out; assumption) | refine Below.drew ?_ | refine below_drewN_r ?_ _))) HQN.out (HS4.out _ (by repeat (first | exact Below.refl _ _ | (apply Hid.out; assumption) | refine Below.drew ?_ | refine below_drewN_r ?_ _))) HSS.out).mono ?_; rw [HV.out]; rintro e w5 ⟨rfl, hb5⟩; have HB5 : Hid (Below (w4.heap.size + 1) (w4.alloc (.cells #[.slice a1 q.safe.length c1, .slice a2 q.moves.length c2, .slice a3 q.jolts.length c3] 26)) w5) := hb5.mono (by simp); obtain ⟨y0, y1, y2⟩ := KP.out w5 HB5.out; clear hb5)
      | (go_at_call 17; refine (valid_any _ _ _ q _ (HO4.out _ (by repeat (first | exact Below.refl _ _ | (apply Hid.out; assumption) | refine Below.drew ?_ | refine below_drewN_r ?_ _))) HQN.out).mono ?_; rw [VA.out]; rintro e w6 ⟨rfl, hb6⟩; have HB6 : Hid (Below (w4.heap.size + 1) (w4.alloc (.cells #[.slice a1 q.safe.length c1, .slice a2 q.moves.length c2, .slice a3 q.jolts.length c3] 26)) w6) := Below.trans (b := _) (by repeat (first | exact Below.refl _ _ | (apply Hid.out; assumption) | refine Below.drew ?_ | refine below_drewN_r ?_ _)) (hb6.mono (by have := HB5.out.size; simp at this ⊢; omega)); obtain ⟨y0, y1, y2⟩ := KP.out w6 HB6.out; clear hb6)
      | (go_at_call 19; refine (lives_any _).mono ?_; rintro e w11 ⟨rfl, hb11⟩; have HB11 : Hid (Below (w4.heap.size + 1) (w4.alloc (.cells #[.slice a1 q.safe.length c1, .slice a2 q.moves.length c2, .slice a3 q.jolts.length c3] 26)) w11) := Below.trans (b := _) (by repeat (first | exact Below.refl _ _ | (apply Hid.out; assumption) | refine Below.drew ?_ | refine below_drewN_r ?_ _)) (hb11.mono (by have := HB6.out.size; simp at this ⊢; omega)); obtain ⟨y0, y1, y2⟩ := KP.out w11 HB11.out; clear hb11)
      | fail)
    go_ret
    exact ⟨rfl, FIN.out _ _ _ _ _ _ _ _ HB4.out HB11.out⟩
  · have HOK : Hid q.Ok := ok_of_valid hv
    have VA : Hid (q.valid = true) := hv
    cases hf : formB q.P q.R q.C s
    · have HV : Hid (holdsV q s = .tuple #[.bool false, .int .i64 2]) := by unfold holdsV; rw [if_pos hv, if_neg (by rw [hf]; decide)]; exact rfl
      have FO : Hid (formB q.P q.R q.C s = false) := hf
      clear hv hf
      go_enter Tryd.func8, Tryd.ntmps8
      go_wp2_with (first
        | (go_at_call 14; refine (CUT.out).mono ?_; rintro e w3 ⟨us, um, uj, rfl, ho3, hb3⟩; have HO3 := hid ho3; obtain ⟨⟨a1, c1, rfl, _, _⟩, ⟨a2, c2, rfl, _, _⟩, ⟨a3, c3, rfl, _, _⟩⟩ := id ho3; have HB3 := hid hb3; clear ho3 hb3)
        | (go_at_call 35; refine (set_any _ g _ (argGrid_below HG.out HB3.out)).mono ?_; rintro e w4 ⟨v4, rfl, hg4, hb4⟩; have hg4' := cutG_isGrid hg4; rw [← HSE.out] at hg4'; have HG4 := hid hg4'; clear hg4'; obtain ⟨ag, cg, rfl, _, _⟩ := id HG4.out; have KP : Hid _ := keep3h (w3 := w4) (u1 := .slice a1 q.safe.length c1) (u2 := .slice a2 q.moves.length c2) (u3 := .slice a3 q.jolts.length c3); have HO4 : Hid (∀ w', Below (w4.heap.size + 1) (w4.alloc (.cells #[.slice a1 q.safe.length c1, .slice a2 q.moves.length c2, .slice a3 q.jolts.length c3] 26)) w' → IsOv w' _ _ _ q) := fun w' hb => isOv_below (isOv_below (isOv_below HO3.out hb4) ((Below.refl _ _).alloc (Nat.le_refl _) _)) (hb.mono (by simp)); have HS4 : Hid (∀ w', Below (w4.heap.size + 1) (w4.alloc (.cells #[.slice a1 q.safe.length c1, .slice a2 q.moves.length c2, .slice a3 q.jolts.length c3] 26)) w' → IsGrid w' _ s) := fun w' hb => isGrid_below (isGrid_below HG4.out ((Below.refl _ _).alloc (Nat.le_refl _) _)) (hb.mono (by simp)); have HB4 : Hid (Below w.heap.size w w4) := HB3.out.trans (hb4.mono HB3.out.size); clear hg4 hb4)
        | (go_at_call 36; refine (holdsP_any _ _ _ _ q s _ (HO4.out _ (by repeat (first | exact Below.refl _ _ | (apply Hid.out; assumption) | refine Below.drew ?_ | refine below_drewN_r ?_ _))) HQN.out (HS4.out _ (by repeat (first | exact Below.refl _ _ | (apply Hid.out; assumption) | refine Below.drew ?_ | refine below_drewN_r ?_ _))) HSS.out).mono ?_; rw [HV.out]; rintro e w5 ⟨rfl, hb5⟩; have HB5 : Hid (Below (w4.heap.size + 1) (w4.alloc (.cells #[.slice a1 q.safe.length c1, .slice a2 q.moves.length c2, .slice a3 q.jolts.length c3] 26)) w5) := hb5.mono (by simp); obtain ⟨y0, y1, y2⟩ := KP.out w5 HB5.out; clear hb5)
        | (go_at_call 17; refine (valid_any _ _ _ q _ (HO4.out _ (by repeat (first | exact Below.refl _ _ | (apply Hid.out; assumption) | refine Below.drew ?_ | refine below_drewN_r ?_ _))) HQN.out).mono ?_; rw [VA.out]; rintro e w6 ⟨rfl, hb6⟩; have HB6 : Hid (Below (w4.heap.size + 1) (w4.alloc (.cells #[.slice a1 q.safe.length c1, .slice a2 q.moves.length c2, .slice a3 q.jolts.length c3] 26)) w6) := Below.trans (b := _) (by repeat (first | exact Below.refl _ _ | (apply Hid.out; assumption) | refine Below.drew ?_ | refine below_drewN_r ?_ _)) (hb6.mono (by have := HB5.out.size; simp at this ⊢; omega)); obtain ⟨y0, y1, y2⟩ := KP.out w6 HB6.out; clear hb6)
        | (go_at_call 37; refine (form_any _ _ _ _ q s _ (HO4.out _ (by repeat (first | exact Below.refl _ _ | (apply Hid.out; assumption) | refine Below.drew ?_ | refine below_drewN_r ?_ _))) (dim_of_ok HOK.out) (HS4.out _ (by repeat (first | exact Below.refl _ _ | (apply Hid.out; assumption) | refine Below.drew ?_ | refine below_drewN_r ?_ _))) HSS.out).mono ?_; rw [FO.out]; rintro e w7 ⟨rfl, hb7⟩; have HB7 : Hid (Below (w4.heap.size + 1) (w4.alloc (.cells #[.slice a1 q.safe.length c1, .slice a2 q.moves.length c2, .slice a3 q.jolts.length c3] 26)) w7) := Below.trans (b := _) (by repeat (first | exact Below.refl _ _ | (apply Hid.out; assumption) | refine Below.drew ?_ | refine below_drewN_r ?_ _)) (hb7.mono (by have := HB6.out.size; simp at this ⊢; omega)); obtain ⟨y0, y1, y2⟩ := KP.out w7 HB7.out; clear hb7)
        | (go_at_call 19; refine (lives_any _).mono ?_; rintro e w11 ⟨rfl, hb11⟩; have HB11 : Hid (Below (w4.heap.size + 1) (w4.alloc (.cells #[.slice a1 q.safe.length c1, .slice a2 q.moves.length c2, .slice a3 q.jolts.length c3] 26)) w11) := Below.trans (b := _) (by repeat (first | exact Below.refl _ _ | (apply Hid.out; assumption) | refine Below.drew ?_ | refine below_drewN_r ?_ _)) (hb11.mono (by have := HB7.out.size; simp at this ⊢; omega)); obtain ⟨y0, y1, y2⟩ := KP.out w11 HB11.out; clear hb11)
        | fail)
      go_ret
      exact ⟨rfl, FIN.out _ _ _ _ _ _ _ _ HB4.out HB11.out⟩
    · have FO : Hid (formB q.P q.R q.C s = true) := hf
      cases hh : q.holds s
      all_goals
        have HH := hid hh
        have HV : Hid (holdsV q s = .tuple #[.bool (q.holds s), .int .i64 0]) := by unfold holdsV; rw [if_pos hv, if_pos hf]; exact rfl
        rw [hh] at HV
        clear hv hf hh
        go_enter Tryd.func8, Tryd.ntmps8
        go_wp2_with (first
          | (go_at_call 14; refine (CUT.out).mono ?_; rintro e w3 ⟨us, um, uj, rfl, ho3, hb3⟩; have HO3 := hid ho3; obtain ⟨⟨a1, c1, rfl, _, _⟩, ⟨a2, c2, rfl, _, _⟩, ⟨a3, c3, rfl, _, _⟩⟩ := id ho3; have HB3 := hid hb3; clear ho3 hb3)
          | (go_at_call 35; refine (set_any _ g _ (argGrid_below HG.out HB3.out)).mono ?_; rintro e w4 ⟨v4, rfl, hg4, hb4⟩; have hg4' := cutG_isGrid hg4; rw [← HSE.out] at hg4'; have HG4 := hid hg4'; clear hg4'; obtain ⟨ag, cg, rfl, _, _⟩ := id HG4.out; have KP : Hid _ := keep3h (w3 := w4) (u1 := .slice a1 q.safe.length c1) (u2 := .slice a2 q.moves.length c2) (u3 := .slice a3 q.jolts.length c3); have HO4 : Hid (∀ w', Below (w4.heap.size + 1) (w4.alloc (.cells #[.slice a1 q.safe.length c1, .slice a2 q.moves.length c2, .slice a3 q.jolts.length c3] 26)) w' → IsOv w' _ _ _ q) := fun w' hb => isOv_below (isOv_below (isOv_below HO3.out hb4) ((Below.refl _ _).alloc (Nat.le_refl _) _)) (hb.mono (by simp)); have HS4 : Hid (∀ w', Below (w4.heap.size + 1) (w4.alloc (.cells #[.slice a1 q.safe.length c1, .slice a2 q.moves.length c2, .slice a3 q.jolts.length c3] 26)) w' → IsGrid w' _ s) := fun w' hb => isGrid_below (isGrid_below HG4.out ((Below.refl _ _).alloc (Nat.le_refl _) _)) (hb.mono (by simp)); have HB4 : Hid (Below w.heap.size w w4) := HB3.out.trans (hb4.mono HB3.out.size); clear hg4 hb4)
          | (go_at_call 36; refine (holdsP_any _ _ _ _ q s _ (HO4.out _ (by repeat (first | exact Below.refl _ _ | (apply Hid.out; assumption) | refine Below.drew ?_ | refine below_drewN_r ?_ _))) HQN.out (HS4.out _ (by repeat (first | exact Below.refl _ _ | (apply Hid.out; assumption) | refine Below.drew ?_ | refine below_drewN_r ?_ _))) HSS.out).mono ?_; rw [HV.out]; rintro e w5 ⟨rfl, hb5⟩; have HB5 : Hid (Below (w4.heap.size + 1) (w4.alloc (.cells #[.slice a1 q.safe.length c1, .slice a2 q.moves.length c2, .slice a3 q.jolts.length c3] 26)) w5) := hb5.mono (by simp); obtain ⟨y0, y1, y2⟩ := KP.out w5 HB5.out; clear hb5)
          | (go_at_call 17; refine (valid_any _ _ _ q _ (HO4.out _ (by repeat (first | exact Below.refl _ _ | (apply Hid.out; assumption) | refine Below.drew ?_ | refine below_drewN_r ?_ _))) HQN.out).mono ?_; rw [VA.out]; rintro e w6 ⟨rfl, hb6⟩; have HB6 : Hid (Below (w4.heap.size + 1) (w4.alloc (.cells #[.slice a1 q.safe.length c1, .slice a2 q.moves.length c2, .slice a3 q.jolts.length c3] 26)) w6) := Below.trans (b := _) (by repeat (first | exact Below.refl _ _ | (apply Hid.out; assumption) | refine Below.drew ?_ | refine below_drewN_r ?_ _)) (hb6.mono (by have := HB5.out.size; simp at this ⊢; omega)); obtain ⟨y0, y1, y2⟩ := KP.out w6 HB6.out; clear hb6)
          | (go_at_call 37; refine (form_any _ _ _ _ q s _ (HO4.out _ (by repeat (first | exact Below.refl _ _ | (apply Hid.out; assumption) | refine Below.drew ?_ | refine below_drewN_r ?_ _))) (dim_of_ok HOK.out) (HS4.out _ (by repeat (first | exact Below.refl _ _ | (apply Hid.out; assumption) | refine Below.drew ?_ | refine below_drewN_r ?_ _))) HSS.out).mono ?_; rw [FO.out]; rintro e w7 ⟨rfl, hb7⟩; have HB7 : Hid (Below (w4.heap.size + 1) (w4.alloc (.cells #[.slice a1 q.safe.length c1, .slice a2 q.moves.length c2, .slice a3 q.jolts.length c3] 26)) w7) := Below.trans (b := _) (by repeat (first | exact Below.refl _ _ | (apply Hid.out; assumption) | refine Below.drew ?_ | refine below_drewN_r ?_ _)) (hb7.mono (by have := HB6.out.size; simp at this ⊢; omega)); obtain ⟨y0, y1, y2⟩ := KP.out w7 HB7.out; clear hb7)
          | (go_at_call 38; refine (rHolds_any _ _ _ _ q s _ (HO4.out _ (by repeat (first | exact Below.refl _ _ | (apply Hid.out; assumption) | refine Below.drew ?_ | refine below_drewN_r ?_ _))) HOK.out (HS4.out _ (by repeat (first | exact Below.refl _ _ | (apply Hid.out; assumption) | refine Below.drew ?_ | refine below_drewN_r ?_ _))) FO.out).mono ?_; rw [HH.out]; rintro e w8 ⟨rfl, hb8⟩; have HB8 : Hid (Below (w4.heap.size + 1) (w4.alloc (.cells #[.slice a1 q.safe.length c1, .slice a2 q.moves.length c2, .slice a3 q.jolts.length c3] 26)) w8) := Below.trans (b := _) (by repeat (first | exact Below.refl _ _ | (apply Hid.out; assumption) | refine Below.drew ?_ | refine below_drewN_r ?_ _)) (hb8.mono (by have := HB7.out.size; simp at this ⊢; omega)); obtain ⟨y0, y1, y2⟩ := KP.out w8 HB8.out; clear hb8)
          | (go_at_call 19; refine (lives_any _).mono ?_; rintro e w11 ⟨rfl, hb11⟩; have HB11 : Hid (Below (w4.heap.size + 1) (w4.alloc (.cells #[.slice a1 q.safe.length c1, .slice a2 q.moves.length c2, .slice a3 q.jolts.length c3] 26)) w11) := Below.trans (b := _) (by repeat (first | exact Below.refl _ _ | (apply Hid.out; assumption) | refine Below.drew ?_ | refine below_drewN_r ?_ _)) (hb11.mono (by have := HB8.out.size; simp at this ⊢; omega)); obtain ⟨y0, y1, y2⟩ := KP.out w11 HB11.out; clear hb11)
          | fail)
        go_ret
        exact ⟨rfl, FIN.out _ _ _ _ _ _ _ _ HB4.out HB11.out⟩
end Go.Proofs.YtjonbhimbhidpaaDoor
