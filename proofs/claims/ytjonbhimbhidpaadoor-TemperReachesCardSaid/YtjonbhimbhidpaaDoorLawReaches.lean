/-
  The law TemperReaches of chapter 6: its contract.
-/
import Derived.Test.YtjonbhimbhidpaaDoorWalkAI
namespace Go.Proofs.YtjonbhimbhidpaaDoor
open Go.RowKit
section
variable {md : Region.Mode} {ops : Array Oper} {Q : Exit → Act → World → Prop} {S : World → Prop} {fuel : Nat} {listed : Array Bool} {a : Act} {w : World} {i : Nat} {o : Oper} {rs : List Nat}
theorem node_f42 (d : Nat) (k1 k2 k3 : Nat) (v1 v2 v3 : Value) (hi : ops[i]? = some o) (hgd : Region.wanted o (yielded ops a.tmps) = true) (ho : o.op = .call { callee := .value (.func 42), args := #[.tmp k1, .tmp k2, .tmp k3], argTypes := #[26, 36, 3] }) (hd : o.dst = some d)
    (hp1 : a.tmps[k1]?.getD undef = v1)    (hp2 : a.tmps[k2]?.getD undef = v2)    (hp3 : a.tmps[k3]?.getD undef = v3)
    (h : Calls Tryd.prog 42 #[v1, v2, v3] w fun e w' => ∃ u, e = .returned u ∧ S w' ∧ wpAnyH Tryd.prog md ops Q S fuel (listed.setIfInBounds i true) (a.put (some d) u) w')
    (hs : AllReadyH Tryd.prog md ops Q S fuel listed a w rs) : AllReadyH Tryd.prog md ops Q S fuel listed a w (i :: rs) := by
  refine AllReadyH.cons hi (fun K hK => ?_) hs
  rw [if_pos hgd]
  unfold Oper.wp execOp
  simp [ho, go_sem, hp1, hp2, hp3]
  refine h.mono ?_
  rintro e w' ⟨u, rfl, h1, h2⟩
  have hk := hK.out _ _ h1 (fun _ => h2)
  rw [hd]
  exact hk
theorem node_f19 (d : Nat) (hi : ops[i]? = some o) (hgd : Region.wanted o (yielded ops a.tmps) = true) (ho : o.op = .call { callee := .value (.func 19), args := #[], argTypes := #[] }) (hd : o.dst = some d)

    (h : Calls Tryd.prog 19 #[] w fun e w' => ∃ u, e = .returned u ∧ S w' ∧ wpAnyH Tryd.prog md ops Q S fuel (listed.setIfInBounds i true) (a.put (some d) u) w')
    (hs : AllReadyH Tryd.prog md ops Q S fuel listed a w rs) : AllReadyH Tryd.prog md ops Q S fuel listed a w (i :: rs) := by
  refine AllReadyH.cons hi (fun K hK => ?_) hs
  rw [if_pos hgd]
  unfold Oper.wp execOp
  simp [ho, go_sem]
  refine h.mono ?_
  rintro e w' ⟨u, rfl, h1, h2⟩
  have hk := hK.out _ _ h1 (fun _ => h2)
  rw [hd]
  exact hk
end
theorem cutG_isGrid2 {w : World} {B : Nat} {v : Value} {g : Grid} (h : OwnG w B v ((g.take 5).map cutStrs)) : IsGrid w v ((g.take 5).map cutStrs) := by
  refine ownG_isGrid h (by simp; omega) (fun p hp => ?_)
  rw [List.mem_map] at hp
  obtain ⟨q, _, rfl⟩ := hp
  rw [cutStrs_len]
  split <;> omega
set_option maxHeartbeats 16000000 in
set_option maxRecDepth 100000 in
theorem TemperReaches_ok (vs vm vj : Value) (o : Ov) (v : Value) (g : Grid) (c : Sp) (w : World) (ho : ArgOv w vs vm vj o) (hbig : o.Big) (hg : ArgGrid w v g) :
    Calls Tryd.prog 12 #[.agg #[vs, vm, vj], v, spv c] w fun e w' => e = .returned (.bool true) ∧ Below w.heap.size w w' := by
  obtain ⟨p, x, y⟩ := c
  obtain ⟨q, hq⟩ : ∃ q, q = cutOv o := ⟨_, rfl⟩
  obtain ⟨s, hs⟩ : ∃ s, s = (g.take 5).map cutStrs := ⟨_, rfl⟩
  have HSE := hid hs
  have HSS : Hid (ShortG s) := by rw [hs]; exact short_cutG g 5
  have HQN : Hid q.Num := by rw [hq]; exact num_cut hbig
  obtain ⟨hB1, hz2, k0, k1⟩ := alloc2 w (.cells #[vs, vm, vj] 26) (.cells #[.int .i64 p, .int .i64 x, .int .i64 y] 28)
  obtain ⟨V, hV⟩ : ∃ V, V = ((w.alloc (.cells #[vs, vm, vj] 26)).alloc (.cells #[.int .i64 p, .int .i64 x, .int .i64 y] 28)) := ⟨_, rfl⟩
  rw [← hV] at hB1 hz2 k0 k1
  have HV0 := hid hV
  have HK1 := hid k1
  have HB1 := hid hB1
  have CUT : Hid (Calls Tryd.prog 14 #[.agg #[vs, vm, vj]] V fun e w' => ∃ vs' vm' vj', e = .returned (.agg #[vs', vm', vj']) ∧ IsOv w' vs' vm' vj' q ∧ Below V.heap.size V w') := by
    refine (cut_any vs vm vj o _ (argOv_below ho hB1)).mono ?_
    rintro e w' ⟨vs', vm', vj', h1, h2, h3⟩
    exact ⟨vs', vm', vj', h1, by rw [hq]; exact h2, h3⟩
  have HG := hid (argGrid_below hg hB1)
  obtain ⟨u0, u1, u2⟩ := cells3_of k0
  obtain ⟨av, cv, rfl, _, _⟩ := id hg
  unfold spv
  simp only
  clear ho hbig hq hg hs hB1 hV k0 k1
  go_enter Tryd.func12, Tryd.ntmps12
  go_upto_region 1 with fail
  rw [← HV0.out]
  go_upto_region 2 with (first
    | (go_at_call 14; refine (CUT.out).mono ?_; rintro e w3 ⟨us, um, uj, rfl, ho3, hb3⟩; have HO3 := hid ho3; obtain ⟨⟨a1, c1, rfl, _, _⟩, ⟨a2, c2, rfl, _, _⟩, ⟨a3, c3, rfl, _, _⟩⟩ := id ho3; have HB3 := hid hb3; clear ho3 hb3)
    | (go_at_call 35; refine (set_any _ g _ (argGrid_below HG.out HB3.out)).mono ?_; rintro e w4 ⟨v4, rfl, hg4, hb4⟩; have hg4' := cutG_isGrid2 hg4; rw [← HSE.out] at hg4'; have HG4 := hid hg4'; clear hg4'; obtain ⟨ag, cg, rfl, _, _⟩ := id HG4.out; have HO4 := hid (isOv_below HO3.out hb4); have HB4 : Hid (Below V.heap.size V w4) := hid (below_step HB3.out hb4); clear hg4 hb4)
    | fail)
  clear u0 u1 u2
  obtain ⟨X, hX⟩ : ∃ X, X = w4.heap.size := ⟨_, rfl⟩
  obtain ⟨C0, hC0⟩ : ∃ C0, C0 = w.heap.size + 1 := ⟨_, rfl⟩
  obtain ⟨W, hW⟩ : ∃ W, W = (w4.alloc (.cells #[.slice a1 q.safe.length c1, .slice a2 q.moves.length c2, .slice a3 q.jolts.length c3] 26)) := ⟨_, rfl⟩
  rw [← hX, ← hC0, ← hW]
  obtain ⟨sn, hsn⟩ : ∃ sn, sn = s.length := ⟨_, rfl⟩
  rw [← hsn] at HG4 ⊢
  have h4W : Below w4.heap.size w4 W := by rw [hW]; exact (Below.refl _ _).alloc (Nat.le_refl _) _
  have hxw : W.heap[X]? = some (.cells #[.slice a1 q.safe.length c1, .slice a2 q.moves.length c2, .slice a3 q.jolts.length c3] 26) := by rw [hW, hX]; exact heap_alloc_new _ _
  have hcw : W.heap[C0]? = some (.cells #[.int .i64 p, .int .i64 x, .int .i64 y] 28) := by
    rw [hC0]
    exact ((HB4.out.trans (h4W.mono HB4.out.size)).block _ (heap_lt HK1.out)).trans HK1.out
  have KP : Hid (∀ w', Below W.heap.size W w' → w'.cell? ⟨X, 0, none⟩ = some (.slice a1 q.safe.length c1) ∧ w'.cell? ⟨X, 1, none⟩ = some (.slice a2 q.moves.length c2) ∧ w'.cell? ⟨X, 2, none⟩ = some (.slice a3 q.jolts.length c3) ∧ w'.cell? ⟨C0, 0, none⟩ = some (.int .i64 p) ∧ w'.cell? ⟨C0, 1, none⟩ = some (.int .i64 x) ∧ w'.cell? ⟨C0, 2, none⟩ = some (.int .i64 y)) := by
    intro w' hb
    obtain ⟨e0, e1, e2⟩ := cells3_of ((hb.block X (heap_lt hxw)).trans hxw)
    exact ⟨e0, e1, e2, cells3_of ((hb.block C0 (heap_lt hcw)).trans hcw)⟩
  have HO : Hid (∀ w', Below W.heap.size W w' → IsOv w' (.slice a1 q.safe.length c1) (.slice a2 q.moves.length c2) (.slice a3 q.jolts.length c3) q) := fun w' hb => isOv_below (isOv_below HO4.out h4W) hb
  have HS : Hid (∀ w', Below W.heap.size W w' → IsGrid w' (.slice ag sn cg) s) := fun w' hb => isGrid_below (isGrid_below HG4.out h4W) hb
  have FIN : Hid (∀ w', Below W.heap.size W w' → Below w.heap.size w w') := fun w' hb => HB1.out.trans ((HB4.out.trans ((h4W.trans (hb.mono h4W.size)).mono HB4.out.size)).mono HB1.out.size)
  clear hX hC0 hW hsn h4W hxw hcw hz2
  have HBW : Hid (Below W.heap.size W W) := Below.refl _ _
  obtain ⟨x0, x1, x2, y0, y1, y2⟩ := KP.out W HBW.out
  cases hv : q.valid
  · have HRV : reachV q s (p, x, y) = .tuple #[.int .i64 0, .int .i64 0, .int .i64 1] := by unfold reachV; rw [if_neg (by rw [hv]; simp)]
    have CR : Hid (∀ w', Below W.heap.size W w' → Calls Tryd.prog 40 #[.agg #[.slice a1 q.safe.length c1, .slice a2 q.moves.length c2, .slice a3 q.jolts.length c3], .slice ag sn cg, .agg #[.int .i64 p, .int .i64 x, .int .i64 y]] w' fun e w'' => e = .returned (.tuple #[.int .i64 0, .int .i64 0, .int .i64 1]) ∧ Below w'.heap.size w' w'') := fun w' hb => by
      have h := reachP_any _ _ _ _ q s (p, x, y) w' (HO.out w' hb) HQN.out (HS.out w' hb) HSS.out
      rw [HRV] at h
      exact h
    have CV : Hid (∀ w', Below W.heap.size W w' → Calls Tryd.prog 17 #[.agg #[.slice a1 q.safe.length c1, .slice a2 q.moves.length c2, .slice a3 q.jolts.length c3]] w' fun e w'' => e = .returned (.bool false) ∧ Below w'.heap.size w' w'') := fun w' hb => by
      have h := valid_any _ _ _ q w' (HO.out w' hb) HQN.out
      rw [hv] at h
      exact h
    clear HRV hv
    go_wp2_with (first
      | (go_at_call 40; with_reducible refine (CR.out _ (by repeat (first | exact Below.refl _ _ | (apply Hid.out; assumption) | refine Below.drew ?_ | refine below_drewN_r ?_ _))).mono ?_; rintro e w5 ⟨rfl, hb5⟩; have HB5 : Hid (Below W.heap.size W w5) := hid (below_step (by repeat (first | exact Below.refl _ _ | (apply Hid.out; assumption) | refine Below.drew ?_ | refine below_drewN_r ?_ _)) hb5); clear hb5; clear x0 x1 x2 y0 y1 y2; obtain ⟨x0, x1, x2, y0, y1, y2⟩ := KP.out _ HB5.out; skip)
      | (go_at_call 17; with_reducible refine (CV.out _ (by repeat (first | exact Below.refl _ _ | (apply Hid.out; assumption) | refine Below.drew ?_ | refine below_drewN_r ?_ _))).mono ?_; rintro e w6 ⟨rfl, hb6⟩; have HB6 : Hid (Below W.heap.size W w6) := hid (below_step (by repeat (first | exact Below.refl _ _ | (apply Hid.out; assumption) | refine Below.drew ?_ | refine below_drewN_r ?_ _)) hb6); clear hb6; clear x0 x1 x2 y0 y1 y2; obtain ⟨x0, x1, x2, y0, y1, y2⟩ := KP.out _ HB6.out; skip)
      | (go_at_call 19; with_reducible refine (lives_any _).mono ?_; rintro e w12 ⟨rfl, hb12⟩; have HB12 : Hid (Below W.heap.size W w12) := hid (below_step (by repeat (first | exact Below.refl _ _ | (apply Hid.out; assumption) | refine Below.drew ?_ | refine below_drewN_r ?_ _)) hb12); clear hb12; clear x0 x1 x2 y0 y1 y2; obtain ⟨x0, x1, x2, y0, y1, y2⟩ := KP.out _ HB12.out; skip)
      | fail)
    go_ret
    exact ⟨rfl, FIN.out _ HB12.out⟩
  · have HOK : Hid q.Ok := ok_of_valid hv
    cases hx : q.ex (p, x, y)
    · have HRV : reachV q s (p, x, y) = .tuple #[.int .i64 0, .int .i64 0, .int .i64 1] := by unfold reachV; rw [if_neg (by rw [hx, Bool.and_false]; simp)]
      have CR : Hid (∀ w', Below W.heap.size W w' → Calls Tryd.prog 40 #[.agg #[.slice a1 q.safe.length c1, .slice a2 q.moves.length c2, .slice a3 q.jolts.length c3], .slice ag sn cg, .agg #[.int .i64 p, .int .i64 x, .int .i64 y]] w' fun e w'' => e = .returned (.tuple #[.int .i64 0, .int .i64 0, .int .i64 1]) ∧ Below w'.heap.size w' w'') := fun w' hb => by
        have h := reachP_any _ _ _ _ q s (p, x, y) w' (HO.out w' hb) HQN.out (HS.out w' hb) HSS.out
        rw [HRV] at h
        exact h
      have CV : Hid (∀ w', Below W.heap.size W w' → Calls Tryd.prog 17 #[.agg #[.slice a1 q.safe.length c1, .slice a2 q.moves.length c2, .slice a3 q.jolts.length c3]] w' fun e w'' => e = .returned (.bool true) ∧ Below w'.heap.size w' w'') := fun w' hb => by
        have h := valid_any _ _ _ q w' (HO.out w' hb) HQN.out
        rw [hv] at h
        exact h
      have CE : Hid (∀ w', Below W.heap.size W w' → Calls Tryd.prog 18 #[.agg #[.slice a1 q.safe.length c1, .slice a2 q.moves.length c2, .slice a3 q.jolts.length c3], .agg #[.int .i64 p, .int .i64 x, .int .i64 y]] w' fun e w'' => e = .returned (.bool false) ∧ Below w'.heap.size w' w'') := fun w' hb => by
        have h := exists_any _ _ _ q (p, x, y) w' (HO.out w' hb) (dim_of_ok HOK.out)
        rw [hx] at h
        exact h
      clear HRV hv hx
      go_wp2_with (first
        | (go_at_call 40; with_reducible refine (CR.out _ (by repeat (first | exact Below.refl _ _ | (apply Hid.out; assumption) | refine Below.drew ?_ | refine below_drewN_r ?_ _))).mono ?_; rintro e w5 ⟨rfl, hb5⟩; have HB5 : Hid (Below W.heap.size W w5) := hid (below_step (by repeat (first | exact Below.refl _ _ | (apply Hid.out; assumption) | refine Below.drew ?_ | refine below_drewN_r ?_ _)) hb5); clear hb5; clear x0 x1 x2 y0 y1 y2; obtain ⟨x0, x1, x2, y0, y1, y2⟩ := KP.out _ HB5.out; skip)
        | (go_at_call 17; with_reducible refine (CV.out _ (by repeat (first | exact Below.refl _ _ | (apply Hid.out; assumption) | refine Below.drew ?_ | refine below_drewN_r ?_ _))).mono ?_; rintro e w6 ⟨rfl, hb6⟩; have HB6 : Hid (Below W.heap.size W w6) := hid (below_step (by repeat (first | exact Below.refl _ _ | (apply Hid.out; assumption) | refine Below.drew ?_ | refine below_drewN_r ?_ _)) hb6); clear hb6; clear x0 x1 x2 y0 y1 y2; obtain ⟨x0, x1, x2, y0, y1, y2⟩ := KP.out _ HB6.out; skip)
        | (go_at_call 18; with_reducible refine (CE.out _ (by repeat (first | exact Below.refl _ _ | (apply Hid.out; assumption) | refine Below.drew ?_ | refine below_drewN_r ?_ _))).mono ?_; rintro e w7 ⟨rfl, hb7⟩; have HB7 : Hid (Below W.heap.size W w7) := hid (below_step (by repeat (first | exact Below.refl _ _ | (apply Hid.out; assumption) | refine Below.drew ?_ | refine below_drewN_r ?_ _)) hb7); clear hb7; clear x0 x1 x2 y0 y1 y2; obtain ⟨x0, x1, x2, y0, y1, y2⟩ := KP.out _ HB7.out; skip)
        | (go_at_call 19; with_reducible refine (lives_any _).mono ?_; rintro e w12 ⟨rfl, hb12⟩; have HB12 : Hid (Below W.heap.size W w12) := hid (below_step (by repeat (first | exact Below.refl _ _ | (apply Hid.out; assumption) | refine Below.drew ?_ | refine below_drewN_r ?_ _)) hb12); clear hb12; clear x0 x1 x2 y0 y1 y2; obtain ⟨x0, x1, x2, y0, y1, y2⟩ := KP.out _ HB12.out; skip)
        | fail)
      go_ret
      exact ⟨rfl, FIN.out _ HB12.out⟩
    · have HEX := hid hx
      cases hf : formB q.P q.R q.C s
      · have HRV : reachV q s (p, x, y) = .tuple #[.int .i64 0, .int .i64 0, .int .i64 2] := by unfold reachV; rw [if_pos (by rw [hv, hx]; rfl), if_neg (by rw [hf]; simp)]
        have CR : Hid (∀ w', Below W.heap.size W w' → Calls Tryd.prog 40 #[.agg #[.slice a1 q.safe.length c1, .slice a2 q.moves.length c2, .slice a3 q.jolts.length c3], .slice ag sn cg, .agg #[.int .i64 p, .int .i64 x, .int .i64 y]] w' fun e w'' => e = .returned (.tuple #[.int .i64 0, .int .i64 0, .int .i64 2]) ∧ Below w'.heap.size w' w'') := fun w' hb => by
          have h := reachP_any _ _ _ _ q s (p, x, y) w' (HO.out w' hb) HQN.out (HS.out w' hb) HSS.out
          rw [HRV] at h
          exact h
        have CV : Hid (∀ w', Below W.heap.size W w' → Calls Tryd.prog 17 #[.agg #[.slice a1 q.safe.length c1, .slice a2 q.moves.length c2, .slice a3 q.jolts.length c3]] w' fun e w'' => e = .returned (.bool true) ∧ Below w'.heap.size w' w'') := fun w' hb => by
          have h := valid_any _ _ _ q w' (HO.out w' hb) HQN.out
          rw [hv] at h
          exact h
        have CE : Hid (∀ w', Below W.heap.size W w' → Calls Tryd.prog 18 #[.agg #[.slice a1 q.safe.length c1, .slice a2 q.moves.length c2, .slice a3 q.jolts.length c3], .agg #[.int .i64 p, .int .i64 x, .int .i64 y]] w' fun e w'' => e = .returned (.bool true) ∧ Below w'.heap.size w' w'') := fun w' hb => by
          have h := exists_any _ _ _ q (p, x, y) w' (HO.out w' hb) (dim_of_ok HOK.out)
          rw [hx] at h
          exact h
        have CF : Hid (∀ w', Below W.heap.size W w' → Calls Tryd.prog 37 #[.agg #[.slice a1 q.safe.length c1, .slice a2 q.moves.length c2, .slice a3 q.jolts.length c3], .slice ag sn cg] w' fun e w'' => e = .returned (.bool false) ∧ Below w'.heap.size w' w'') := fun w' hb => by
          have h := form_any _ _ _ _ q s w' (HO.out w' hb) (dim_of_ok HOK.out) (HS.out w' hb) HSS.out
          rw [hf] at h
          exact h
        clear HRV hv hx hf
        go_wp2_with (first
          | (go_at_call 40; with_reducible refine (CR.out _ (by repeat (first | exact Below.refl _ _ | (apply Hid.out; assumption) | refine Below.drew ?_ | refine below_drewN_r ?_ _))).mono ?_; rintro e w5 ⟨rfl, hb5⟩; have HB5 : Hid (Below W.heap.size W w5) := hid (below_step (by repeat (first | exact Below.refl _ _ | (apply Hid.out; assumption) | refine Below.drew ?_ | refine below_drewN_r ?_ _)) hb5); clear hb5; clear x0 x1 x2 y0 y1 y2; obtain ⟨x0, x1, x2, y0, y1, y2⟩ := KP.out _ HB5.out; skip)
          | (go_at_call 17; with_reducible refine (CV.out _ (by repeat (first | exact Below.refl _ _ | (apply Hid.out; assumption) | refine Below.drew ?_ | refine below_drewN_r ?_ _))).mono ?_; rintro e w6 ⟨rfl, hb6⟩; have HB6 : Hid (Below W.heap.size W w6) := hid (below_step (by repeat (first | exact Below.refl _ _ | (apply Hid.out; assumption) | refine Below.drew ?_ | refine below_drewN_r ?_ _)) hb6); clear hb6; clear x0 x1 x2 y0 y1 y2; obtain ⟨x0, x1, x2, y0, y1, y2⟩ := KP.out _ HB6.out; skip)
          | (go_at_call 18; with_reducible refine (CE.out _ (by repeat (first | exact Below.refl _ _ | (apply Hid.out; assumption) | refine Below.drew ?_ | refine below_drewN_r ?_ _))).mono ?_; rintro e w7 ⟨rfl, hb7⟩; have HB7 : Hid (Below W.heap.size W w7) := hid (below_step (by repeat (first | exact Below.refl _ _ | (apply Hid.out; assumption) | refine Below.drew ?_ | refine below_drewN_r ?_ _)) hb7); clear hb7; clear x0 x1 x2 y0 y1 y2; obtain ⟨x0, x1, x2, y0, y1, y2⟩ := KP.out _ HB7.out; skip)
          | (go_at_call 37; with_reducible refine (CF.out _ (by repeat (first | exact Below.refl _ _ | (apply Hid.out; assumption) | refine Below.drew ?_ | refine below_drewN_r ?_ _))).mono ?_; rintro e w8 ⟨rfl, hb8⟩; have HB8 : Hid (Below W.heap.size W w8) := hid (below_step (by repeat (first | exact Below.refl _ _ | (apply Hid.out; assumption) | refine Below.drew ?_ | refine below_drewN_r ?_ _)) hb8); clear hb8; clear x0 x1 x2 y0 y1 y2; obtain ⟨x0, x1, x2, y0, y1, y2⟩ := KP.out _ HB8.out; skip)
          | (go_at_call 19; with_reducible refine (lives_any _).mono ?_; rintro e w12 ⟨rfl, hb12⟩; have HB12 : Hid (Below W.heap.size W w12) := hid (below_step (by repeat (first | exact Below.refl _ _ | (apply Hid.out; assumption) | refine Below.drew ?_ | refine below_drewN_r ?_ _)) hb12); clear hb12; clear x0 x1 x2 y0 y1 y2; obtain ⟨x0, x1, x2, y0, y1, y2⟩ := KP.out _ HB12.out; skip)
          | fail)
        go_ret
        exact ⟨rfl, FIN.out _ HB12.out⟩
      · cases hnn : q.NN s (p, x, y) with
        | none =>
          have HRV : reachV q s (p, x, y) = .tuple #[.int .i64 0, .int .i64 0, .int .i64 5] := by rw [reachV_val (by rw [hv, hx]; rfl) hf, hnn]
          have CR : Hid (∀ w', Below W.heap.size W w' → Calls Tryd.prog 40 #[.agg #[.slice a1 q.safe.length c1, .slice a2 q.moves.length c2, .slice a3 q.jolts.length c3], .slice ag sn cg, .agg #[.int .i64 p, .int .i64 x, .int .i64 y]] w' fun e w'' => e = .returned (.tuple #[.int .i64 0, .int .i64 0, .int .i64 5]) ∧ Below w'.heap.size w' w'') := fun w' hb => by
            have h := reachP_any _ _ _ _ q s (p, x, y) w' (HO.out w' hb) HQN.out (HS.out w' hb) HSS.out
            rw [HRV] at h
            exact h
          have CV : Hid (∀ w', Below W.heap.size W w' → Calls Tryd.prog 17 #[.agg #[.slice a1 q.safe.length c1, .slice a2 q.moves.length c2, .slice a3 q.jolts.length c3]] w' fun e w'' => e = .returned (.bool true) ∧ Below w'.heap.size w' w'') := fun w' hb => by
            have h := valid_any _ _ _ q w' (HO.out w' hb) HQN.out
            rw [hv] at h
            exact h
          have CE : Hid (∀ w', Below W.heap.size W w' → Calls Tryd.prog 18 #[.agg #[.slice a1 q.safe.length c1, .slice a2 q.moves.length c2, .slice a3 q.jolts.length c3], .agg #[.int .i64 p, .int .i64 x, .int .i64 y]] w' fun e w'' => e = .returned (.bool true) ∧ Below w'.heap.size w' w'') := fun w' hb => by
            have h := exists_any _ _ _ q (p, x, y) w' (HO.out w' hb) (dim_of_ok HOK.out)
            rw [hx] at h
            exact h
          have CF : Hid (∀ w', Below W.heap.size W w' → Calls Tryd.prog 37 #[.agg #[.slice a1 q.safe.length c1, .slice a2 q.moves.length c2, .slice a3 q.jolts.length c3], .slice ag sn cg] w' fun e w'' => e = .returned (.bool true) ∧ Below w'.heap.size w' w'') := fun w' hb => by
            have h := form_any _ _ _ _ q s w' (HO.out w' hb) (dim_of_ok HOK.out) (HS.out w' hb) HSS.out
            rw [hf] at h
            exact h
          have RR : Hid (∀ w', Below W.heap.size W w' → Calls Tryd.prog 41 #[.agg #[.slice a1 q.safe.length c1, .slice a2 q.moves.length c2, .slice a3 q.jolts.length c3], .slice ag sn cg] w' fun e w'' => ∃ la lc, e = .returned (.slice la q.N lc) ∧ IsInts w'' (.slice la q.N lc) (q.listOf fun c => nearN (q.NN s c)) ∧ Below w'.heap.size w' w'') := fun w' hb => by
            refine (rReach_any _ _ _ _ q s w' (HO.out w' hb) HOK.out (HS.out w' hb) hf).mono ?_
            rintro e w'' ⟨v, rfl, hi, hb2⟩
            have hii := ownI_ints hi (by rw [listOf_len]; have := N_le HOK.out; omega)
            obtain ⟨la, lc, rfl, -, -⟩ := id hii
            rw [listOf_len] at hii ⊢
            exact ⟨la, lc, rfl, hii, hb2⟩
          have CA : Hid (∀ w', Below W.heap.size W w' → Calls Tryd.prog 21 #[.agg #[.slice a1 q.safe.length c1, .slice a2 q.moves.length c2, .slice a3 q.jolts.length c3], .agg #[.int .i64 p, .int .i64 x, .int .i64 y]] w' fun e w'' => e = .returned (.int .i64 (q.pos (p, x, y))) ∧ Below w'.heap.size w' w'') := fun w' hb => rAt_any _ _ _ q (p, x, y) w' (HO.out w' hb) HOK.out hx
          have HNN : Hid (nearN (q.NN s (p, x, y)) = -1000000) := by rw [hnn]; exact rfl
          clear HRV hv hf hnn
          go_upto_region 12 with (first | (go_at_call 40; with_reducible refine (CR.out _ (by repeat (first | exact Below.refl _ _ | (apply Hid.out; assumption) | refine Below.drew ?_ | refine below_drewN_r ?_ _))).mono ?_; rintro e w5 ⟨rfl, hb5⟩; have HB5 : Hid (Below W.heap.size W w5) := hid (below_step (by repeat (first | exact Below.refl _ _ | (apply Hid.out; assumption) | refine Below.drew ?_ | refine below_drewN_r ?_ _)) hb5); clear hb5; clear x0 x1 x2 y0 y1 y2; obtain ⟨x0, x1, x2, y0, y1, y2⟩ := KP.out _ HB5.out; skip) | (go_at_call 17; with_reducible refine (CV.out _ (by repeat (first | exact Below.refl _ _ | (apply Hid.out; assumption) | refine Below.drew ?_ | refine below_drewN_r ?_ _))).mono ?_; rintro e w6 ⟨rfl, hb6⟩; have HB6 : Hid (Below W.heap.size W w6) := hid (below_step (by repeat (first | exact Below.refl _ _ | (apply Hid.out; assumption) | refine Below.drew ?_ | refine below_drewN_r ?_ _)) hb6); clear hb6; clear x0 x1 x2 y0 y1 y2; obtain ⟨x0, x1, x2, y0, y1, y2⟩ := KP.out _ HB6.out; skip) | (go_at_call 18; with_reducible refine (CE.out _ (by repeat (first | exact Below.refl _ _ | (apply Hid.out; assumption) | refine Below.drew ?_ | refine below_drewN_r ?_ _))).mono ?_; rintro e w7 ⟨rfl, hb7⟩; have HB7 : Hid (Below W.heap.size W w7) := hid (below_step (by repeat (first | exact Below.refl _ _ | (apply Hid.out; assumption) | refine Below.drew ?_ | refine below_drewN_r ?_ _)) hb7); clear hb7; clear x0 x1 x2 y0 y1 y2; obtain ⟨x0, x1, x2, y0, y1, y2⟩ := KP.out _ HB7.out; skip) | (go_at_call 37; with_reducible refine (CF.out _ (by repeat (first | exact Below.refl _ _ | (apply Hid.out; assumption) | refine Below.drew ?_ | refine below_drewN_r ?_ _))).mono ?_; rintro e w8 ⟨rfl, hb8⟩; have HB8 : Hid (Below W.heap.size W w8) := hid (below_step (by repeat (first | exact Below.refl _ _ | (apply Hid.out; assumption) | refine Below.drew ?_ | refine below_drewN_r ?_ _)) hb8); clear hb8; clear x0 x1 x2 y0 y1 y2; obtain ⟨x0, x1, x2, y0, y1, y2⟩ := KP.out _ HB8.out; skip) | (go_at_call 41; with_reducible refine (RR.out _ (by repeat (first | exact Below.refl _ _ | (apply Hid.out; assumption) | refine Below.drew ?_ | refine below_drewN_r ?_ _))).mono ?_; rintro e w9 ⟨la, lc, rfl, hi9, hb9⟩; have HI9 := hid hi9; have HB9 : Hid (Below W.heap.size W w9) := hid (below_step (by repeat (first | exact Below.refl _ _ | (apply Hid.out; assumption) | refine Below.drew ?_ | refine below_drewN_r ?_ _)) hb9); clear hb9 hi9; clear x0 x1 x2 y0 y1 y2; obtain ⟨x0, x1, x2, y0, y1, y2⟩ := KP.out _ HB9.out; skip) | fail)
          have hps := (pos_lt q (p, x, y) HEX.out).1
          obtain ⟨gl, rfl, -⟩ := ints_at HI9.out (q.pos (p, x, y)) (by rw [listOf_len]; exact hps)
          have HLP : Hid (∀ w', Below w9.heap.size w9 w' → w'.cell? ⟨gl, q.pos (p, x, y), none⟩ = some (.int .i64 (-1000000))) := fun w' hb => by
            obtain ⟨g', hg', h⟩ := ints_at (isInts_below HI9.out hb) (q.pos (p, x, y)) (by rw [listOf_len]; exact hps)
            cases hg'
            rw [listOf_pos q _ _ HEX.out, HNN.out] at h
            exact h
          have HZ9 : Hid (Below w9.heap.size w9 w9) := Below.refl _ _
          have l0 := HLP.out w9 HZ9.out
          have hNl := N_le HOK.out
          generalize q.pos (p, x, y) = ps at *
          generalize q.N = N at *
          go_wp2_with (first
            | (go_at_call 21; with_reducible refine (CA.out _ (by repeat (first | exact Below.refl _ _ | (apply Hid.out; assumption) | refine Below.drew ?_ | refine below_drewN_r ?_ _))).mono ?_; rintro e w10 ⟨rfl, hb10⟩; have HB10 : Hid (Below W.heap.size W w10) := hid (below_step (by repeat (first | exact Below.refl _ _ | (apply Hid.out; assumption) | refine Below.drew ?_ | refine below_drewN_r ?_ _)) hb10); have HZ10 : Hid (Below w9.heap.size w9 w10) := hid (below_step (by repeat (first | exact Below.refl _ _ | (apply Hid.out; assumption) | refine Below.drew ?_ | refine below_drewN_r ?_ _)) hb10); clear hb10; clear x0 x1 x2 y0 y1 y2; obtain ⟨x0, x1, x2, y0, y1, y2⟩ := KP.out _ HB10.out; clear l0; have l0 := HLP.out _ HZ10.out; skip)
            | (go_at_call 19; with_reducible refine (lives_any _).mono ?_; rintro e w12 ⟨rfl, hb12⟩; have HB12 : Hid (Below W.heap.size W w12) := hid (below_step (by repeat (first | exact Below.refl _ _ | (apply Hid.out; assumption) | refine Below.drew ?_ | refine below_drewN_r ?_ _)) hb12); have HZ12 : Hid (Below w9.heap.size w9 w12) := hid (below_step (by repeat (first | exact Below.refl _ _ | (apply Hid.out; assumption) | refine Below.drew ?_ | refine below_drewN_r ?_ _)) hb12); clear hb12; clear x0 x1 x2 y0 y1 y2; obtain ⟨x0, x1, x2, y0, y1, y2⟩ := KP.out _ HB12.out; clear l0; have l0 := HLP.out _ HZ12.out; skip)
            | fail)
          go_ret
          exact ⟨rfl, FIN.out _ HB12.out⟩
        | some j =>
          cases j with
          | zero =>
            have HRV : reachV q s (p, x, y) = .tuple #[.int .i64 0, .int .i64 (-1), .int .i64 0] := by rw [reachV_val (by rw [hv, hx]; rfl) hf, hnn]
            have CR : Hid (∀ w', Below W.heap.size W w' → Calls Tryd.prog 40 #[.agg #[.slice a1 q.safe.length c1, .slice a2 q.moves.length c2, .slice a3 q.jolts.length c3], .slice ag sn cg, .agg #[.int .i64 p, .int .i64 x, .int .i64 y]] w' fun e w'' => e = .returned (.tuple #[.int .i64 0, .int .i64 (-1), .int .i64 0]) ∧ Below w'.heap.size w' w'') := fun w' hb => by
              have h := reachP_any _ _ _ _ q s (p, x, y) w' (HO.out w' hb) HQN.out (HS.out w' hb) HSS.out
              rw [HRV] at h
              exact h
            have CV : Hid (∀ w', Below W.heap.size W w' → Calls Tryd.prog 17 #[.agg #[.slice a1 q.safe.length c1, .slice a2 q.moves.length c2, .slice a3 q.jolts.length c3]] w' fun e w'' => e = .returned (.bool true) ∧ Below w'.heap.size w' w'') := fun w' hb => by
              have h := valid_any _ _ _ q w' (HO.out w' hb) HQN.out
              rw [hv] at h
              exact h
            have CE : Hid (∀ w', Below W.heap.size W w' → Calls Tryd.prog 18 #[.agg #[.slice a1 q.safe.length c1, .slice a2 q.moves.length c2, .slice a3 q.jolts.length c3], .agg #[.int .i64 p, .int .i64 x, .int .i64 y]] w' fun e w'' => e = .returned (.bool true) ∧ Below w'.heap.size w' w'') := fun w' hb => by
              have h := exists_any _ _ _ q (p, x, y) w' (HO.out w' hb) (dim_of_ok HOK.out)
              rw [hx] at h
              exact h
            have CF : Hid (∀ w', Below W.heap.size W w' → Calls Tryd.prog 37 #[.agg #[.slice a1 q.safe.length c1, .slice a2 q.moves.length c2, .slice a3 q.jolts.length c3], .slice ag sn cg] w' fun e w'' => e = .returned (.bool true) ∧ Below w'.heap.size w' w'') := fun w' hb => by
              have h := form_any _ _ _ _ q s w' (HO.out w' hb) (dim_of_ok HOK.out) (HS.out w' hb) HSS.out
              rw [hf] at h
              exact h
            have RR : Hid (∀ w', Below W.heap.size W w' → Calls Tryd.prog 41 #[.agg #[.slice a1 q.safe.length c1, .slice a2 q.moves.length c2, .slice a3 q.jolts.length c3], .slice ag sn cg] w' fun e w'' => ∃ la lc, e = .returned (.slice la q.N lc) ∧ IsInts w'' (.slice la q.N lc) (q.listOf fun c => nearN (q.NN s c)) ∧ Below w'.heap.size w' w'') := fun w' hb => by
              refine (rReach_any _ _ _ _ q s w' (HO.out w' hb) HOK.out (HS.out w' hb) hf).mono ?_
              rintro e w'' ⟨v, rfl, hi, hb2⟩
              have hii := ownI_ints hi (by rw [listOf_len]; have := N_le HOK.out; omega)
              obtain ⟨la, lc, rfl, -, -⟩ := id hii
              rw [listOf_len] at hii ⊢
              exact ⟨la, lc, rfl, hii, hb2⟩
            have CA : Hid (∀ w', Below W.heap.size W w' → Calls Tryd.prog 21 #[.agg #[.slice a1 q.safe.length c1, .slice a2 q.moves.length c2, .slice a3 q.jolts.length c3], .agg #[.int .i64 p, .int .i64 x, .int .i64 y]] w' fun e w'' => e = .returned (.int .i64 (q.pos (p, x, y))) ∧ Below w'.heap.size w' w'') := fun w' hb => rAt_any _ _ _ q (p, x, y) w' (HO.out w' hb) HOK.out hx
            have HNN : Hid (nearN (q.NN s (p, x, y)) = 0) := by rw [hnn]; exact rfl
            clear HRV hv hf hnn
            go_upto_region 12 with (first | (go_at_call 40; with_reducible refine (CR.out _ (by repeat (first | exact Below.refl _ _ | (apply Hid.out; assumption) | refine Below.drew ?_ | refine below_drewN_r ?_ _))).mono ?_; rintro e w5 ⟨rfl, hb5⟩; have HB5 : Hid (Below W.heap.size W w5) := hid (below_step (by repeat (first | exact Below.refl _ _ | (apply Hid.out; assumption) | refine Below.drew ?_ | refine below_drewN_r ?_ _)) hb5); clear hb5; clear x0 x1 x2 y0 y1 y2; obtain ⟨x0, x1, x2, y0, y1, y2⟩ := KP.out _ HB5.out; skip) | (go_at_call 17; with_reducible refine (CV.out _ (by repeat (first | exact Below.refl _ _ | (apply Hid.out; assumption) | refine Below.drew ?_ | refine below_drewN_r ?_ _))).mono ?_; rintro e w6 ⟨rfl, hb6⟩; have HB6 : Hid (Below W.heap.size W w6) := hid (below_step (by repeat (first | exact Below.refl _ _ | (apply Hid.out; assumption) | refine Below.drew ?_ | refine below_drewN_r ?_ _)) hb6); clear hb6; clear x0 x1 x2 y0 y1 y2; obtain ⟨x0, x1, x2, y0, y1, y2⟩ := KP.out _ HB6.out; skip) | (go_at_call 18; with_reducible refine (CE.out _ (by repeat (first | exact Below.refl _ _ | (apply Hid.out; assumption) | refine Below.drew ?_ | refine below_drewN_r ?_ _))).mono ?_; rintro e w7 ⟨rfl, hb7⟩; have HB7 : Hid (Below W.heap.size W w7) := hid (below_step (by repeat (first | exact Below.refl _ _ | (apply Hid.out; assumption) | refine Below.drew ?_ | refine below_drewN_r ?_ _)) hb7); clear hb7; clear x0 x1 x2 y0 y1 y2; obtain ⟨x0, x1, x2, y0, y1, y2⟩ := KP.out _ HB7.out; skip) | (go_at_call 37; with_reducible refine (CF.out _ (by repeat (first | exact Below.refl _ _ | (apply Hid.out; assumption) | refine Below.drew ?_ | refine below_drewN_r ?_ _))).mono ?_; rintro e w8 ⟨rfl, hb8⟩; have HB8 : Hid (Below W.heap.size W w8) := hid (below_step (by repeat (first | exact Below.refl _ _ | (apply Hid.out; assumption) | refine Below.drew ?_ | refine below_drewN_r ?_ _)) hb8); clear hb8; clear x0 x1 x2 y0 y1 y2; obtain ⟨x0, x1, x2, y0, y1, y2⟩ := KP.out _ HB8.out; skip) | (go_at_call 41; with_reducible refine (RR.out _ (by repeat (first | exact Below.refl _ _ | (apply Hid.out; assumption) | refine Below.drew ?_ | refine below_drewN_r ?_ _))).mono ?_; rintro e w9 ⟨la, lc, rfl, hi9, hb9⟩; have HI9 := hid hi9; have HB9 : Hid (Below W.heap.size W w9) := hid (below_step (by repeat (first | exact Below.refl _ _ | (apply Hid.out; assumption) | refine Below.drew ?_ | refine below_drewN_r ?_ _)) hb9); clear hb9 hi9; clear x0 x1 x2 y0 y1 y2; obtain ⟨x0, x1, x2, y0, y1, y2⟩ := KP.out _ HB9.out; skip) | fail)
            have hps := (pos_lt q (p, x, y) HEX.out).1
            obtain ⟨gl, rfl, -⟩ := ints_at HI9.out (q.pos (p, x, y)) (by rw [listOf_len]; exact hps)
            have HLP : Hid (∀ w', Below w9.heap.size w9 w' → w'.cell? ⟨gl, q.pos (p, x, y), none⟩ = some (.int .i64 (0))) := fun w' hb => by
              obtain ⟨g', hg', h⟩ := ints_at (isInts_below HI9.out hb) (q.pos (p, x, y)) (by rw [listOf_len]; exact hps)
              cases hg'
              rw [listOf_pos q _ _ HEX.out, HNN.out] at h
              exact h
            have HZ9 : Hid (Below w9.heap.size w9 w9) := Below.refl _ _
            have l0 := HLP.out w9 HZ9.out
            have hNl := N_le HOK.out
            generalize q.pos (p, x, y) = ps at *
            generalize q.N = N at *
            go_wp2_with (first
              | (go_at_call 21; with_reducible refine (CA.out _ (by repeat (first | exact Below.refl _ _ | (apply Hid.out; assumption) | refine Below.drew ?_ | refine below_drewN_r ?_ _))).mono ?_; rintro e w10 ⟨rfl, hb10⟩; have HB10 : Hid (Below W.heap.size W w10) := hid (below_step (by repeat (first | exact Below.refl _ _ | (apply Hid.out; assumption) | refine Below.drew ?_ | refine below_drewN_r ?_ _)) hb10); have HZ10 : Hid (Below w9.heap.size w9 w10) := hid (below_step (by repeat (first | exact Below.refl _ _ | (apply Hid.out; assumption) | refine Below.drew ?_ | refine below_drewN_r ?_ _)) hb10); clear hb10; clear x0 x1 x2 y0 y1 y2; obtain ⟨x0, x1, x2, y0, y1, y2⟩ := KP.out _ HB10.out; clear l0; have l0 := HLP.out _ HZ10.out; skip)
              | (go_at_call 19; with_reducible refine (lives_any _).mono ?_; rintro e w12 ⟨rfl, hb12⟩; have HB12 : Hid (Below W.heap.size W w12) := hid (below_step (by repeat (first | exact Below.refl _ _ | (apply Hid.out; assumption) | refine Below.drew ?_ | refine below_drewN_r ?_ _)) hb12); have HZ12 : Hid (Below w9.heap.size w9 w12) := hid (below_step (by repeat (first | exact Below.refl _ _ | (apply Hid.out; assumption) | refine Below.drew ?_ | refine below_drewN_r ?_ _)) hb12); clear hb12; clear x0 x1 x2 y0 y1 y2; obtain ⟨x0, x1, x2, y0, y1, y2⟩ := KP.out _ HB12.out; clear l0; have l0 := HLP.out _ HZ12.out; skip)
              | fail)
            go_ret
            exact ⟨rfl, FIN.out _ HB12.out⟩
          | succ k =>
            have HRV : reachV q s (p, x, y) = .tuple #[.int .i64 ((k : Int) + 1), .int .i64 (q.move (q.G s k) (p, x, y)), .int .i64 0] := by rw [reachV_val (by rw [hv, hx]; rfl) hf, hnn]
            obtain ⟨mv, hmv⟩ : ∃ mv, mv = q.move (q.G s k) (p, x, y) := ⟨_, rfl⟩
            rw [← hmv] at HRV
            have hk1 : k + 1 ≤ 1024 := by have h1 := ((near_some q s q.N (p, x, y) (k + 1)).1 hnn).1; have := N_le HOK.out; omega
            have CR : Hid (∀ w', Below W.heap.size W w' → Calls Tryd.prog 40 #[.agg #[.slice a1 q.safe.length c1, .slice a2 q.moves.length c2, .slice a3 q.jolts.length c3], .slice ag sn cg, .agg #[.int .i64 p, .int .i64 x, .int .i64 y]] w' fun e w'' => e = .returned (.tuple #[.int .i64 ((k : Int) + 1), .int .i64 mv, .int .i64 0]) ∧ Below w'.heap.size w' w'') := fun w' hb => by
              have h := reachP_any _ _ _ _ q s (p, x, y) w' (HO.out w' hb) HQN.out (HS.out w' hb) HSS.out
              rw [HRV] at h
              exact h
            have CV : Hid (∀ w', Below W.heap.size W w' → Calls Tryd.prog 17 #[.agg #[.slice a1 q.safe.length c1, .slice a2 q.moves.length c2, .slice a3 q.jolts.length c3]] w' fun e w'' => e = .returned (.bool true) ∧ Below w'.heap.size w' w'') := fun w' hb => by
              have h := valid_any _ _ _ q w' (HO.out w' hb) HQN.out
              rw [hv] at h
              exact h
            have CE : Hid (∀ w', Below W.heap.size W w' → Calls Tryd.prog 18 #[.agg #[.slice a1 q.safe.length c1, .slice a2 q.moves.length c2, .slice a3 q.jolts.length c3], .agg #[.int .i64 p, .int .i64 x, .int .i64 y]] w' fun e w'' => e = .returned (.bool true) ∧ Below w'.heap.size w' w'') := fun w' hb => by
              have h := exists_any _ _ _ q (p, x, y) w' (HO.out w' hb) (dim_of_ok HOK.out)
              rw [hx] at h
              exact h
            have CF : Hid (∀ w', Below W.heap.size W w' → Calls Tryd.prog 37 #[.agg #[.slice a1 q.safe.length c1, .slice a2 q.moves.length c2, .slice a3 q.jolts.length c3], .slice ag sn cg] w' fun e w'' => e = .returned (.bool true) ∧ Below w'.heap.size w' w'') := fun w' hb => by
              have h := form_any _ _ _ _ q s w' (HO.out w' hb) (dim_of_ok HOK.out) (HS.out w' hb) HSS.out
              rw [hf] at h
              exact h
            have RR : Hid (∀ w', Below W.heap.size W w' → Calls Tryd.prog 41 #[.agg #[.slice a1 q.safe.length c1, .slice a2 q.moves.length c2, .slice a3 q.jolts.length c3], .slice ag sn cg] w' fun e w'' => ∃ la lc, e = .returned (.slice la q.N lc) ∧ IsInts w'' (.slice la q.N lc) (q.listOf fun c => nearN (q.NN s c)) ∧ Below w'.heap.size w' w'') := fun w' hb => by
              refine (rReach_any _ _ _ _ q s w' (HO.out w' hb) HOK.out (HS.out w' hb) hf).mono ?_
              rintro e w'' ⟨v, rfl, hi, hb2⟩
              have hii := ownI_ints hi (by rw [listOf_len]; have := N_le HOK.out; omega)
              obtain ⟨la, lc, rfl, -, -⟩ := id hii
              rw [listOf_len] at hii ⊢
              exact ⟨la, lc, rfl, hii, hb2⟩
            have CA : Hid (∀ w', Below W.heap.size W w' → Calls Tryd.prog 21 #[.agg #[.slice a1 q.safe.length c1, .slice a2 q.moves.length c2, .slice a3 q.jolts.length c3], .agg #[.int .i64 p, .int .i64 x, .int .i64 y]] w' fun e w'' => e = .returned (.int .i64 (q.pos (p, x, y))) ∧ Below w'.heap.size w' w'') := fun w' hb => rAt_any _ _ _ q (p, x, y) w' (HO.out w' hb) HOK.out hx
            have HNN : Hid (nearN (q.NN s (p, x, y)) = (k : Int) + 1) := by rw [hnn]; exact rfl
            have HMV := hid hmv
            have CMV : Hid (∀ (ba : Option Addr) (bn bc : Nat) (w' : World), Below W.heap.size W w' → IsGrid w' (.slice ba bn bc) (q.gridOf (q.G s k)) → Calls Tryd.prog 22 #[.agg #[.slice a1 q.safe.length c1, .slice a2 q.moves.length c2, .slice a3 q.jolts.length c3], .slice ba bn bc, .agg #[.int .i64 p, .int .i64 x, .int .i64 y]] w' fun e w'' => e = .returned (.int .i64 mv) ∧ Below w'.heap.size w' w'') := fun ba bn bc w' hb hg => by
              have h := rMove_any _ _ _ (.slice ba bn bc) q (q.gridOf (q.G s k)) (p, x, y) w' (HO.out w' hb) HOK.out hg (form_gridOf q _) hx
              rw [exIn_gridOf q (q.G s k) (fun c hc => (G_ex q s k c hc).1), ← hmv] at h
              exact h
            clear HRV hv hf hnn hmv
            go_upto_region 12 with (first | (go_at_call 40; with_reducible refine (CR.out _ (by repeat (first | exact Below.refl _ _ | (apply Hid.out; assumption) | refine Below.drew ?_ | refine below_drewN_r ?_ _))).mono ?_; rintro e w5 ⟨rfl, hb5⟩; have HB5 : Hid (Below W.heap.size W w5) := hid (below_step (by repeat (first | exact Below.refl _ _ | (apply Hid.out; assumption) | refine Below.drew ?_ | refine below_drewN_r ?_ _)) hb5); clear hb5; clear x0 x1 x2 y0 y1 y2; obtain ⟨x0, x1, x2, y0, y1, y2⟩ := KP.out _ HB5.out; skip) | (go_at_call 17; with_reducible refine (CV.out _ (by repeat (first | exact Below.refl _ _ | (apply Hid.out; assumption) | refine Below.drew ?_ | refine below_drewN_r ?_ _))).mono ?_; rintro e w6 ⟨rfl, hb6⟩; have HB6 : Hid (Below W.heap.size W w6) := hid (below_step (by repeat (first | exact Below.refl _ _ | (apply Hid.out; assumption) | refine Below.drew ?_ | refine below_drewN_r ?_ _)) hb6); clear hb6; clear x0 x1 x2 y0 y1 y2; obtain ⟨x0, x1, x2, y0, y1, y2⟩ := KP.out _ HB6.out; skip) | (go_at_call 18; with_reducible refine (CE.out _ (by repeat (first | exact Below.refl _ _ | (apply Hid.out; assumption) | refine Below.drew ?_ | refine below_drewN_r ?_ _))).mono ?_; rintro e w7 ⟨rfl, hb7⟩; have HB7 : Hid (Below W.heap.size W w7) := hid (below_step (by repeat (first | exact Below.refl _ _ | (apply Hid.out; assumption) | refine Below.drew ?_ | refine below_drewN_r ?_ _)) hb7); clear hb7; clear x0 x1 x2 y0 y1 y2; obtain ⟨x0, x1, x2, y0, y1, y2⟩ := KP.out _ HB7.out; skip) | (go_at_call 37; with_reducible refine (CF.out _ (by repeat (first | exact Below.refl _ _ | (apply Hid.out; assumption) | refine Below.drew ?_ | refine below_drewN_r ?_ _))).mono ?_; rintro e w8 ⟨rfl, hb8⟩; have HB8 : Hid (Below W.heap.size W w8) := hid (below_step (by repeat (first | exact Below.refl _ _ | (apply Hid.out; assumption) | refine Below.drew ?_ | refine below_drewN_r ?_ _)) hb8); clear hb8; clear x0 x1 x2 y0 y1 y2; obtain ⟨x0, x1, x2, y0, y1, y2⟩ := KP.out _ HB8.out; skip) | (go_at_call 41; with_reducible refine (RR.out _ (by repeat (first | exact Below.refl _ _ | (apply Hid.out; assumption) | refine Below.drew ?_ | refine below_drewN_r ?_ _))).mono ?_; rintro e w9 ⟨la, lc, rfl, hi9, hb9⟩; have HI9 := hid hi9; have HB9 : Hid (Below W.heap.size W w9) := hid (below_step (by repeat (first | exact Below.refl _ _ | (apply Hid.out; assumption) | refine Below.drew ?_ | refine below_drewN_r ?_ _)) hb9); clear hb9 hi9; clear x0 x1 x2 y0 y1 y2; obtain ⟨x0, x1, x2, y0, y1, y2⟩ := KP.out _ HB9.out; skip) | fail)
            have hps := (pos_lt q (p, x, y) HEX.out).1
            obtain ⟨gl, rfl, -⟩ := ints_at HI9.out (q.pos (p, x, y)) (by rw [listOf_len]; exact hps)
            have HLP : Hid (∀ w', Below w9.heap.size w9 w' → w'.cell? ⟨gl, q.pos (p, x, y), none⟩ = some (.int .i64 ((k : Int) + 1))) := fun w' hb => by
              obtain ⟨g', hg', h⟩ := ints_at (isInts_below HI9.out hb) (q.pos (p, x, y)) (by rw [listOf_len]; exact hps)
              cases hg'
              rw [listOf_pos q _ _ HEX.out, HNN.out] at h
              exact h
            have HZ9 : Hid (Below w9.heap.size w9 w9) := Below.refl _ _
            have l0 := HLP.out w9 HZ9.out
            have hNl := N_le HOK.out
            generalize q.pos (p, x, y) = ps at *
            generalize q.N = N at *
            have CB : Hid (∀ w', Below W.heap.size W w' → Below w9.heap.size w9 w' → Calls Tryd.prog 42 #[.agg #[.slice a1 q.safe.length c1, .slice a2 q.moves.length c2, .slice a3 q.jolts.length c3], .slice (some ⟨gl, 0, none⟩) N lc, .int .i64 k] w' fun e w'' => ∃ ba bn bc, e = .returned (.slice ba bn bc) ∧ IsGrid w'' (.slice ba bn bc) (q.gridOf (q.G s k)) ∧ Below w'.heap.size w' w'') := fun w' hb hz => by
              refine (rBelow_any _ _ _ (.slice (some ⟨gl, 0, none⟩) N lc) q s k (by omega) w' (HO.out w' hb) HOK.out (isInts_below HI9.out hz)).mono ?_
              rintro e w'' ⟨v, rfl, hg, hb2⟩
              have hgg := gridOf_isGrid HOK.out hg
              obtain ⟨ba, bc, rfl, -, -⟩ := id hgg
              exact ⟨ba, _, bc, rfl, hgg, hb2⟩
            have K16 : Hid (∀ w', Below W.heap.size W w' → Below w9.heap.size w9 w' → w'.cell? ⟨X, 0, none⟩ = some (.slice a1 q.safe.length c1) ∧ w'.cell? ⟨X, 1, none⟩ = some (.slice a2 q.moves.length c2) ∧ w'.cell? ⟨X, 2, none⟩ = some (.slice a3 q.jolts.length c3) ∧ w'.cell? ⟨C0, 0, none⟩ = some (.int .i64 p) ∧ w'.cell? ⟨C0, 1, none⟩ = some (.int .i64 x) ∧ w'.cell? ⟨C0, 2, none⟩ = some (.int .i64 y) ∧ Hid (Below W.heap.size W w') ∧ Hid (Below w9.heap.size w9 w')) := fun w' hb hz => by
              obtain ⟨d0, d1, d2, d3, d4, d5⟩ := KP.out w' hb
              exact ⟨d0, d1, d2, d3, d4, d5, hb, hz⟩
            go_upto_region 16 with (first | (go_at_call 21; with_reducible refine (CA.out _ (by repeat (first | exact Below.refl _ _ | (apply Hid.out; assumption) | refine Below.drew ?_ | refine below_drewN_r ?_ _))).mono ?_; rintro e w10 ⟨rfl, hb10⟩; have HB10 : Hid (Below W.heap.size W w10) := hid (below_step (by repeat (first | exact Below.refl _ _ | (apply Hid.out; assumption) | refine Below.drew ?_ | refine below_drewN_r ?_ _)) hb10); have HZ10 : Hid (Below w9.heap.size w9 w10) := hid (below_step (by repeat (first | exact Below.refl _ _ | (apply Hid.out; assumption) | refine Below.drew ?_ | refine below_drewN_r ?_ _)) hb10); clear hb10; clear x0 x1 x2 y0 y1 y2; obtain ⟨x0, x1, x2, y0, y1, y2⟩ := KP.out _ HB10.out; clear l0; have l0 := HLP.out _ HZ10.out; skip) | fail)
            clear x0 x1 x2 y0 y1 y2 l0
            refine wp_region_held_drew (S := fun w' => w'.cell? ⟨X, 0, none⟩ = some (.slice a1 q.safe.length c1) ∧ w'.cell? ⟨X, 1, none⟩ = some (.slice a2 q.moves.length c2) ∧ w'.cell? ⟨X, 2, none⟩ = some (.slice a3 q.jolts.length c3) ∧ w'.cell? ⟨C0, 0, none⟩ = some (.int .i64 p) ∧ w'.cell? ⟨C0, 1, none⟩ = some (.int .i64 x) ∧ w'.cell? ⟨C0, 2, none⟩ = some (.int .i64 y) ∧ Hid (Below W.heap.size W w') ∧ Hid (Below w9.heap.size w9 w')) (by kernel_rfl) (K16.out _ HB10.out.drew HZ10.out.drew) (fun hHeld => ?_)
            refine take_at (i := 0) 66 (v := .int .i64 ((k : Int) + 1)) rfl (by kernel_rfl) (by kernel_rfl) (by kernel_rfl) rfl (fun _ _ _ h => h) (by rfl) (fun w hSw => ?_) hHeld ?_
            · (try dsimp only at hSw); go_simp
            simp only [Act.put, List.setIfInBounds_toArray, List.set_cons_zero, List.set_cons_succ]
            refine take_at (i := 1) 67 (v := .int .i64 ((k : Int) + 1)) rfl (by kernel_rfl) (by kernel_rfl) (by kernel_rfl) rfl (fun _ _ _ h => h) (by rfl) (fun w hSw => ?_) hHeld ?_
            · (try dsimp only at hSw); go_simp
            simp only [Act.put, List.setIfInBounds_toArray, List.set_cons_zero, List.set_cons_succ]
            refine take_at (i := 2) 68 (v := .bool true) rfl (by kernel_rfl) (by kernel_rfl) (by kernel_rfl) rfl (fun _ _ _ h => h) (by rfl) (fun w hSw => ?_) hHeld ?_
            · (try dsimp only at hSw); go_simp
            simp only [Act.put, List.setIfInBounds_toArray, List.set_cons_zero, List.set_cons_succ]
            refine take_at (i := 3) 69 (v := .bool true) rfl (by kernel_rfl) (by kernel_rfl) (by kernel_rfl) rfl (fun _ _ _ h => h) (by rfl) (fun w hSw => ?_) hHeld ?_
            · (try dsimp only at hSw); go_simp
            simp only [Act.put, List.setIfInBounds_toArray, List.set_cons_zero, List.set_cons_succ]
            refine take_at (i := 4) 70 (v := .int .i64 mv) rfl (by kernel_rfl) (by kernel_rfl) (by kernel_rfl) rfl (fun _ _ _ h => h) (by rfl) (fun w hSw => ?_) hHeld ?_
            · (try dsimp only at hSw); go_simp
            simp only [Act.put, List.setIfInBounds_toArray, List.set_cons_zero, List.set_cons_succ]
            refine take_at (i := 5) 71 (v := .agg #[.slice a1 q.safe.length c1, .slice a2 q.moves.length c2, .slice a3 q.jolts.length c3]) rfl (by kernel_rfl) (by kernel_rfl) (by kernel_rfl) rfl (fun _ _ _ h => h) (by rfl) (fun w hSw => ?_) hHeld ?_
            · (try dsimp only at hSw); go_simp
            simp only [Act.put, List.setIfInBounds_toArray, List.set_cons_zero, List.set_cons_succ]
            refine take_at (i := 6) 72 (v := .agg #[.slice a1 q.safe.length c1, .slice a2 q.moves.length c2, .slice a3 q.jolts.length c3]) rfl (by kernel_rfl) (by kernel_rfl) (by kernel_rfl) rfl (fun _ _ _ h => h) (by rfl) (fun w hSw => ?_) hHeld ?_
            · (try dsimp only at hSw); go_simp
            simp only [Act.put, List.setIfInBounds_toArray, List.set_cons_zero, List.set_cons_succ]
            refine take_at (i := 7) 73 (v := .slice (some ⟨gl, 0, none⟩) N lc) rfl (by kernel_rfl) (by kernel_rfl) (by kernel_rfl) rfl (fun _ _ _ h => h) (by rfl) (fun w hSw => ?_) hHeld ?_
            · (try dsimp only at hSw); go_simp
            simp only [Act.put, List.setIfInBounds_toArray, List.set_cons_zero, List.set_cons_succ]
            refine take_at (i := 8) 74 (v := .int .i64 ((k : Int) + 1)) rfl (by kernel_rfl) (by kernel_rfl) (by kernel_rfl) rfl (fun _ _ _ h => h) (by rfl) (fun w hSw => ?_) hHeld ?_
            · (try dsimp only at hSw); go_simp
            simp only [Act.put, List.setIfInBounds_toArray, List.set_cons_zero, List.set_cons_succ]
            refine take_at (i := 9) 75 (v := .int .i64 k) rfl (by kernel_rfl) (by kernel_rfl) (by kernel_rfl) rfl (fun _ _ _ h => h) (by rfl) (fun w hSw => ?_) hHeld ?_
            · (try dsimp only at hSw); go_simp; first | done | (rw [IntKind.wrap_i64]; omega)
            simp only [Act.put, List.setIfInBounds_toArray, List.set_cons_zero, List.set_cons_succ]
            refine take_at (i := 11) 77 (v := .agg #[.int .i64 p, .int .i64 x, .int .i64 y]) rfl (by kernel_rfl) (by kernel_rfl) (by kernel_rfl) rfl (fun _ _ _ h => h) (by rfl) (fun w hSw => ?_) hHeld ?_
            · (try dsimp only at hSw); go_simp
            simp only [Act.put, List.setIfInBounds_toArray, List.set_cons_zero, List.set_cons_succ]
            refine wpAnyH_ready (rs := [10]) (by kernel_rfl) (by simp) ?_
            refine node_f42 76 72 73 75 _ _ _ rfl (by rfl) rfl rfl rfl rfl rfl ((CB.out _ HB10.out.drew HZ10.out.drew).mono ?_) AllReadyH.nil
            · rintro e w13 ⟨ba, bn, bc, rfl, hg13, hb13⟩
              have HB13 : Hid (Below W.heap.size W w13) := hid (below_step HB10.out.drew hb13)
              have HZ13 : Hid (Below w9.heap.size w9 w13) := hid (below_step HZ10.out.drew hb13)
              have HG13 := hid hg13
              have hHeld := K16.out _ HB13.out HZ13.out
              refine ⟨_, rfl, hHeld, ?_⟩
              clear hg13 hb13
              simp only [Act.put, List.setIfInBounds_toArray, List.set_cons_zero, List.set_cons_succ]
              refine wpAnyH_ready (rs := [12]) (by kernel_rfl) (by simp) ?_
              refine node_f22 78 71 76 77 _ _ _ rfl (by rfl) rfl rfl rfl rfl rfl ((CMV.out _ _ _ _ HB13.out HG13.out).mono ?_) AllReadyH.nil
              · rintro e w14 ⟨rfl, hb14⟩
                have HB14 : Hid (Below W.heap.size W w14) := hid (below_step HB13.out hb14)
                have HZ14 : Hid (Below w9.heap.size w9 w14) := hid (below_step HZ13.out hb14)
                have hHeld := K16.out _ HB14.out HZ14.out
                refine ⟨_, rfl, hHeld, ?_⟩
                clear hb14
                simp only [Act.put, List.setIfInBounds_toArray, List.set_cons_zero, List.set_cons_succ]
                refine take_at (i := 13) 79 (v := .bool true) rfl (by kernel_rfl) (by kernel_rfl) (by kernel_rfl) rfl (fun _ _ _ h => h) (by rfl) (fun w hSw => ?_) hHeld ?_
                · (try dsimp only at hSw); go_simp
                simp only [Act.put, List.setIfInBounds_toArray, List.set_cons_zero, List.set_cons_succ]
                refine take_at (i := 14) 80 (v := .bool true) rfl (by kernel_rfl) (by kernel_rfl) (by kernel_rfl) rfl (fun _ _ _ h => h) (by rfl) (fun w hSw => ?_) hHeld ?_
                · (try dsimp only at hSw); go_simp
                simp only [Act.put, List.setIfInBounds_toArray, List.set_cons_zero, List.set_cons_succ]
                refine take_at (i := 15) 81 (v := .bool true) rfl (by kernel_rfl) (by kernel_rfl) (by kernel_rfl) rfl (fun _ _ _ h => h) (by rfl) (fun w hSw => ?_) hHeld ?_
                · (try dsimp only at hSw); go_simp
                simp only [Act.put, List.setIfInBounds_toArray, List.set_cons_zero, List.set_cons_succ]
                refine take_at (i := 16) 82 (v := .int .i64 0) rfl (by kernel_rfl) (by kernel_rfl) (by kernel_rfl) rfl (fun _ _ _ h => h) (by rfl) (fun w hSw => ?_) hHeld ?_
                · (try dsimp only at hSw); go_simp
                simp only [Act.put, List.setIfInBounds_toArray, List.set_cons_zero, List.set_cons_succ]
                refine take_at (i := 17) 83 (v := .bool true) rfl (by kernel_rfl) (by kernel_rfl) (by kernel_rfl) rfl (fun _ _ _ h => h) (by rfl) (fun w hSw => ?_) hHeld ?_
                · (try dsimp only at hSw); go_simp
                simp only [Act.put, List.setIfInBounds_toArray, List.set_cons_zero, List.set_cons_succ]
                refine take_at (i := 18) 84 (v := .bool true) rfl (by kernel_rfl) (by kernel_rfl) (by kernel_rfl) rfl (fun _ _ _ h => h) (by rfl) (fun w hSw => ?_) hHeld ?_
                · (try dsimp only at hSw); go_simp
                simp only [Act.put, List.setIfInBounds_toArray, List.set_cons_zero, List.set_cons_succ]
                refine take_at (i := 19) 85 (v := .bool true) rfl (by kernel_rfl) (by kernel_rfl) (by kernel_rfl) rfl (fun _ _ _ h => h) (by rfl) (fun w hSw => ?_) hHeld ?_
                · (try dsimp only at hSw); go_simp
                simp only [Act.put, List.setIfInBounds_toArray, List.set_cons_zero, List.set_cons_succ]
                refine wpAnyH_ready (rs := [20]) (by kernel_rfl) (by simp) ?_
                refine node_f19 86 rfl (by rfl) rfl rfl ((lives_any _).mono ?_) AllReadyH.nil
                · rintro e w15 ⟨rfl, hb15⟩
                  have HB15 : Hid (Below W.heap.size W w15) := hid (below_step HB14.out hb15)
                  have HZ15 : Hid (Below w9.heap.size w9 w15) := hid (below_step HZ14.out hb15)
                  have hHeld := K16.out _ HB15.out HZ15.out
                  refine ⟨_, rfl, hHeld, ?_⟩
                  clear hb15
                  simp only [Act.put, List.setIfInBounds_toArray, List.set_cons_zero, List.set_cons_succ]
                  refine take_at (i := 21) 87 (v := .bool true) rfl (by kernel_rfl) (by kernel_rfl) (by kernel_rfl) rfl (fun _ _ _ h => h) (by rfl) (fun w hSw => ?_) hHeld ?_
                  · (try dsimp only at hSw); go_simp
                  simp only [Act.put, List.setIfInBounds_toArray, List.set_cons_zero, List.set_cons_succ]
                  refine take_at (i := 22) 6 (v := .bool true) rfl (by kernel_rfl) (by kernel_rfl) (by kernel_rfl) rfl (fun _ _ _ h => h) (by rfl) (fun w hSw => ?_) hHeld ?_
                  · (try dsimp only at hSw); go_simp
                  simp only [Act.put, List.setIfInBounds_toArray, List.set_cons_zero, List.set_cons_succ]
                  refine wpAnyH_done (by kernel_rfl) ?_ _
                  clear hHeld
                  go_wp2_with fail
                  go_ret
                  exact ⟨rfl, FIN.out _ HB15.out⟩
end Go.Proofs.YtjonbhimbhidpaaDoor
