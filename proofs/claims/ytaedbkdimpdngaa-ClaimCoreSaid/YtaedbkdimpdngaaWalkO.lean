/-
  Walks over chapter 12: the reference: are two lists of sets the same.
-/
import Derived.Test.YtaedbkdimpdngaaWalkN
namespace Go.Proofs.Ytaedbkdimpdngaa
open Go.RowKit
section
variable {md : Region.Mode} {ops : Array Oper} {Q : Exit → Act → World → Prop} {S : World → Prop} {fuel : Nat} {listed : Array Bool} {a : Act} {w : World} {i : Nat} {o : Oper} {rs : List Nat}
theorem node_f57 (d : Nat) (k1 k2 : Nat) (v1 v2 : Value) (hi : ops[i]? = some o) (hgd : Region.wanted o (yielded ops a.tmps) = true) (ho : o.op = .call { callee := .value (.func 57), args := #[.tmp k1, .tmp k2], argTypes := #[24, 24] }) (hd : o.dst = some d)
    (hp1 : a.tmps[k1]?.getD undef = v1)
    (hp2 : a.tmps[k2]?.getD undef = v2)
    (h : Calls Try.prog 57 #[v1, v2] w fun e w' => ∃ u, e = .returned u ∧ S w' ∧ wpAnyH Try.prog md ops Q S fuel (listed.setIfInBounds i true) (a.put (some d) u) w')
    (hs : AllReadyH Try.prog md ops Q S fuel listed a w rs) : AllReadyH Try.prog md ops Q S fuel listed a w (i :: rs) := by
  refine AllReadyH.cons hi (fun K hK => ?_) hs
  rw [if_pos hgd]
  unfold Oper.wp execOp
  simp [ho, go_sem, hp1, hp2]
  refine h.mono ?_
  rintro e w' ⟨u, rfl, h1, h2⟩
  have hk := hK.out _ _ h1 (fun _ => h2)
  rw [hd]
  exact hk
end
theorem isLL_at {w : World} {a : Option Addr} {n c : Nat} {Ls : List (List Nat)} (h : IsLL w (.slice a n c) Ls) (i : Nat) (hi : i < Ls.length) : ∃ g pa pn pc, a = some ⟨g, 0, none⟩ ∧ n = Ls.length ∧ w.cell? ⟨g, i, none⟩ = some (.slice pa pn pc) ∧ IsV w (.slice pa pn pc) ((Ls.getD i []).map iv) := by
  obtain ⟨us, h1, h2, h3⟩ := h
  obtain ⟨g, h4, h5, h6⟩ := isV_at h2 i (by omega)
  have h7 := h3 i hi
  obtain ⟨pa, pc, h8⟩ := isV_slice h7
  rw [h8] at h6 h7
  exact ⟨g, pa, _, pc, h4, by omega, h6, h7⟩
theorem isLL_slice {w : World} {v : Value} {Ls : List (List Nat)} (h : IsLL w v Ls) : ∃ a c, v = .slice a Ls.length c ∧ Ls.length ≤ 1000000 := by
  obtain ⟨us, h1, ⟨a, c, h2, h4, _⟩, h3⟩ := h
  exact ⟨a, c, by rw [h2, h1], by omega⟩
set_option maxRecDepth 100000 in
set_option maxHeartbeats 2000000 in
theorem same_any (u v : Value) (X Y : List (List Nat)) (w : World) (hu : IsLL w u X) (hv : IsLL w v Y) :
    Calls Try.prog 30 #[u, v] w fun e w' => e = .returned (.bool (X == Y)) ∧ Below w.heap.size w w' := by
  obtain ⟨a, c, rfl, hl1⟩ := isLL_slice hu
  obtain ⟨a2, c2, rfl, hl2⟩ := isLL_slice hv
  have HU := hid hu
  have HV := hid hv
  clear hu hv
  obtain ⟨r, hr⟩ : ∃ r, r = (X == Y) := ⟨_, rfl⟩
  have HR := hid hr
  rw [← hr]
  clear hr
  obtain ⟨n, hn⟩ : ∃ n, n = X.length := ⟨_, rfl⟩
  obtain ⟨m, hm⟩ : ∃ m, m = Y.length := ⟨_, rfl⟩
  have HN := hid hn
  have HM := hid hm
  rw [← hn] at hl1 HU ⊢
  rw [← hm] at hl2 HV ⊢
  clear hn hm
  by_cases hnm : n = m
  · subst hnm
    go_enter Try.func30, Try.ntmps30
    go_wp2_with fail
    go_loopw [5] (fun zv wr => ∃ i : Nat, zv = .int .i64 i ∧ i ≤ n ∧ Hid (X.take i = Y.take i) ∧ Hid (Below w.heap.size w wr)) (fun zv _ => n - (intOf zv).toNat)
    case atStart => exact ⟨0, rfl, Nat.zero_le _, by show _ = _; rfl, Below.refl _ _⟩
    case round =>
      obtain ⟨i, rfl, hi, HI, HBr⟩ := hrel
      by_cases hlt : i < n
      · have hli : i < X.length := by rw [← HN.out]; exact hlt
        have hlj : i < Y.length := by rw [← HM.out]; exact hlt
        obtain ⟨g, pa, pn, pc, rfl, -, hc, hp⟩ := isLL_at (isLL_below HU.out HBr.out) i hli
        obtain ⟨g2, qa, qn, qc, rfl, -, hc2, hq⟩ := isLL_at (isLL_below HV.out HBr.out) i hlj
        have HTS := hid (take_sameL hli hlj HI.out)
        have HNE : Hid (X.getD i [] ≠ Y.getD i [] → r = false) := fun h => by
          rw [HR.out, beq_eq_false_iff_ne]
          intro e
          exact h (by rw [e])
        have hsl := same_lt (X.getD i []) (Y.getD i [])
        have KEEP : Hid (∀ w', Below wr.heap.size wr w' → w'.cell? ⟨g, i, none⟩ = some (.slice pa pn pc) ∧ w'.cell? ⟨g2, i, none⟩ = some (.slice qa qn qc)) := fun w' hb => ⟨(hb.cell (p := ⟨g, i, none⟩) (World.block_lt_of_cell? wr _ hc)).trans hc, (hb.cell (p := ⟨g2, i, none⟩) (World.block_lt_of_cell? wr _ hc2)).trans hc2⟩
        have L1 : Hid (∀ w', Below wr.heap.size wr w' → Calls Try.prog 57 #[.slice pa pn pc, .slice qa qn qc] w' fun e w'' => e = .returned (.bool (ltL (X.getD i []) (Y.getD i []))) ∧ Below w'.heap.size w' w'') := fun w' hb => less_any _ _ _ _ w' (isV_below hp hb) (isV_below hq hb)
        have L2 : Hid (∀ w', Below wr.heap.size wr w' → Calls Try.prog 57 #[.slice qa qn qc, .slice pa pn pc] w' fun e w'' => e = .returned (.bool (ltL (Y.getD i []) (X.getD i []))) ∧ Below w'.heap.size w' w'') := fun w' hb => less_any _ _ _ _ w' (isV_below hq hb) (isV_below hp hb)
        clear hc hc2 hp hq
        generalize X.getD i [] = x at *
        generalize Y.getD i [] = y at *
        generalize ltL x y = b1 at *
        generalize ltL y x = b2 at *
        go_upto_region 6 with fail
        cases b1 with
        | true =>
          have HF := hid (HNE.out (fun e => by subst e; simp at hsl))
          clear hsl HTS HNE
          refine wp_region_held_drew (S := fun w' => w'.cell? ⟨g, i, none⟩ = some (.slice pa pn pc) ∧ w'.cell? ⟨g2, i, none⟩ = some (.slice qa qn qc)) (by kernel_rfl) (KEEP.out _ ((Below.refl _ _).drew)) (fun hHeld => ?_)
          have HU0 : Hid (Below wr.heap.size wr wr.drew) := (Below.refl _ _).drew
          generalize wr.drew = u0 at *
          refine take_at (i := 0) 17 (v := .slice (some ⟨g, 0, none⟩) n c) rfl (by kernel_rfl) (by kernel_rfl) (by kernel_rfl) rfl (fun _ _ _ h => h) (by rfl) (fun w hSw => ?_) hHeld ?_
          · (try dsimp only at hSw); go_simp
          simp only [Act.put, List.setIfInBounds_toArray, List.set_cons_zero, List.set_cons_succ]
          refine take_at (i := 1) 18 (v := .int .i64 i) rfl (by kernel_rfl) (by kernel_rfl) (by kernel_rfl) rfl (fun _ _ _ h => h) (by rfl) (fun w hSw => ?_) hHeld ?_
          · (try dsimp only at hSw); go_simp
          simp only [Act.put, List.setIfInBounds_toArray, List.set_cons_zero, List.set_cons_succ]
          refine take_at (i := 2) 19 (v := .pointer (some ⟨g, i, none⟩)) rfl (by kernel_rfl) (by kernel_rfl) (by kernel_rfl) rfl (fun _ _ _ h => h) (by rfl) (fun w hSw => ?_) hHeld ?_
          · (try dsimp only at hSw); go_simp
          simp only [Act.put, List.setIfInBounds_toArray, List.set_cons_zero, List.set_cons_succ]
          refine take_at (i := 3) 20 (v := .slice pa pn pc) rfl (by kernel_rfl) (by kernel_rfl) (by kernel_rfl) rfl (fun _ _ _ h => h) (by rfl) (fun w hSw => ?_) hHeld ?_
          · (try dsimp only at hSw); go_simp
          simp only [Act.put, List.setIfInBounds_toArray, List.set_cons_zero, List.set_cons_succ]
          refine take_at (i := 4) 21 (v := .slice (some ⟨g2, 0, none⟩) n c2) rfl (by kernel_rfl) (by kernel_rfl) (by kernel_rfl) rfl (fun _ _ _ h => h) (by rfl) (fun w hSw => ?_) hHeld ?_
          · (try dsimp only at hSw); go_simp
          simp only [Act.put, List.setIfInBounds_toArray, List.set_cons_zero, List.set_cons_succ]
          refine take_at (i := 5) 22 (v := .int .i64 i) rfl (by kernel_rfl) (by kernel_rfl) (by kernel_rfl) rfl (fun _ _ _ h => h) (by rfl) (fun w hSw => ?_) hHeld ?_
          · (try dsimp only at hSw); go_simp
          simp only [Act.put, List.setIfInBounds_toArray, List.set_cons_zero, List.set_cons_succ]
          refine take_at (i := 6) 23 (v := .pointer (some ⟨g2, i, none⟩)) rfl (by kernel_rfl) (by kernel_rfl) (by kernel_rfl) rfl (fun _ _ _ h => h) (by rfl) (fun w hSw => ?_) hHeld ?_
          · (try dsimp only at hSw); go_simp
          simp only [Act.put, List.setIfInBounds_toArray, List.set_cons_zero, List.set_cons_succ]
          refine take_at (i := 7) 24 (v := .slice qa qn qc) rfl (by kernel_rfl) (by kernel_rfl) (by kernel_rfl) rfl (fun _ _ _ h => h) (by rfl) (fun w hSw => ?_) hHeld ?_
          · (try dsimp only at hSw); go_simp
          simp only [Act.put, List.setIfInBounds_toArray, List.set_cons_zero, List.set_cons_succ]
          refine wpAnyH_ready (rs := [8]) (by kernel_rfl) (by simp) ?_
          refine node_f57 25 20 24 _ _ rfl (by rfl) rfl rfl rfl rfl ((L1.out u0 HU0.out).mono ?_) AllReadyH.nil
          · rintro e u1 ⟨rfl, hb1⟩
            have HU1 := hid (below_step HU0.out hb1)
            have hHeld := KEEP.out _ HU1.out
            refine ⟨_, rfl, hHeld, ?_⟩
            clear hb1
            simp only [Act.put, List.setIfInBounds_toArray, List.set_cons_zero, List.set_cons_succ]
            refine take_at (i := 9) 26 (v := .bool true) rfl (by kernel_rfl) (by kernel_rfl) (by kernel_rfl) rfl (fun _ _ _ h => h) (by rfl) (fun w hSw => ?_) hHeld ?_
            · (try dsimp only at hSw); go_simp
            simp only [Act.put, List.setIfInBounds_toArray, List.set_cons_zero, List.set_cons_succ]
            refine skip_at (i := 10) 27 rfl (by kernel_rfl) (by kernel_rfl) (by kernel_rfl) rfl (fun _ _ _ h => h) (by rfl) hHeld ?_
            simp only [Act.put, List.setIfInBounds_toArray, List.set_cons_zero, List.set_cons_succ]
            refine skip_at (i := 11) 28 rfl (by kernel_rfl) (by kernel_rfl) (by kernel_rfl) rfl (fun _ _ _ h => h) (by rfl) hHeld ?_
            simp only [Act.put, List.setIfInBounds_toArray, List.set_cons_zero, List.set_cons_succ]
            refine skip_at (i := 12) 29 rfl (by kernel_rfl) (by kernel_rfl) (by kernel_rfl) rfl (fun _ _ _ h => h) (by rfl) hHeld ?_
            simp only [Act.put, List.setIfInBounds_toArray, List.set_cons_zero, List.set_cons_succ]
            refine skip_at (i := 13) 30 rfl (by kernel_rfl) (by kernel_rfl) (by kernel_rfl) rfl (fun _ _ _ h => h) (by rfl) hHeld ?_
            simp only [Act.put, List.setIfInBounds_toArray, List.set_cons_zero, List.set_cons_succ]
            refine skip_at (i := 14) 31 rfl (by kernel_rfl) (by kernel_rfl) (by kernel_rfl) rfl (fun _ _ _ h => h) (by rfl) hHeld ?_
            simp only [Act.put, List.setIfInBounds_toArray, List.set_cons_zero, List.set_cons_succ]
            refine skip_at (i := 15) 32 rfl (by kernel_rfl) (by kernel_rfl) (by kernel_rfl) rfl (fun _ _ _ h => h) (by rfl) hHeld ?_
            simp only [Act.put, List.setIfInBounds_toArray, List.set_cons_zero, List.set_cons_succ]
            refine skip_at (i := 16) 33 rfl (by kernel_rfl) (by kernel_rfl) (by kernel_rfl) rfl (fun _ _ _ h => h) (by rfl) hHeld ?_
            simp only [Act.put, List.setIfInBounds_toArray, List.set_cons_zero, List.set_cons_succ]
            refine skip_at (i := 17) 34 rfl (by kernel_rfl) (by kernel_rfl) (by kernel_rfl) rfl (fun _ _ _ h => h) (by rfl) hHeld ?_
            simp only [Act.put, List.setIfInBounds_toArray, List.set_cons_zero, List.set_cons_succ]
            refine skip_at (i := 18) 35 rfl (by kernel_rfl) (by kernel_rfl) (by kernel_rfl) rfl (fun _ _ _ h => h) (by rfl) hHeld ?_
            simp only [Act.put, List.setIfInBounds_toArray, List.set_cons_zero, List.set_cons_succ]
            refine take_at (i := 19) 36 (v := .bool true) rfl (by kernel_rfl) (by kernel_rfl) (by kernel_rfl) rfl (fun _ _ _ h => h) (by rfl) (fun w hSw => ?_) hHeld ?_
            · (try dsimp only at hSw); go_simp
            simp only [Act.put, List.setIfInBounds_toArray, List.set_cons_zero, List.set_cons_succ]
            refine wpAnyH_done (by kernel_rfl) ?_ _
            clear hHeld
            go_wp2_with fail
            go_ret
            exact ⟨by rw [HF.out]; rfl, below_step HBr.out HU1.out⟩
        | false =>
          have HEQ : Hid (b2 = false → X.take (i + 1) = Y.take (i + 1)) := fun e => HTS.out.2 (by rw [e] at hsl; simpa using hsl)
          have HNEQ : Hid (b2 = true → r = false) := fun e => HNE.out (fun e2 => by rw [e] at hsl; subst e2; simp at hsl)
          clear hsl HTS HNE
          refine wp_region_held_drew (S := fun w' => w'.cell? ⟨g, i, none⟩ = some (.slice pa pn pc) ∧ w'.cell? ⟨g2, i, none⟩ = some (.slice qa qn qc)) (by kernel_rfl) (KEEP.out _ ((Below.refl _ _).drew)) (fun hHeld => ?_)
          have HU0 : Hid (Below wr.heap.size wr wr.drew) := (Below.refl _ _).drew
          generalize wr.drew = u0 at *
          refine take_at (i := 0) 17 (v := .slice (some ⟨g, 0, none⟩) n c) rfl (by kernel_rfl) (by kernel_rfl) (by kernel_rfl) rfl (fun _ _ _ h => h) (by rfl) (fun w hSw => ?_) hHeld ?_
          · (try dsimp only at hSw); go_simp
          simp only [Act.put, List.setIfInBounds_toArray, List.set_cons_zero, List.set_cons_succ]
          refine take_at (i := 1) 18 (v := .int .i64 i) rfl (by kernel_rfl) (by kernel_rfl) (by kernel_rfl) rfl (fun _ _ _ h => h) (by rfl) (fun w hSw => ?_) hHeld ?_
          · (try dsimp only at hSw); go_simp
          simp only [Act.put, List.setIfInBounds_toArray, List.set_cons_zero, List.set_cons_succ]
          refine take_at (i := 2) 19 (v := .pointer (some ⟨g, i, none⟩)) rfl (by kernel_rfl) (by kernel_rfl) (by kernel_rfl) rfl (fun _ _ _ h => h) (by rfl) (fun w hSw => ?_) hHeld ?_
          · (try dsimp only at hSw); go_simp
          simp only [Act.put, List.setIfInBounds_toArray, List.set_cons_zero, List.set_cons_succ]
          refine take_at (i := 3) 20 (v := .slice pa pn pc) rfl (by kernel_rfl) (by kernel_rfl) (by kernel_rfl) rfl (fun _ _ _ h => h) (by rfl) (fun w hSw => ?_) hHeld ?_
          · (try dsimp only at hSw); go_simp
          simp only [Act.put, List.setIfInBounds_toArray, List.set_cons_zero, List.set_cons_succ]
          refine take_at (i := 4) 21 (v := .slice (some ⟨g2, 0, none⟩) n c2) rfl (by kernel_rfl) (by kernel_rfl) (by kernel_rfl) rfl (fun _ _ _ h => h) (by rfl) (fun w hSw => ?_) hHeld ?_
          · (try dsimp only at hSw); go_simp
          simp only [Act.put, List.setIfInBounds_toArray, List.set_cons_zero, List.set_cons_succ]
          refine take_at (i := 5) 22 (v := .int .i64 i) rfl (by kernel_rfl) (by kernel_rfl) (by kernel_rfl) rfl (fun _ _ _ h => h) (by rfl) (fun w hSw => ?_) hHeld ?_
          · (try dsimp only at hSw); go_simp
          simp only [Act.put, List.setIfInBounds_toArray, List.set_cons_zero, List.set_cons_succ]
          refine take_at (i := 6) 23 (v := .pointer (some ⟨g2, i, none⟩)) rfl (by kernel_rfl) (by kernel_rfl) (by kernel_rfl) rfl (fun _ _ _ h => h) (by rfl) (fun w hSw => ?_) hHeld ?_
          · (try dsimp only at hSw); go_simp
          simp only [Act.put, List.setIfInBounds_toArray, List.set_cons_zero, List.set_cons_succ]
          refine take_at (i := 7) 24 (v := .slice qa qn qc) rfl (by kernel_rfl) (by kernel_rfl) (by kernel_rfl) rfl (fun _ _ _ h => h) (by rfl) (fun w hSw => ?_) hHeld ?_
          · (try dsimp only at hSw); go_simp
          simp only [Act.put, List.setIfInBounds_toArray, List.set_cons_zero, List.set_cons_succ]
          refine wpAnyH_ready (rs := [8]) (by kernel_rfl) (by simp) ?_
          refine node_f57 25 20 24 _ _ rfl (by rfl) rfl rfl rfl rfl ((L1.out u0 HU0.out).mono ?_) AllReadyH.nil
          · rintro e u1 ⟨rfl, hb1⟩
            have HU1 := hid (below_step HU0.out hb1)
            have hHeld := KEEP.out _ HU1.out
            refine ⟨_, rfl, hHeld, ?_⟩
            clear hb1
            simp only [Act.put, List.setIfInBounds_toArray, List.set_cons_zero, List.set_cons_succ]
            refine take_at (i := 9) 26 (v := .bool false) rfl (by kernel_rfl) (by kernel_rfl) (by kernel_rfl) rfl (fun _ _ _ h => h) (by rfl) (fun w hSw => ?_) hHeld ?_
            · (try dsimp only at hSw); go_simp
            simp only [Act.put, List.setIfInBounds_toArray, List.set_cons_zero, List.set_cons_succ]
            refine take_at (i := 10) 27 (v := .slice (some ⟨g2, 0, none⟩) n c2) rfl (by kernel_rfl) (by kernel_rfl) (by kernel_rfl) rfl (fun _ _ _ h => h) (by rfl) (fun w hSw => ?_) hHeld ?_
            · (try dsimp only at hSw); go_simp
            simp only [Act.put, List.setIfInBounds_toArray, List.set_cons_zero, List.set_cons_succ]
            refine take_at (i := 11) 28 (v := .int .i64 i) rfl (by kernel_rfl) (by kernel_rfl) (by kernel_rfl) rfl (fun _ _ _ h => h) (by rfl) (fun w hSw => ?_) hHeld ?_
            · (try dsimp only at hSw); go_simp
            simp only [Act.put, List.setIfInBounds_toArray, List.set_cons_zero, List.set_cons_succ]
            refine take_at (i := 12) 29 (v := .pointer (some ⟨g2, i, none⟩)) rfl (by kernel_rfl) (by kernel_rfl) (by kernel_rfl) rfl (fun _ _ _ h => h) (by rfl) (fun w hSw => ?_) hHeld ?_
            · (try dsimp only at hSw); go_simp
            simp only [Act.put, List.setIfInBounds_toArray, List.set_cons_zero, List.set_cons_succ]
            refine take_at (i := 13) 30 (v := .slice qa qn qc) rfl (by kernel_rfl) (by kernel_rfl) (by kernel_rfl) rfl (fun _ _ _ h => h) (by rfl) (fun w hSw => ?_) hHeld ?_
            · (try dsimp only at hSw); go_simp
            simp only [Act.put, List.setIfInBounds_toArray, List.set_cons_zero, List.set_cons_succ]
            refine take_at (i := 14) 31 (v := .slice (some ⟨g, 0, none⟩) n c) rfl (by kernel_rfl) (by kernel_rfl) (by kernel_rfl) rfl (fun _ _ _ h => h) (by rfl) (fun w hSw => ?_) hHeld ?_
            · (try dsimp only at hSw); go_simp
            simp only [Act.put, List.setIfInBounds_toArray, List.set_cons_zero, List.set_cons_succ]
            refine take_at (i := 15) 32 (v := .int .i64 i) rfl (by kernel_rfl) (by kernel_rfl) (by kernel_rfl) rfl (fun _ _ _ h => h) (by rfl) (fun w hSw => ?_) hHeld ?_
            · (try dsimp only at hSw); go_simp
            simp only [Act.put, List.setIfInBounds_toArray, List.set_cons_zero, List.set_cons_succ]
            refine take_at (i := 16) 33 (v := .pointer (some ⟨g, i, none⟩)) rfl (by kernel_rfl) (by kernel_rfl) (by kernel_rfl) rfl (fun _ _ _ h => h) (by rfl) (fun w hSw => ?_) hHeld ?_
            · (try dsimp only at hSw); go_simp
            simp only [Act.put, List.setIfInBounds_toArray, List.set_cons_zero, List.set_cons_succ]
            refine take_at (i := 17) 34 (v := .slice pa pn pc) rfl (by kernel_rfl) (by kernel_rfl) (by kernel_rfl) rfl (fun _ _ _ h => h) (by rfl) (fun w hSw => ?_) hHeld ?_
            · (try dsimp only at hSw); go_simp
            simp only [Act.put, List.setIfInBounds_toArray, List.set_cons_zero, List.set_cons_succ]
            refine wpAnyH_ready (rs := [18]) (by kernel_rfl) (by simp) ?_
            refine node_f57 35 30 34 _ _ rfl (by rfl) rfl rfl rfl rfl ((L2.out u1 HU1.out).mono ?_) AllReadyH.nil
            · rintro e u2 ⟨rfl, hb2⟩
              have HU2 := hid (below_step HU1.out hb2)
              have hHeld := KEEP.out _ HU2.out
              refine ⟨_, rfl, hHeld, ?_⟩
              clear hb2
              simp only [Act.put, List.setIfInBounds_toArray, List.set_cons_zero, List.set_cons_succ]
              refine take_at (i := 19) 36 (v := .bool b2) rfl (by kernel_rfl) (by kernel_rfl) (by kernel_rfl) rfl (fun _ _ _ h => h) (by rfl) (fun w hSw => ?_) hHeld ?_
              · (try dsimp only at hSw); go_simp
              simp only [Act.put, List.setIfInBounds_toArray, List.set_cons_zero, List.set_cons_succ]
              refine wpAnyH_done (by kernel_rfl) ?_ _
              clear hHeld
              cases b2
              · have HI2 := hid (HEQ.out rfl)
                go_wp2_with fail
                go_roundw
                case rel => exact ⟨i + 1, by go_num, by omega, HI2, below_step HBr.out HU2.out⟩
                case measure => simp [intOf]; omega
              · have HF := hid (HNEQ.out rfl)
                go_wp2_with fail
                go_ret
                exact ⟨by rw [HF.out]; rfl, below_step HBr.out HU2.out⟩
      · obtain rfl : i = n := by omega
        have HT : Hid (r = true) := by
          show _ = _
          have := HI.out
          rw [HN.out, List.take_length] at this
          rw [HR.out, beq_iff_eq, this, ← HN.out, HM.out, List.take_length]
        go_wp2_with fail
        go_ret
        exact ⟨by rw [HT.out]; rfl, HBr.out⟩
  · have HF : Hid (r = false) := by
      show _ = _
      rw [HR.out, beq_eq_false_iff_ne]
      intro e
      exact hnm (by rw [HN.out, HM.out, e])
    go_enter Try.func30, Try.ntmps30
    go_wp2_with fail
    go_ret
    exact ⟨by rw [HF.out]; rfl, Below.refl _ _⟩
end Go.Proofs.Ytaedbkdimpdngaa
