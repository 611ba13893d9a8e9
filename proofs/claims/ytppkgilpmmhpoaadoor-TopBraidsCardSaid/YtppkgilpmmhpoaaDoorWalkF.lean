/-
  The genus of the braid (26).
-/
import Derived.Test.YtppkgilpmmhpoaaDoorWalkE
namespace Go.Proofs.YtppkgilpmmhpoaaDoor
open Go.RowKit
section
variable {md : Region.Mode} {ops : Array Oper} {Q : Exit → Act → World → Prop} {S : World → Prop} {fuel : Nat} {listed : Array Bool} {a : Act} {w : World} {i : Nat} {o : Oper} {rs : List Nat}
theorem node_f25 (d : Nat) (k1 k2 : Nat) (v1 v2 : Value) (hi : ops[i]? = some o) (hgd : Region.wanted o (yielded ops a.tmps) = true) (ho : o.op = .call { callee := .value (.func 25), args := #[.tmp k1, .tmp k2], argTypes := #[39, 22] }) (hd : o.dst = some d)
    (hp1 : a.tmps[k1]?.getD undef = v1)
    (hp2 : a.tmps[k2]?.getD undef = v2)
    (h : Calls Tryd.prog 25 #[v1, v2] w fun e w' => ∃ u, e = .returned u ∧ S w' ∧ wpAnyH Tryd.prog md ops Q S fuel (listed.setIfInBounds i true) (a.put (some d) u) w')
    (hs : AllReadyH Tryd.prog md ops Q S fuel listed a w rs) : AllReadyH Tryd.prog md ops Q S fuel listed a w (i :: rs) := by
  refine AllReadyH.cons hi (fun K hK => ?_) hs
  rw [if_pos hgd]
  unfold Oper.wp execOp
  simp [ho, go_sem, hp1, hp2]
  refine h.mono ?_
  rintro e w' ⟨u, rfl, h1, h2⟩
  have hk := hK.out _ _ h1 (fun _ => h2)
  rw [hd]
  exact hk
end
theorem facesF_len (n sg : Nat) : ∀ k b s, (facesF n sg k b s).length ≤ k
  | 0, _, _ => Nat.le_refl _
  | k + 1, b, s => by
    show (if s.testBit b = true then _ else _ : List (List Nat)).length ≤ _
    split
    · exact Nat.le_succ_of_le (facesF_len n sg k _ _)
    · exact Nat.succ_le_succ (facesF_len n sg k _ _)
theorem faces_len (n sg : Nat) : (faces n sg).length ≤ 4 * n := facesF_len n sg _ _ _
theorem gen_bound {n sg : Nat} (hn : n ≤ 10) : -20 ≤ gen n sg ∧ gen n sg ≤ 20 := by
  have h := faces_len n sg
  unfold gen
  generalize (faces n sg).length = k at *
  obtain ⟨z, hz⟩ : ∃ z : Int, z = (n : Int) + 2 - (k : Int) := ⟨_, rfl⟩
  rw [← hz]
  by_cases h0 : 0 ≤ z
  · rw [Int.tdiv_eq_ediv_of_nonneg h0]; omega
  · obtain ⟨y, hy⟩ : ∃ y : Int, z = -y := ⟨-z, by omega⟩
    rw [hy, Int.neg_tdiv, Int.tdiv_eq_ediv_of_nonneg (by omega)]; omega
set_option maxRecDepth 100000 in
set_option maxHeartbeats 4000000 in
theorem gen_any (D n wb wc pb : Nat) (gs cs : Nat → Nat) (sg sgb sc : Nat) (w : World) (h : Cur w D n wb wc pb gs cs) (hs : ∀ x, x < n → w.cell? ⟨sgb, x, none⟩ = some (.int .i64 (if sg.testBit x then 1 else -1))) :
    Calls Tryd.prog 26 #[.pointer (some ⟨D, 0, none⟩), .slice (some ⟨sgb, 0, none⟩) n sc] w fun e w' => e = .returned (.int .i64 (gen n sg)) ∧ Below w.heap.size w w' := by
  obtain ⟨hn1, hn10⟩ := h.nn
  have HC := hid h
  have FC : Hid (∀ w', Below w.heap.size w w' → Calls Tryd.prog 25 #[.pointer (some ⟨D, 0, none⟩), .slice (some ⟨sgb, 0, none⟩) n sc] w' fun e w'' => ∃ u, e = .returned u ∧ (∃ us, OwnFL n w'' w'.heap.size u us (faces n sg)) ∧ Below w'.heap.size w' w'') := fun w' hb => faces_any D n wb wc pb gs cs sg sgb sc w' (h.below hb) (fun x hx => (hb.cell (World.block_lt_of_cell? w _ (hs x hx))).trans (hs x hx))
  have hk40 := faces_len n sg
  have hgb := gen_bound (sg := sg) hn10
  obtain ⟨k, hk⟩ : ∃ k, k = (faces n sg).length := ⟨_, rfl⟩
  have HK : Hid ((faces n sg).length = k) := hk.symm
  obtain ⟨g, hg⟩ : ∃ g, g = gen n sg := ⟨_, rfl⟩
  have HG : Hid (((n : Int) + 2 - (k : Int)).tdiv 2 = g) := by rw [hg, hk]; rfl
  rw [← hg] at hgb ⊢
  rw [← hk] at hk40
  have hk41 : k ≤ 40 := by omega
  clear h hs hk hg hk40
  go_enter Tryd.func26, Tryd.ntmps26
  go_upto_region 1 with fail
  refine wp_region_held_drew (S := fun w' => w'.heap[D]? = some (.cells #[.int .i64 (n : Int), .slice (some ⟨wb, 0, none⟩) (2 * n) wc, .slice (some ⟨pb, 0, none⟩) n n] 43)) (by kernel_rfl) (HC.out.below ((Below.refl _ _).drew)).box (fun hHeld => ?_)
  have HU0 : Hid (Below w.heap.size w w.drew) := (Below.refl _ _).drew
  generalize w.drew = u0 at *
  refine take_at (i := 0) 5 (v := .pointer (some ⟨D, 0, none⟩)) rfl (by kernel_rfl) (by kernel_rfl) (by kernel_rfl) rfl (fun _ _ _ h => h) (by rfl) (fun w hSw => ?_) hHeld ?_
  · (try dsimp only at hSw); go_simp
  simp only [Act.put, List.setIfInBounds_toArray, List.set_cons_zero, List.set_cons_succ]
  refine take_at (i := 1) 6 (v := .pointer (some ⟨D, 0, none⟩)) rfl (by kernel_rfl) (by kernel_rfl) (by kernel_rfl) rfl (fun _ _ _ h => h) (by rfl) (fun w hSw => ?_) hHeld ?_
  · (try dsimp only at hSw); go_simp
  simp only [Act.put, List.setIfInBounds_toArray, List.set_cons_zero, List.set_cons_succ]
  refine take_at (i := 2) 7 (v := .pointer (some ⟨D, 0, none⟩)) rfl (by kernel_rfl) (by kernel_rfl) (by kernel_rfl) rfl (fun _ _ _ h => h) (by rfl) (fun w hSw => ?_) hHeld ?_
  · (try dsimp only at hSw); go_simp
  simp only [Act.put, List.setIfInBounds_toArray, List.set_cons_zero, List.set_cons_succ]
  refine take_at (i := 3) 8 (v := .int .i64 (n : Int)) rfl (by kernel_rfl) (by kernel_rfl) (by kernel_rfl) rfl (fun _ _ _ h => h) (by rfl) (fun w hSw => ?_) hHeld ?_
  · (try dsimp only at hSw); obtain ⟨q0, q1, q2⟩ := cells3_of hSw; go_simp
  simp only [Act.put, List.setIfInBounds_toArray, List.set_cons_zero, List.set_cons_succ]
  refine take_at (i := 4) 9 (v := .int .i64 ((n : Int) + 2)) rfl (by kernel_rfl) (by kernel_rfl) (by kernel_rfl) rfl (fun _ _ _ h => h) (by rfl) (fun w hSw => ?_) hHeld ?_
  · (try dsimp only at hSw); go_simp; first | done | (rw [IntKind.wrap_i64]; omega)
  simp only [Act.put, List.setIfInBounds_toArray, List.set_cons_zero, List.set_cons_succ]
  refine take_at (i := 5) 10 (v := .pointer (some ⟨D, 0, none⟩)) rfl (by kernel_rfl) (by kernel_rfl) (by kernel_rfl) rfl (fun _ _ _ h => h) (by rfl) (fun w hSw => ?_) hHeld ?_
  · (try dsimp only at hSw); go_simp
  simp only [Act.put, List.setIfInBounds_toArray, List.set_cons_zero, List.set_cons_succ]
  refine take_at (i := 6) 11 (v := .slice (some ⟨sgb, 0, none⟩) n sc) rfl (by kernel_rfl) (by kernel_rfl) (by kernel_rfl) rfl (fun _ _ _ h => h) (by rfl) (fun w hSw => ?_) hHeld ?_
  · (try dsimp only at hSw); go_simp
  simp only [Act.put, List.setIfInBounds_toArray, List.set_cons_zero, List.set_cons_succ]
  refine wpAnyH_ready (rs := [7]) (by kernel_rfl) (by simp) ?_
  refine node_f25 12 10 11 (.pointer (some ⟨D, 0, none⟩)) (.slice (some ⟨sgb, 0, none⟩) n sc) rfl rfl rfl rfl rfl rfl ?_ AllReadyH.nil
  · refine (FC.out _ HU0.out).mono ?_
    rintro e w2 ⟨v2, rfl, ⟨us, ho2⟩, hb2⟩
    have hl2 : lenOf v2 = k := by rw [← HK.out, ← ho2.1]; exact ownV_len ho2.2.1
    obtain ⟨qa, qn, qc, rfl⟩ := ownV_sh ho2.2.1
    have hqn : qn = k := hl2
    subst hqn
    have HB2 := hid (below_step HU0.out hb2)
    clear hl2 ho2 hb2
    clear hHeld
    have hHeld := (HC.out.below HB2.out).box
    refine ⟨_, rfl, hHeld, ?_⟩
    simp only [Act.put, List.setIfInBounds_toArray, List.set_cons_zero, List.set_cons_succ]
    refine take_at (i := 8) 13 (v := .int .i64 (qn : Int)) rfl (by kernel_rfl) (by kernel_rfl) (by kernel_rfl) rfl (fun _ _ _ h => h) (by rfl) (fun w hSw => ?_) hHeld ?_
    · (try dsimp only at hSw); go_simp
    simp only [Act.put, List.setIfInBounds_toArray, List.set_cons_zero, List.set_cons_succ]
    refine take_at (i := 9) 14 (v := .int .i64 ((n : Int) + 2 - (qn : Int))) rfl (by kernel_rfl) (by kernel_rfl) (by kernel_rfl) rfl (fun _ _ _ h => h) (by rfl) (fun w hSw => ?_) hHeld ?_
    · (try dsimp only at hSw); go_simp; first | done | (rw [IntKind.wrap_i64]; omega)
    simp only [Act.put, List.setIfInBounds_toArray, List.set_cons_zero, List.set_cons_succ]
    refine take_at (i := 10) 15 (v := .int .i64 g) rfl (by kernel_rfl) (by kernel_rfl) (by kernel_rfl) rfl (fun _ _ _ h => h) (by rfl) (fun w hSw => ?_) hHeld ?_
    · (try dsimp only at hSw); go_simp; rw [HG.out]; first | done | (rw [IntKind.wrap_i64]; omega)
    simp only [Act.put, List.setIfInBounds_toArray, List.set_cons_zero, List.set_cons_succ]
    refine take_at (i := 11) 4 (v := .int .i64 g) rfl (by kernel_rfl) (by kernel_rfl) (by kernel_rfl) rfl (fun _ _ _ h => h) (by rfl) (fun w hSw => ?_) hHeld ?_
    · (try dsimp only at hSw); go_simp
    simp only [Act.put, List.setIfInBounds_toArray, List.set_cons_zero, List.set_cons_succ]
    refine wpAnyH_done (by kernel_rfl) ?_ _
    clear hHeld
    go_wp2_with fail
    go_ret
    exact ⟨by first | rfl | trivial, HB2.out⟩
end Go.Proofs.YtppkgilpmmhpoaaDoor
