/-
  The braid as the program reads it; which letters are interlaced (27, 14).
-/
import Derived.Test.YtppkgilpmmhpoaaDoorBaseB
import Derived.Shelf.Abstract
namespace Go.Proofs.YtppkgilpmmhpoaaDoor
open Go.RowKit
/-- the curve of the braid of n crossings, at D -/
structure Cur (w : World) (D n wb wc pb : Nat) (gs cs : Nat → Nat) : Prop where
  nn : 1 ≤ n ∧ n ≤ 10
  box : w.heap[D]? = some (.cells #[.int .i64 (n : Int), .slice (some ⟨wb, 0, none⟩) (2 * n) wc, .slice (some ⟨pb, 0, none⟩) n n] 43)
  wd : ∀ i, i < 2 * n → w.cell? ⟨wb, i, none⟩ = some (.int .i64 ((i % n : Nat) : Int))
  pl : ∀ x, x < n → w.cell? ⟨pb, x, none⟩ = some (.slice (some ⟨gs x, 0, none⟩) 2 (cs x))
  p0 : ∀ x, x < n → w.cell? ⟨gs x, 0, none⟩ = some (.int .i64 (x : Int))
  p1 : ∀ x, x < n → w.cell? ⟨gs x, 1, none⟩ = some (.int .i64 ((n + x : Nat) : Int))
theorem Cur.below {w w' : World} {D n wb wc pb : Nat} {gs cs : Nat → Nat} (h : Cur w D n wb wc pb gs cs) (hb : Below w.heap.size w w') : Cur w' D n wb wc pb gs cs :=
  have k : ∀ {p : Addr} {v : Value}, w.cell? p = some v → w'.cell? p = some v := fun e => (hb.cell (World.block_lt_of_cell? w _ e)).trans e
  ⟨h.nn, (hb.block D (heap_lt h.box)).trans h.box, fun i hi => k (h.wd i hi), fun x hx => k (h.pl x hx), fun x hx => k (h.p0 x hx), fun x hx => k (h.p1 x hx)⟩
theorem eg27 : ∀ args w, (callFunc 27 args).run Tryd.prog w = .ok (.enter 27 args) w := enters_of Tryd.func27 (by kernel_rfl) rfl
theorem inside_any (k a b : Int) (P g c : Nat) (w : World) (hP : w.cell? ⟨P, 0, none⟩ = some (.slice (some ⟨g, 0, none⟩) 2 c)) (h0 : w.cell? ⟨g, 0, none⟩ = some (.int .i64 a)) (h1 : w.cell? ⟨g, 1, none⟩ = some (.int .i64 b)) :
    Calls Tryd.prog 27 #[.int .i64 k, .pointer (some ⟨P, 0, none⟩)] w fun e w' => e = .returned (.bool (decide (a < k) && decide (k < b))) ∧ w' = w := by
  by_cases ha : a < k
  · have ea : decide (a < k) = true := decide_eq_true ha
    rw [ea]
    by_cases hb : k < b
    · have eb : decide (k < b) = true := decide_eq_true hb
      rw [eb]
      go_enter Tryd.func27, Tryd.ntmps27
      go_wp2_with fail
      go_ret
      exact ⟨rfl, by first | rfl | trivial⟩
    · have eb : decide (k < b) = false := decide_eq_false hb
      rw [eb]
      go_enter Tryd.func27, Tryd.ntmps27
      go_wp2_with fail
      go_ret
      exact ⟨rfl, by first | rfl | trivial⟩
  · have ea : decide (a < k) = false := decide_eq_false ha
    rw [ea]
    go_enter Tryd.func27, Tryd.ntmps27
    go_wp2_with fail
    go_ret
    exact ⟨rfl, by first | rfl | trivial⟩
section
variable {md : Region.Mode} {ops : Array Oper} {Q : Exit → Act → World → Prop} {S : World → Prop} {fuel : Nat} {listed : Array Bool} {a : Act} {w : World} {i : Nat} {o : Oper} {rs : List Nat}
theorem node_ins (d kf k1 P g c : Nat) (v a' b' : Int) (r : Bool) (hi : ops[i]? = some o) (hgd : Region.wanted o (yielded ops a.tmps) = true) (ho : o.op = .call { callee := .value (.tmp kf), args := #[.tmp k1], argTypes := #[3] }) (hd : o.dst = some d)
    (hpf : a.tmps[kf]?.getD undef = .func (.func 27) #[] #[.pointer (some ⟨P, 0, none⟩)]) (hp1 : a.tmps[k1]?.getD undef = .int .i64 v)
    (hP : w.cell? ⟨P, 0, none⟩ = some (.slice (some ⟨g, 0, none⟩) 2 c)) (h0 : w.cell? ⟨g, 0, none⟩ = some (.int .i64 a')) (h1 : w.cell? ⟨g, 1, none⟩ = some (.int .i64 b')) (hr : (decide (a' < v) && decide (v < b')) = r) (hS : S w)
    (h : wpAnyH Tryd.prog md ops Q S fuel (listed.setIfInBounds i true) (a.put (some d) (.bool r)) w)
    (hs : AllReadyH Tryd.prog md ops Q S fuel listed a w rs) : AllReadyH Tryd.prog md ops Q S fuel listed a w (i :: rs) := by
  refine AllReadyH.cons hi (fun K hK => ?_) hs
  rw [if_pos hgd]
  have hc : Calls Tryd.prog 27 (#[.int .i64 v] ++ #[.pointer (some ⟨P, 0, none⟩)]) w fun e w' => e = .returned (.bool (decide (a' < v) && decide (v < b'))) ∧ w' = w := inside_any v a' b' P g c w hP h0 h1
  unfold Oper.wp execOp
  simp [ho, go_sem, hpf, hp1, eg27]
  refine Calls.mono (P := Tryd.prog) (by simpa using hc) ?_
  rintro e w' ⟨rfl, rfl⟩
  have hk := hK.out _ _ hS (fun _ => h)
  rw [hd]
  have hr2 : (decide (a' < v) && decide (v < b')) = r := hr
  first | (rw [hr2]; exact hk) | (simp only [hr2]; exact hk) | (subst hr2; exact hk)
theorem node_alloc22 (d : Nat) (hi : ops[i]? = some o) (hgd : o.guard = none) (ho : o.op = .alloc 22) (hd : o.dst = some d) (hS : S (w.alloc (.cells #[.slice none 0 0] 22)))
    (h : S (w.alloc (.cells #[.slice none 0 0] 22)) → wpAnyH Tryd.prog md ops Q S fuel (listed.setIfInBounds i true) (a.put (some d) (.pointer (some ⟨w.heap.size, 0, none⟩))) (w.alloc (.cells #[.slice none 0 0] 22)))
    (hs : AllReadyH Tryd.prog md ops Q S fuel listed a w rs) : AllReadyH Tryd.prog md ops Q S fuel listed a w (i :: rs) := by
  refine AllReadyH.cons hi (fun K hK => ?_) hs
  have hw : Region.wanted o (yielded ops a.tmps) = true := by simp [Region.wanted, hgd]
  rw [if_pos hw]
  have hk := hK.out _ _ hS h
  unfold Oper.wp execOp
  simp [ho, go_sem]
  rw [hd]
  exact hk
theorem node_store22 (k j X : Nat) (x : Value) (b : Option Addr) (n c : Nat) (hi : ops[i]? = some o) (hgd : o.guard = none) (ho : o.op = .store 22 (.tmp k) (.tmp j)) (hd : o.dst = none)
    (hp : a.tmps[k]?.getD undef = .pointer (some ⟨X, 0, none⟩)) (hv : a.tmps[j]?.getD undef = .slice b n c)
    (hh : w.heap[X]? = some (.cells #[x] 22)) (hS : S (w.setCell ⟨X, 0, none⟩ (.slice b n c)))
    (h : wpAnyH Tryd.prog md ops Q S fuel (listed.setIfInBounds i true) a (w.setCell ⟨X, 0, none⟩ (.slice b n c)))
    (hs : AllReadyH Tryd.prog md ops Q S fuel listed a w rs) : AllReadyH Tryd.prog md ops Q S fuel listed a w (i :: rs) := by
  refine AllReadyH.cons hi (fun K hK => ?_) hs
  have hw : Region.wanted o (yielded ops a.tmps) = true := by simp [Region.wanted, hgd]
  rw [if_pos hw]
  have k0 := box1 hh
  have f0 := box1_free hh
  have hk := hK.out _ _ hS (fun _ => h)
  unfold Oper.wp execOp
  simp [ho, go_sem, hp, hv, k0, f0]
  rw [hd]
  exact hk
end
set_option maxRecDepth 100000 in
set_option maxHeartbeats 4000000 in
theorem inter_any (D n wb wc pb : Nat) (gs cs : Nat → Nat) (x y : Nat) (w : World) (h : Cur w D n wb wc pb gs cs) (hx : x < n) (hy : y < n) :
    Calls Tryd.prog 14 #[.pointer (some ⟨D, 0, none⟩), .int .i64 (x : Int), .int .i64 (y : Int)] w fun e w' => e = .returned (.bool (x != y)) ∧ Below w.heap.size w w' := by
  have HC := hid h
  obtain ⟨hn1, hn10⟩ := h.nn
  have K1 : Hid (∀ w', Below w.heap.size w w' → w'.cell? ⟨D, 0, none⟩ = some (.int .i64 (n : Int)) ∧ w'.cell? ⟨D, 1, none⟩ = some (.slice (some ⟨wb, 0, none⟩) (2 * n) wc) ∧ w'.cell? ⟨D, 2, none⟩ = some (.slice (some ⟨pb, 0, none⟩) n n) ∧ w'.cell? ⟨pb, x, none⟩ = some (.slice (some ⟨gs x, 0, none⟩) 2 (cs x)) ∧ w'.cell? ⟨pb, y, none⟩ = some (.slice (some ⟨gs y, 0, none⟩) 2 (cs y))) := fun w' hb => by
    obtain ⟨k0, k1, k2⟩ := cells3_of (HC.out.below hb).box
    exact ⟨k0, k1, k2, (HC.out.below hb).pl x hx, (HC.out.below hb).pl y hy⟩
  clear h
  go_enter Tryd.func14, Tryd.ntmps14
  go_upto_region 1 with fail
  refine wp_region_held_drew (S := fun w' => w'.cell? ⟨D, 0, none⟩ = some (.int .i64 (n : Int)) ∧ w'.cell? ⟨D, 1, none⟩ = some (.slice (some ⟨wb, 0, none⟩) (2 * n) wc) ∧ w'.cell? ⟨D, 2, none⟩ = some (.slice (some ⟨pb, 0, none⟩) n n) ∧ w'.cell? ⟨pb, x, none⟩ = some (.slice (some ⟨gs x, 0, none⟩) 2 (cs x)) ∧ w'.cell? ⟨pb, y, none⟩ = some (.slice (some ⟨gs y, 0, none⟩) 2 (cs y))) (by kernel_rfl) (K1.out _ ((Below.refl _ _).drew)) (fun hHeld => ?_)
  have HU0 : Hid (Below w.heap.size w w.drew) := (Below.refl _ _).drew
  generalize w.drew = u0 at *
  refine take_at (i := 0) 10 (v := .pointer (some ⟨D, 0, none⟩)) rfl (by kernel_rfl) (by kernel_rfl) (by kernel_rfl) rfl (fun _ _ _ h => h) (by rfl) (fun w hSw => ?_) hHeld ?_
  · (try dsimp only at hSw); go_simp
  simp only [Act.put, List.setIfInBounds_toArray, List.set_cons_zero, List.set_cons_succ]
  refine take_at (i := 1) 11 (v := .pointer (some ⟨D, 0, none⟩)) rfl (by kernel_rfl) (by kernel_rfl) (by kernel_rfl) rfl (fun _ _ _ h => h) (by rfl) (fun w hSw => ?_) hHeld ?_
  · (try dsimp only at hSw); go_simp
  simp only [Act.put, List.setIfInBounds_toArray, List.set_cons_zero, List.set_cons_succ]
  refine take_at (i := 2) 12 (v := .pointer (some ⟨D, 2, none⟩)) rfl (by kernel_rfl) (by kernel_rfl) (by kernel_rfl) rfl (fun _ _ _ h => h) (by rfl) (fun w hSw => ?_) hHeld ?_
  · (try dsimp only at hSw); go_simp
  simp only [Act.put, List.setIfInBounds_toArray, List.set_cons_zero, List.set_cons_succ]
  refine take_at (i := 3) 13 (v := .slice (some ⟨pb, 0, none⟩) n n) rfl (by kernel_rfl) (by kernel_rfl) (by kernel_rfl) rfl (fun _ _ _ h => h) (by rfl) (fun w hSw => ?_) hHeld ?_
  · (try dsimp only at hSw); go_simp
  simp only [Act.put, List.setIfInBounds_toArray, List.set_cons_zero, List.set_cons_succ]
  refine take_at (i := 4) 14 (v := .int .i64 (x : Int)) rfl (by kernel_rfl) (by kernel_rfl) (by kernel_rfl) rfl (fun _ _ _ h => h) (by rfl) (fun w hSw => ?_) hHeld ?_
  · (try dsimp only at hSw); go_simp
  simp only [Act.put, List.setIfInBounds_toArray, List.set_cons_zero, List.set_cons_succ]
  refine take_at (i := 5) 15 (v := .pointer (some ⟨pb, x, none⟩)) rfl (by kernel_rfl) (by kernel_rfl) (by kernel_rfl) rfl (fun _ _ _ h => h) (by rfl) (fun w hSw => ?_) hHeld ?_
  · (try dsimp only at hSw); go_simp
  simp only [Act.put, List.setIfInBounds_toArray, List.set_cons_zero, List.set_cons_succ]
  refine take_at (i := 6) 16 (v := .slice (some ⟨gs x, 0, none⟩) 2 (cs x)) rfl (by kernel_rfl) (by kernel_rfl) (by kernel_rfl) rfl (fun _ _ _ h => h) (by rfl) (fun w hSw => ?_) hHeld ?_
  · (try dsimp only at hSw); go_simp
  simp only [Act.put, List.setIfInBounds_toArray, List.set_cons_zero, List.set_cons_succ]
  refine take_at (i := 7) 17 (v := .pointer (some ⟨D, 0, none⟩)) rfl (by kernel_rfl) (by kernel_rfl) (by kernel_rfl) rfl (fun _ _ _ h => h) (by rfl) (fun w hSw => ?_) hHeld ?_
  · (try dsimp only at hSw); go_simp
  simp only [Act.put, List.setIfInBounds_toArray, List.set_cons_zero, List.set_cons_succ]
  refine take_at (i := 8) 18 (v := .pointer (some ⟨D, 0, none⟩)) rfl (by kernel_rfl) (by kernel_rfl) (by kernel_rfl) rfl (fun _ _ _ h => h) (by rfl) (fun w hSw => ?_) hHeld ?_
  · (try dsimp only at hSw); go_simp
  simp only [Act.put, List.setIfInBounds_toArray, List.set_cons_zero, List.set_cons_succ]
  refine take_at (i := 9) 19 (v := .pointer (some ⟨D, 2, none⟩)) rfl (by kernel_rfl) (by kernel_rfl) (by kernel_rfl) rfl (fun _ _ _ h => h) (by rfl) (fun w hSw => ?_) hHeld ?_
  · (try dsimp only at hSw); go_simp
  simp only [Act.put, List.setIfInBounds_toArray, List.set_cons_zero, List.set_cons_succ]
  refine take_at (i := 10) 20 (v := .slice (some ⟨pb, 0, none⟩) n n) rfl (by kernel_rfl) (by kernel_rfl) (by kernel_rfl) rfl (fun _ _ _ h => h) (by rfl) (fun w hSw => ?_) hHeld ?_
  · (try dsimp only at hSw); go_simp
  simp only [Act.put, List.setIfInBounds_toArray, List.set_cons_zero, List.set_cons_succ]
  refine take_at (i := 11) 21 (v := .int .i64 (y : Int)) rfl (by kernel_rfl) (by kernel_rfl) (by kernel_rfl) rfl (fun _ _ _ h => h) (by rfl) (fun w hSw => ?_) hHeld ?_
  · (try dsimp only at hSw); go_simp
  simp only [Act.put, List.setIfInBounds_toArray, List.set_cons_zero, List.set_cons_succ]
  refine take_at (i := 12) 22 (v := .pointer (some ⟨pb, y, none⟩)) rfl (by kernel_rfl) (by kernel_rfl) (by kernel_rfl) rfl (fun _ _ _ h => h) (by rfl) (fun w hSw => ?_) hHeld ?_
  · (try dsimp only at hSw); go_simp
  simp only [Act.put, List.setIfInBounds_toArray, List.set_cons_zero, List.set_cons_succ]
  refine take_at (i := 13) 23 (v := .slice (some ⟨gs y, 0, none⟩) 2 (cs y)) rfl (by kernel_rfl) (by kernel_rfl) (by kernel_rfl) rfl (fun _ _ _ h => h) (by rfl) (fun w hSw => ?_) hHeld ?_
  · (try dsimp only at hSw); go_simp
  simp only [Act.put, List.setIfInBounds_toArray, List.set_cons_zero, List.set_cons_succ]
  refine wpAnyH_ready (rs := [14]) (by kernel_rfl) (by simp) ?_
  refine node_alloc22 7 rfl rfl rfl rfl (K1.out _ (below_step HU0.out (ba u0 _))) (fun hHeld => ?_) AllReadyH.nil
  · have HU1 := hid (below_step HU0.out (ba u0 (.cells #[.slice none 0 0] 22)))
    have HZ1 := hid (heap_alloc_new u0 (.cells #[.slice none 0 0] 22))
    obtain ⟨u1, hu⟩ : ∃ v, v = u0.alloc (.cells #[.slice none 0 0] 22) := ⟨_, rfl⟩
    obtain ⟨PX, hp⟩ : ∃ b, b = u0.heap.size := ⟨_, rfl⟩
    have HPX : Hid (w.heap.size ≤ PX) := by rw [hp]; exact HU0.out.size
    rw [← hu] at HU1 HZ1 ⊢
    rw [← hp] at HZ1 ⊢
    replace hHeld := K1.out _ HU1.out
    clear hu hp
    simp only [Act.put, List.setIfInBounds_toArray, List.set_cons_zero, List.set_cons_succ]
    refine wpAnyH_ready (rs := [15]) (by kernel_rfl) (by simp) ?_
    refine node_store22 7 16 PX _ _ _ _ rfl rfl rfl rfl rfl rfl HZ1.out (K1.out _ (HU1.out.setCell (p := ⟨PX, 0, none⟩) HPX.out _)) ?_ AllReadyH.nil
    · have HU2 := hid (HU1.out.setCell (p := ⟨PX, 0, none⟩) HPX.out (.slice (some ⟨gs x, 0, none⟩) 2 (cs x)))
      have HZ2 := hid (heap_setCell1 (u := .slice (some ⟨gs x, 0, none⟩) 2 (cs x)) HZ1.out)
      have hHeld := K1.out _ HU2.out
      obtain ⟨u2, hu2⟩ : ∃ v, v = u1.setCell ⟨PX, 0, none⟩ (.slice (some ⟨gs x, 0, none⟩) 2 (cs x)) := ⟨_, rfl⟩
      rw [← hu2] at HU2 HZ2 hHeld ⊢
      clear hu2
      refine take_at (i := 16) 8 (v := .slice (some ⟨gs y, 0, none⟩) 2 (cs y)) rfl (by kernel_rfl) (by kernel_rfl) (by kernel_rfl) rfl (fun _ _ _ h => h) (by rfl) (fun w hSw => ?_) hHeld ?_
      · (try dsimp only at hSw); go_simp
      simp only [Act.put, List.setIfInBounds_toArray, List.set_cons_zero, List.set_cons_succ]
      refine wpAnyH_done (by kernel_rfl) ?_ _
      clear hHeld
      have HZP := HZ2
      by_cases hxy : x = y
      · subst hxy
        have EB : Hid ((x != x) = false) := by show _ = _; simp
        go_upto_region 3 with fail
        refine wp_region_held_drew (S := fun w' => True) (by kernel_rfl) (trivial) (fun hHeld => ?_)
        have HV0 : Hid (Below u2.heap.size u2 u2.drew) := (Below.refl _ _).drew
        generalize u2.drew = t0 at *
        refine take_at (i := 0) 25 (v := .int .i64 (x : Int)) rfl (by kernel_rfl) (by kernel_rfl) (by kernel_rfl) rfl (fun _ _ _ h => h) (by rfl) (fun w hSw => ?_) hHeld ?_
        · (try dsimp only at hSw); go_simp
        simp only [Act.put, List.setIfInBounds_toArray, List.set_cons_zero, List.set_cons_succ]
        refine take_at (i := 1) 26 (v := .int .i64 (x : Int)) rfl (by kernel_rfl) (by kernel_rfl) (by kernel_rfl) rfl (fun _ _ _ h => h) (by rfl) (fun w hSw => ?_) hHeld ?_
        · (try dsimp only at hSw); go_simp
        simp only [Act.put, List.setIfInBounds_toArray, List.set_cons_zero, List.set_cons_succ]
        refine take_at (i := 2) 27 (v := .bool false) rfl (by kernel_rfl) (by kernel_rfl) (by kernel_rfl) rfl (fun _ _ _ h => h) (by rfl) (fun w hSw => ?_) hHeld ?_
        · (try dsimp only at hSw); go_simp
        simp only [Act.put, List.setIfInBounds_toArray, List.set_cons_zero, List.set_cons_succ]
        refine take_at (i := 3) 28 (v := .bool false) rfl (by kernel_rfl) (by kernel_rfl) (by kernel_rfl) rfl (fun _ _ _ h => h) (by rfl) (fun w hSw => ?_) hHeld ?_
        · (try dsimp only at hSw); go_simp
        simp only [Act.put, List.setIfInBounds_toArray, List.set_cons_zero, List.set_cons_succ]
        refine skip_at (i := 4) 29 rfl (by kernel_rfl) (by kernel_rfl) (by kernel_rfl) rfl (fun _ _ _ h => h) (by rfl) hHeld ?_
        simp only [Act.put, List.setIfInBounds_toArray, List.set_cons_zero, List.set_cons_succ]
        refine skip_at (i := 5) 30 rfl (by kernel_rfl) (by kernel_rfl) (by kernel_rfl) rfl (fun _ _ _ h => h) (by rfl) hHeld ?_
        simp only [Act.put, List.setIfInBounds_toArray, List.set_cons_zero, List.set_cons_succ]
        refine skip_at (i := 6) 31 rfl (by kernel_rfl) (by kernel_rfl) (by kernel_rfl) rfl (fun _ _ _ h => h) (by rfl) hHeld ?_
        simp only [Act.put, List.setIfInBounds_toArray, List.set_cons_zero, List.set_cons_succ]
        refine skip_at (i := 7) 32 rfl (by kernel_rfl) (by kernel_rfl) (by kernel_rfl) rfl (fun _ _ _ h => h) (by rfl) hHeld ?_
        simp only [Act.put, List.setIfInBounds_toArray, List.set_cons_zero, List.set_cons_succ]
        refine skip_at (i := 8) 33 rfl (by kernel_rfl) (by kernel_rfl) (by kernel_rfl) rfl (fun _ _ _ h => h) (by rfl) hHeld ?_
        simp only [Act.put, List.setIfInBounds_toArray, List.set_cons_zero, List.set_cons_succ]
        refine skip_at (i := 9) 34 rfl (by kernel_rfl) (by kernel_rfl) (by kernel_rfl) rfl (fun _ _ _ h => h) (by rfl) hHeld ?_
        simp only [Act.put, List.setIfInBounds_toArray, List.set_cons_zero, List.set_cons_succ]
        refine skip_at (i := 10) 35 rfl (by kernel_rfl) (by kernel_rfl) (by kernel_rfl) rfl (fun _ _ _ h => h) (by rfl) hHeld ?_
        simp only [Act.put, List.setIfInBounds_toArray, List.set_cons_zero, List.set_cons_succ]
        refine skip_at (i := 11) 36 rfl (by kernel_rfl) (by kernel_rfl) (by kernel_rfl) rfl (fun _ _ _ h => h) (by rfl) hHeld ?_
        simp only [Act.put, List.setIfInBounds_toArray, List.set_cons_zero, List.set_cons_succ]
        refine skip_at (i := 12) 37 rfl (by kernel_rfl) (by kernel_rfl) (by kernel_rfl) rfl (fun _ _ _ h => h) (by rfl) hHeld ?_
        simp only [Act.put, List.setIfInBounds_toArray, List.set_cons_zero, List.set_cons_succ]
        refine skip_at (i := 13) 38 rfl (by kernel_rfl) (by kernel_rfl) (by kernel_rfl) rfl (fun _ _ _ h => h) (by rfl) hHeld ?_
        simp only [Act.put, List.setIfInBounds_toArray, List.set_cons_zero, List.set_cons_succ]
        refine skip_at (i := 14) 39 rfl (by kernel_rfl) (by kernel_rfl) (by kernel_rfl) rfl (fun _ _ _ h => h) (by rfl) hHeld ?_
        simp only [Act.put, List.setIfInBounds_toArray, List.set_cons_zero, List.set_cons_succ]
        refine take_at (i := 15) 40 (v := .bool false) rfl (by kernel_rfl) (by kernel_rfl) (by kernel_rfl) rfl (fun _ _ _ h => h) (by rfl) (fun w hSw => ?_) hHeld ?_
        · (try dsimp only at hSw); go_simp
        simp only [Act.put, List.setIfInBounds_toArray, List.set_cons_zero, List.set_cons_succ]
        refine take_at (i := 16) 6 (v := .bool false) rfl (by kernel_rfl) (by kernel_rfl) (by kernel_rfl) rfl (fun _ _ _ h => h) (by rfl) (fun w hSw => ?_) hHeld ?_
        · (try dsimp only at hSw); go_simp
        simp only [Act.put, List.setIfInBounds_toArray, List.set_cons_zero, List.set_cons_succ]
        refine wpAnyH_done (by kernel_rfl) ?_ _
        clear hHeld
        have HF := hid (below_step HU2.out HV0.out)
        go_wp2_with fail
        go_ret
        exact ⟨by rw [EB.out]; rfl, HF.out⟩
      · have EB : Hid ((x != y) = true) := bne_iff_ne.2 hxy
        have ebi : ((x : Int) != (y : Int)) = true := bne_iff_ne.2 (by omega)
        have K3 : Hid (∀ w', Below u2.heap.size u2 w' → w'.cell? ⟨PX, 0, none⟩ = some (.slice (some ⟨gs x, 0, none⟩) 2 (cs x)) ∧ w'.cell? ⟨gs x, 0, none⟩ = some (.int .i64 (x : Int)) ∧ w'.cell? ⟨gs x, 1, none⟩ = some (.int .i64 ((n + x : Nat) : Int)) ∧ w'.cell? ⟨gs y, 0, none⟩ = some (.int .i64 (y : Int)) ∧ w'.cell? ⟨gs y, 1, none⟩ = some (.int .i64 ((n + y : Nat) : Int))) := fun w' hb =>
          ⟨box1 ((hb.block _ (heap_lt HZP.out)).trans HZP.out), (HC.out.below (below_step HU2.out hb)).p0 x hx, (HC.out.below (below_step HU2.out hb)).p1 x hx, (HC.out.below (below_step HU2.out hb)).p0 y hy, (HC.out.below (below_step HU2.out hb)).p1 y hy⟩
        obtain ⟨B1, hB1⟩ : ∃ B, B = (decide (x < y)) := ⟨_, rfl⟩
        have HI1 : Hid ((decide ((x : Int) < (y : Int)) && decide ((y : Int) < ((n + x : Nat) : Int))) = B1) := by
          show _ = _
          rw [hB1, decide_eq_true (by omega : (y : Int) < ((n + x : Nat) : Int)), Bool.and_true]
          exact decide_eq_decide.2 (by omega)
        have HI2 : Hid ((decide ((x : Int) < ((n + y : Nat) : Int)) && decide (((n + y : Nat) : Int) < ((n + x : Nat) : Int))) = !B1) := by
          show _ = _
          rw [hB1, decide_eq_true (by omega : (x : Int) < ((n + y : Nat) : Int)), Bool.true_and, ← decide_not]
          exact decide_eq_decide.2 (by omega)
        clear hB1
        go_upto_region 3 with fail
        refine wp_region_held_drew (S := fun w' => w'.cell? ⟨PX, 0, none⟩ = some (.slice (some ⟨gs x, 0, none⟩) 2 (cs x)) ∧ w'.cell? ⟨gs x, 0, none⟩ = some (.int .i64 (x : Int)) ∧ w'.cell? ⟨gs x, 1, none⟩ = some (.int .i64 ((n + x : Nat) : Int)) ∧ w'.cell? ⟨gs y, 0, none⟩ = some (.int .i64 (y : Int)) ∧ w'.cell? ⟨gs y, 1, none⟩ = some (.int .i64 ((n + y : Nat) : Int))) (by kernel_rfl) (K3.out _ ((Below.refl _ _).drew)) (fun hHeld => ?_)
        have HV0 : Hid (Below u2.heap.size u2 u2.drew) := (Below.refl _ _).drew
        generalize u2.drew = t0 at *
        refine take_at (i := 0) 25 (v := .int .i64 (x : Int)) rfl (by kernel_rfl) (by kernel_rfl) (by kernel_rfl) rfl (fun _ _ _ h => h) (by rfl) (fun w hSw => ?_) hHeld ?_
        · (try dsimp only at hSw); go_simp
        simp only [Act.put, List.setIfInBounds_toArray, List.set_cons_zero, List.set_cons_succ]
        refine take_at (i := 1) 26 (v := .int .i64 (y : Int)) rfl (by kernel_rfl) (by kernel_rfl) (by kernel_rfl) rfl (fun _ _ _ h => h) (by rfl) (fun w hSw => ?_) hHeld ?_
        · (try dsimp only at hSw); go_simp
        simp only [Act.put, List.setIfInBounds_toArray, List.set_cons_zero, List.set_cons_succ]
        refine take_at (i := 2) 27 (v := .bool true) rfl (by kernel_rfl) (by kernel_rfl) (by kernel_rfl) rfl (fun _ _ _ h => h) (by rfl) (fun w hSw => ?_) hHeld ?_
        · (try dsimp only at hSw); go_simp
        simp only [Act.put, List.setIfInBounds_toArray, List.set_cons_zero, List.set_cons_succ]
        refine take_at (i := 3) 28 (v := .bool true) rfl (by kernel_rfl) (by kernel_rfl) (by kernel_rfl) rfl (fun _ _ _ h => h) (by rfl) (fun w hSw => ?_) hHeld ?_
        · (try dsimp only at hSw); go_simp
        simp only [Act.put, List.setIfInBounds_toArray, List.set_cons_zero, List.set_cons_succ]
        refine take_at (i := 4) 29 (v := .func (.func 27) #[] #[.pointer (some ⟨PX, 0, none⟩)]) rfl (by kernel_rfl) (by kernel_rfl) (by kernel_rfl) rfl (fun _ _ _ h => h) (by rfl) (fun w hSw => ?_) hHeld ?_
        · (try dsimp only at hSw); go_simp
        simp only [Act.put, List.setIfInBounds_toArray, List.set_cons_zero, List.set_cons_succ]
        refine take_at (i := 5) 30 (v := .slice (some ⟨gs y, 0, none⟩) 2 (cs y)) rfl (by kernel_rfl) (by kernel_rfl) (by kernel_rfl) rfl (fun _ _ _ h => h) (by rfl) (fun w hSw => ?_) hHeld ?_
        · (try dsimp only at hSw); go_simp
        simp only [Act.put, List.setIfInBounds_toArray, List.set_cons_zero, List.set_cons_succ]
        refine take_at (i := 6) 31 (v := .pointer (some ⟨gs y, 0, none⟩)) rfl (by kernel_rfl) (by kernel_rfl) (by kernel_rfl) rfl (fun _ _ _ h => h) (by rfl) (fun w hSw => ?_) hHeld ?_
        · (try dsimp only at hSw); go_simp
        simp only [Act.put, List.setIfInBounds_toArray, List.set_cons_zero, List.set_cons_succ]
        refine take_at (i := 7) 32 (v := .int .i64 (y : Int)) rfl (by kernel_rfl) (by kernel_rfl) (by kernel_rfl) rfl (fun _ _ _ h => h) (by rfl) (fun w hSw => ?_) hHeld ?_
        · (try dsimp only at hSw); go_simp
        simp only [Act.put, List.setIfInBounds_toArray, List.set_cons_zero, List.set_cons_succ]
        refine take_at (i := 9) 34 (v := .func (.func 27) #[] #[.pointer (some ⟨PX, 0, none⟩)]) rfl (by kernel_rfl) (by kernel_rfl) (by kernel_rfl) rfl (fun _ _ _ h => h) (by rfl) (fun w hSw => ?_) hHeld ?_
        · (try dsimp only at hSw); go_simp
        simp only [Act.put, List.setIfInBounds_toArray, List.set_cons_zero, List.set_cons_succ]
        refine take_at (i := 10) 35 (v := .slice (some ⟨gs y, 0, none⟩) 2 (cs y)) rfl (by kernel_rfl) (by kernel_rfl) (by kernel_rfl) rfl (fun _ _ _ h => h) (by rfl) (fun w hSw => ?_) hHeld ?_
        · (try dsimp only at hSw); go_simp
        simp only [Act.put, List.setIfInBounds_toArray, List.set_cons_zero, List.set_cons_succ]
        refine take_at (i := 11) 36 (v := .pointer (some ⟨gs y, 1, none⟩)) rfl (by kernel_rfl) (by kernel_rfl) (by kernel_rfl) rfl (fun _ _ _ h => h) (by rfl) (fun w hSw => ?_) hHeld ?_
        · (try dsimp only at hSw); go_simp
        simp only [Act.put, List.setIfInBounds_toArray, List.set_cons_zero, List.set_cons_succ]
        refine take_at (i := 12) 37 (v := .int .i64 ((n + y : Nat) : Int)) rfl (by kernel_rfl) (by kernel_rfl) (by kernel_rfl) rfl (fun _ _ _ h => h) (by rfl) (fun w hSw => ?_) hHeld ?_
        · (try dsimp only at hSw); go_simp
        simp only [Act.put, List.setIfInBounds_toArray, List.set_cons_zero, List.set_cons_succ]
        refine wpAnyH_ready (rs := [8]) (by kernel_rfl) (by simp) ?_
        refine node_ins 33 29 32 PX (gs x) (cs x) (y : Int) (x : Int) ((n + x : Nat) : Int) _ rfl (by rfl) rfl rfl rfl rfl hHeld.1 hHeld.2.1 hHeld.2.2.1 HI1.out hHeld ?_ AllReadyH.nil
        · skip
          simp only [Act.put, List.setIfInBounds_toArray, List.set_cons_zero, List.set_cons_succ]
          refine wpAnyH_ready (rs := [13]) (by kernel_rfl) (by simp) ?_
          refine node_ins 38 34 37 PX (gs x) (cs x) ((n + y : Nat) : Int) (x : Int) ((n + x : Nat) : Int) _ rfl (by rfl) rfl rfl rfl rfl hHeld.1 hHeld.2.1 hHeld.2.2.1 HI2.out hHeld ?_ AllReadyH.nil
          · skip
            simp only [Act.put, List.setIfInBounds_toArray, List.set_cons_zero, List.set_cons_succ]
            refine take_at (i := 14) 39 (v := .bool true) rfl (by kernel_rfl) (by kernel_rfl) (by kernel_rfl) rfl (fun _ _ _ h => h) (by rfl) (fun w hSw => ?_) hHeld ?_
            · (try dsimp only at hSw); go_simp; first | done | (cases B1 <;> rfl)
            simp only [Act.put, List.setIfInBounds_toArray, List.set_cons_zero, List.set_cons_succ]
            refine take_at (i := 15) 40 (v := .bool true) rfl (by kernel_rfl) (by kernel_rfl) (by kernel_rfl) rfl (fun _ _ _ h => h) (by rfl) (fun w hSw => ?_) hHeld ?_
            · (try dsimp only at hSw); go_simp
            simp only [Act.put, List.setIfInBounds_toArray, List.set_cons_zero, List.set_cons_succ]
            refine take_at (i := 16) 6 (v := .bool true) rfl (by kernel_rfl) (by kernel_rfl) (by kernel_rfl) rfl (fun _ _ _ h => h) (by rfl) (fun w hSw => ?_) hHeld ?_
            · (try dsimp only at hSw); go_simp
            simp only [Act.put, List.setIfInBounds_toArray, List.set_cons_zero, List.set_cons_succ]
            refine wpAnyH_done (by kernel_rfl) ?_ _
            clear hHeld
            have HF := hid (below_step HU2.out HV0.out)
            go_wp2_with fail
            go_ret
            exact ⟨by rw [EB.out]; rfl, HF.out⟩
end Go.Proofs.YtppkgilpmmhpoaaDoor
