/-
  Walks over chapter 12: a dispute is read.
-/
import Derived.Test.YtaedbkdimpdngaaBaseC
import Derived.Test.YtaedbkdimpdngaaWalkA
namespace Go.Proofs.Ytaedbkdimpdngaa
open Go.RowKit
section
variable {md : Region.Mode} {ops : Array Oper} {Q : Exit → Act → World → Prop} {S : World → Prop} {fuel : Nat} {listed : Array Bool} {a : Act} {w : World} {i : Nat} {o : Oper} {rs : List Nat}
theorem node_box82 (d k : Nat) (x y z : Value) (hi : ops[i]? = some o) (hgd : o.guard = none) (ho : o.op = .box 82 (.tmp k)) (hd : o.dst = some d)
    (hp : a.tmps[k]?.getD undef = .agg #[x, y, z]) (hS : S (w.alloc (.cells #[x, y, z] 82)))
    (h : S (w.alloc (.cells #[x, y, z] 82)) → wpAnyH Try.prog md ops Q S fuel (listed.setIfInBounds i true) (a.put (some d) (.pointer (some ⟨w.heap.size, 0, none⟩))) (w.alloc (.cells #[x, y, z] 82)))
    (hs : AllReadyH Try.prog md ops Q S fuel listed a w rs) : AllReadyH Try.prog md ops Q S fuel listed a w (i :: rs) := by
  refine AllReadyH.cons hi (fun K hK => ?_) hs
  have hw : Region.wanted o (yielded ops a.tmps) = true := by simp [Region.wanted, hgd]
  rw [if_pos hw]
  have hk := hK.out _ _ hS h
  unfold Oper.wp execOp
  simp [ho, go_sem, hp]
  rw [hd]
  exact hk
end
/-- .. with a pair in a box of its own -/
structure RdP (w0 w : World) (D b1 b2 n : Nat) (d : Dsp) (P A B : Nat) : Prop where
  r : Rds w0 w D b1 b2 n d
  p : w.heap[P]? = some (.cells #[.int .i64 (A : Int), .int .i64 (B : Int)] 45)
  np : P ≠ b1 ∧ P ≠ b2
structure Rd2P (w0 w : World) (D b1 b2 n : Nat) (d e : Dsp) (P A B : Nat) : Prop where
  r : Rd2 w0 w D b1 b2 n d e
  p : w.heap[P]? = some (.cells #[.int .i64 (A : Int), .int .i64 (B : Int)] 45)
  np : P ≠ b1 ∧ P ≠ b2
section
variable {w0 w w' : World} {D b1 b2 n P A B : Nat} {d e : Dsp}
theorem RdP.below (h : RdP w0 w D b1 b2 n d P A B) (hb : Below w.heap.size w w') : RdP w0 w' D b1 b2 n d P A B := ⟨h.r.below hb, (hb.block P (heap_lt h.p)).trans h.p, h.np⟩
theorem Rd2P.below (h : Rd2P w0 w D b1 b2 n d e P A B) (hb : Below w.heap.size w w') : Rd2P w0 w' D b1 b2 n d e P A B := ⟨h.r.below hb, (hb.block P (heap_lt h.p)).trans h.p, h.np⟩
theorem RdP.keep (h : RdP w0 w' D b1 b2 n d P A B) : w'.cell? ⟨D, 0, none⟩ = some (.int .i64 n) ∧ w'.cell? ⟨D, 1, none⟩ = some (.slice (some ⟨b1, 0, none⟩) n n) ∧ w'.cell? ⟨D, 2, none⟩ = some (.slice (some ⟨b2, 0, none⟩) n n) ∧ w'.cell? ⟨P, 0, none⟩ = some (.int .i64 A) ∧ w'.cell? ⟨P, 1, none⟩ = some (.int .i64 B) := by
  obtain ⟨h0, h1, h2⟩ := cells3_of h.r.box
  obtain ⟨h3, h4⟩ := cells2_of h.p
  exact ⟨h0, h1, h2, h3, h4⟩
theorem Rd2P.keep (h : Rd2P w0 w' D b1 b2 n d e P A B) : w'.cell? ⟨D, 0, none⟩ = some (.int .i64 n) ∧ w'.cell? ⟨D, 1, none⟩ = some (.slice (some ⟨b1, 0, none⟩) n n) ∧ w'.cell? ⟨D, 2, none⟩ = some (.slice (some ⟨b2, 0, none⟩) n n) ∧ w'.cell? ⟨P, 0, none⟩ = some (.int .i64 A) ∧ w'.cell? ⟨P, 1, none⟩ = some (.int .i64 B) := by
  obtain ⟨h0, h1, h2⟩ := cells3_of h.r.box
  obtain ⟨h3, h4⟩ := cells2_of h.p
  exact ⟨h0, h1, h2, h3, h4⟩
theorem RdP.set1 {l : List Pr} (h : RdP w0 w D b1 b2 n (dsp n l) P A B) (hA : A < n) (hB : B < n) {y : Nat} (hy : y = (byL (dsp n l)).getD A 0 ||| 2 ^ B) :
    Rd2P w0 (w.setCell ⟨b1, A, none⟩ (.int .u16 (y : Int))) D b1 b2 n (dsp n l) (dsp n (l ++ [((A : Int), (B : Int))])) P A B := by
  subst hy
  exact ⟨h.r.set1 hA hB, by rw [Below.heap_setCell _ _ _ _ h.np.1]; exact h.p, h.np⟩
theorem Rd2P.set2 {l : List Pr} (h : Rd2P w0 w D b1 b2 n (dsp n l) (dsp n (l ++ [((A : Int), (B : Int))])) P A B) (hA : A < n) (hB : B < n) {y : Nat} (hy : y = (fromL (dsp n l)).getD B 0 ||| 2 ^ A) :
    Rds w0 (w.setCell ⟨b2, B, none⟩ (.int .u16 (y : Int))) D b1 b2 n (dsp n (l ++ [((A : Int), (B : Int))])) := by
  subst hy
  exact h.r.set2 hA hB
theorem Rd2P.keep2 {l : List Pr} (h : Rd2P w0 w D b1 b2 n (dsp n l) e P A B) {y : Value} : (w.setCell ⟨b2, B, none⟩ y).cell? ⟨D, 0, none⟩ = some (.int .i64 n) ∧ (w.setCell ⟨b2, B, none⟩ y).cell? ⟨D, 1, none⟩ = some (.slice (some ⟨b1, 0, none⟩) n n) ∧ (w.setCell ⟨b2, B, none⟩ y).cell? ⟨D, 2, none⟩ = some (.slice (some ⟨b2, 0, none⟩) n n) ∧ (w.setCell ⟨b2, B, none⟩ y).cell? ⟨P, 0, none⟩ = some (.int .i64 A) ∧ (w.setCell ⟨b2, B, none⟩ y).cell? ⟨P, 1, none⟩ = some (.int .i64 B) := by
  obtain ⟨h0, h1, h2⟩ := cells3_of (t := 82) ((Below.heap_setCell w ⟨b2, B, none⟩ y D h.r.ne.2.2).trans h.r.box)
  obtain ⟨h3, h4⟩ := cells2_of (t := 45) ((Below.heap_setCell w ⟨b2, B, none⟩ y P h.np.2).trans h.p)
  exact ⟨h0, h1, h2, h3, h4⟩
end
theorem take_all {α : Type} (f : α → Bool) (xs : List α) (d : α) (i : Nat) (h : i < xs.length) : (xs.take (i + 1)).all f = ((xs.take i).all f && f (xs.getD i d)) := by
  rw [List.take_succ_eq_append_getElem h, List.all_append, List.getD_eq_getElem?_getD, List.getElem?_eq_getElem h]
  simp
theorem take_pr (l : List Pr) (i : Nat) (h : i < l.length) : l.take (i + 1) = l.take i ++ [prAt l i] := by
  rw [List.take_succ_eq_append_getElem h]
  unfold prAt
  rw [List.getD_eq_getElem?_getD, List.getElem?_eq_getElem h]; rfl
theorem isPr_slice {w : World} {v : Value} {xs : List Pr} (h : IsPr w v xs) : ∃ a c, v = .slice a xs.length c := by
  obtain ⟨a, c, h, _⟩ := h
  exact ⟨a, c, h⟩
theorem rds_start {w v : World} {D b1 b2 n : Nat} {cs : Array Value} (hcs : cs.toList = (List.replicate n 0).map sv) (hD : v.heap[D]? = some (.cells #[.int .i64 (n : Int), .slice (some ⟨b1, 0, none⟩) n n, .slice (some ⟨b2, 0, none⟩) n n] 82))
    (h1 : v.heap[b1]? = some (.cells cs 75)) (h2 : v.heap[b2]? = some (.cells cs 75)) (hne : b1 ≠ b2) (hnd : D ≠ b1 ∧ D ≠ b2) (g1 : w.heap.size ≤ b1) (g2 : w.heap.size ≤ b2) (hb : Below w.heap.size w v) (hn : n ≤ 12) : Rds w v D b1 b2 n (dsp n []) := by
  have hsz : cs.size = n := by rw [← Array.length_toList, hcs]; simp
  have row : ∀ b, v.heap[b]? = some (.cells cs 75) → w.heap.size ≤ b → OwnV v w.heap.size 75 (.slice (some ⟨b, 0, none⟩) n n) ((List.replicate n 0).map sv) := fun b hb2 hle => by
    refine ⟨by simp, .inr ⟨b, n, cs, by simp, hle, hb2, by simp, by unfold maxLen; omega, by rw [hsz]; simp, ?_⟩⟩
    rw [hcs, List.take_of_length_le (by simp)]
  have h3 := dsp_nil n
  exact ⟨hD, by rw [h3.1]; exact row b1 h1 g1, by rw [h3.2]; exact row b2 h2 g2, ⟨hne, hnd.1, hnd.2⟩, rfl, hb⟩
set_option maxHeartbeats 4000000 in
set_option maxRecDepth 100000 in
theorem read_any (n : Int) (v : Value) (l : List Pr) (w : World) (hv : IsPr w v l) :
    Calls Try.prog 47 #[.int .i64 n, v] w fun e w' => Below w.heap.size w w' ∧ ((validP n l = false ∧ e = .returned (.tuple #[.pointer none, .bool false])) ∨ (validP n l = true ∧ ∃ D, e = .returned (.tuple #[.pointer (some ⟨D, 0, none⟩), .bool true]) ∧ DAt w' D (dsp n.toNat l))) := by
  obtain ⟨a, c, rfl⟩ := isPr_slice hv
  have HV := hid hv
  clear hv
  by_cases h1 : n < 1
  · have hd1 : decide (n < 1) = true := decide_eq_true h1
    have HNO : Hid (validP n l = false) := by show _ = _; unfold validP; rw [decide_eq_false (by omega : ¬ (1 ≤ n ∧ n ≤ 12))]; rfl
    go_enter Try.func47, Try.ntmps47
    go_wp2_with fail
    go_ret2
    exact ⟨Below.refl _ _, .inl ⟨HNO.out, rfl⟩⟩
  · have hd1 : decide (n < 1) = false := decide_eq_false h1
    by_cases h2 : 12 < n
    · have hd2 : decide (12 < n) = true := decide_eq_true h2
      have HNO : Hid (validP n l = false) := by show _ = _; unfold validP; rw [decide_eq_false (by omega : ¬ (1 ≤ n ∧ n ≤ 12))]; rfl
      go_enter Try.func47, Try.ntmps47
      go_wp2_with fail
      go_ret2
      exact ⟨Below.refl _ _, .inl ⟨HNO.out, rfl⟩⟩
    · have hd2 : decide (12 < n) = false := decide_eq_false h2
      obtain ⟨n, rfl⟩ : ∃ m : Nat, n = (m : Int) := ⟨n.toNat, by omega⟩
      have hn12 : n ≤ 12 := by omega
      have hn1 : 1 ≤ n := by omega
      by_cases h3 : 40 < l.length
      · have hd3 : decide (40 < l.length) = true := decide_eq_true h3
        have HNO : Hid (validP n l = false) := by show _ = _; unfold validP; rw [decide_eq_false (by omega : ¬ (l.length ≤ 40))]; simp
        go_enter Try.func47, Try.ntmps47
        go_wp2_with fail
        go_ret2
        exact ⟨Below.refl _ _, .inl ⟨HNO.out, rfl⟩⟩
      · have hd3 : decide (40 < l.length) = false := decide_eq_false h3
        obtain ⟨cs, hcs, hmk⟩ := make_sets n hn12
        have HCS := hid hcs
        have HMK := hid hmk
        clear hcs hmk
        have h40 : l.length ≤ 40 := by omega
        go_enter Try.func47, Try.ntmps47
        go_upto_region 3 with fail
        go_cut [6] (fun v6 wx => ∃ D b1 b2, v6 = .pointer (some ⟨D, 0, none⟩) ∧ Rds w wx D b1 b2 n (dsp n []))
        case first =>
          refine wp_region_held_drew (S := fun _ => True) (by kernel_rfl) trivial (fun hHeld => ?_)
          obtain ⟨v0, hv0⟩ : ∃ v, v = w.drew := ⟨_, rfl⟩
          have HV0 : Hid (Below w.heap.size w v0) := by rw [hv0]; exact (Below.refl _ _).drew
          rw [← hv0]
          clear hv0
          refine take_at (i := 0) 20 (v := .int .i64 n) rfl (by kernel_rfl) (by kernel_rfl) (by kernel_rfl) rfl (fun _ _ _ h => h) (by rfl) (fun w hSw => ?_) hHeld ?_
          · (try dsimp only at hSw); go_simp
          simp only [Act.put, List.setIfInBounds_toArray, List.set_cons_zero, List.set_cons_succ]
          refine take_at (i := 1) 21 (v := .int .i64 n) rfl (by kernel_rfl) (by kernel_rfl) (by kernel_rfl) rfl (fun _ _ _ h => h) (by rfl) (fun w hSw => ?_) hHeld ?_
          · (try dsimp only at hSw); go_simp
          simp only [Act.put, List.setIfInBounds_toArray, List.set_cons_zero, List.set_cons_succ]
          refine take_at (i := 3) 23 (v := .int .i64 n) rfl (by kernel_rfl) (by kernel_rfl) (by kernel_rfl) rfl (fun _ _ _ h => h) (by rfl) (fun w hSw => ?_) hHeld ?_
          · (try dsimp only at hSw); go_simp
          simp only [Act.put, List.setIfInBounds_toArray, List.set_cons_zero, List.set_cons_succ]
          refine wpAnyH_ready (rs := [2, 4]) (by kernel_rfl) (by simp) ?_
          refine node_make73 22 21 n cs rfl rfl rfl rfl rfl HMK.out trivial (fun hHeld => ?_) ?_
          · have HR1 : Hid (Below w.heap.size w (v0.alloc (.cells cs 75))) := Below.alloc HV0.out (Below.size HV0.out) _
            obtain ⟨b1, hb1⟩ : ∃ b, b = v0.heap.size := ⟨_, rfl⟩
            have Zb1 := hid (heap_alloc_new v0 (.cells cs 75))
            have hg1 := (Below.size HV0.out)
            rw [← hb1] at Zb1 hg1 ⊢
            have Gb1 := hid hg1
            obtain ⟨v1, hv1⟩ : ∃ v, v = v0.alloc (.cells cs 75) := ⟨_, rfl⟩
            rw [← hv1] at HR1 Zb1 ⊢
            clear hHeld hb1 hv1 hg1
            have hHeld : True := trivial
            simp only [Act.put, List.setIfInBounds_toArray, List.set_cons_zero, List.set_cons_succ]
            refine wpAnyH_ready (rs := [4]) (by kernel_rfl) (by simp) ?_
            refine node_make73 24 23 n cs rfl rfl rfl rfl rfl HMK.out trivial (fun hHeld => ?_) AllReadyH.nil
            · have HR2 : Hid (Below w.heap.size w (v1.alloc (.cells cs 75))) := Below.alloc HR1.out (Below.size HR1.out) _
              obtain ⟨b2, hb2⟩ : ∃ b, b = v1.heap.size := ⟨_, rfl⟩
              have Zb2 := hid (heap_alloc_new v1 (.cells cs 75))
              have hg2 := (Below.size HR1.out)
              rw [← hb2] at Zb2 hg2 ⊢
              have Gb2 := hid hg2
              obtain ⟨v2, hv2⟩ : ∃ v, v = v1.alloc (.cells cs 75) := ⟨_, rfl⟩
              rw [← hv2] at HR2 Zb2 ⊢
              have N12 : Hid (b1 ≠ b2) := by show _ ≠ _; have := heap_lt Zb1.out; omega
              have Yb1 : Hid (v2.heap[b1]? = some (.cells cs 75)) := by rw [hv2]; show _ = _; rw [Below.heap_alloc _ _ _ (heap_lt Zb1.out)]; exact Zb1.out
              clear hHeld hb2 hv2 hg2
              have hHeld : True := trivial
              simp only [Act.put, List.setIfInBounds_toArray, List.set_cons_zero, List.set_cons_succ]
              refine take_at (i := 5) 25 (v := .agg #[.int .i64 n, .slice (some ⟨b1, 0, none⟩) n n, .slice (some ⟨b2, 0, none⟩) n n]) rfl (by kernel_rfl) (by kernel_rfl) (by kernel_rfl) rfl (fun _ _ _ h => h) (by rfl) (fun w hSw => ?_) hHeld ?_
              · (try dsimp only at hSw); go_simp
              simp only [Act.put, List.setIfInBounds_toArray, List.set_cons_zero, List.set_cons_succ]
              refine wpAnyH_ready (rs := [6]) (by kernel_rfl) (by simp) ?_
              refine node_box82 26 25 _ _ _ rfl rfl rfl rfl rfl trivial (fun hHeld => ?_) AllReadyH.nil
              · have HR3 : Hid (Below w.heap.size w (v2.alloc (.cells #[.int .i64 (n : Int), .slice (some ⟨b1, 0, none⟩) n n, .slice (some ⟨b2, 0, none⟩) n n] 82))) := Below.alloc HR2.out (Below.size HR2.out) _
                obtain ⟨D, hD⟩ : ∃ b, b = v2.heap.size := ⟨_, rfl⟩
                have ZD := hid (heap_alloc_new v2 (.cells #[.int .i64 (n : Int), .slice (some ⟨b1, 0, none⟩) n n, .slice (some ⟨b2, 0, none⟩) n n] 82))
                rw [← hD] at ZD ⊢
                have ND : Hid (D ≠ b1 ∧ D ≠ b2) := by show _ ∧ _; have h1 := heap_lt Yb1.out; have h2 := heap_lt Zb2.out; omega
                have X1 : Hid ((v2.alloc (.cells #[.int .i64 (n : Int), .slice (some ⟨b1, 0, none⟩) n n, .slice (some ⟨b2, 0, none⟩) n n] 82)).heap[b1]? = some (.cells cs 75)) := by show _ = _; rw [Below.heap_alloc _ _ _ (heap_lt Yb1.out)]; exact Yb1.out
                have X2 : Hid ((v2.alloc (.cells #[.int .i64 (n : Int), .slice (some ⟨b1, 0, none⟩) n n, .slice (some ⟨b2, 0, none⟩) n n] 82)).heap[b2]? = some (.cells cs 75)) := by show _ = _; rw [Below.heap_alloc _ _ _ (heap_lt Zb2.out)]; exact Zb2.out
                obtain ⟨v3, hv3⟩ : ∃ v, v = v2.alloc (.cells #[.int .i64 (n : Int), .slice (some ⟨b1, 0, none⟩) n n, .slice (some ⟨b2, 0, none⟩) n n] 82) := ⟨_, rfl⟩
                rw [← hv3] at HR3 ZD X1 X2 ⊢
                clear hHeld hD hv3
                have hHeld : True := trivial
                simp only [Act.put, List.setIfInBounds_toArray, List.set_cons_zero, List.set_cons_succ]
                refine take_at (i := 7) 6 (v := .pointer (some ⟨D, 0, none⟩)) rfl (by kernel_rfl) (by kernel_rfl) (by kernel_rfl) rfl (fun _ _ _ h => h) (by rfl) (fun w hSw => ?_) hHeld ?_
                · (try dsimp only at hSw); go_simp
                simp only [Act.put, List.setIfInBounds_toArray, List.set_cons_zero, List.set_cons_succ]
                refine wpAnyH_done (by kernel_rfl) ?_ _
                clear hHeld
                go_wp2_with fail
                go_meet
                exact ⟨D, b1, b2, rfl, rds_start HCS.out ZD.out X1.out X2.out N12.out ND.out Gb1.out Gb2.out HR3.out hn12⟩
          refine node_make73 24 23 n cs rfl rfl rfl rfl rfl HMK.out trivial (fun hHeld => ?_) AllReadyH.nil
          · have HR1 : Hid (Below w.heap.size w (v0.alloc (.cells cs 75))) := Below.alloc HV0.out (Below.size HV0.out) _
            obtain ⟨b2, hb2⟩ : ∃ b, b = v0.heap.size := ⟨_, rfl⟩
            have Zb2 := hid (heap_alloc_new v0 (.cells cs 75))
            have hg1 := (Below.size HV0.out)
            rw [← hb2] at Zb2 hg1 ⊢
            have Gb2 := hid hg1
            obtain ⟨v1, hv1⟩ : ∃ v, v = v0.alloc (.cells cs 75) := ⟨_, rfl⟩
            rw [← hv1] at HR1 Zb2 ⊢
            clear hHeld hb2 hv1 hg1
            have hHeld : True := trivial
            simp only [Act.put, List.setIfInBounds_toArray, List.set_cons_zero, List.set_cons_succ]
            refine wpAnyH_ready (rs := [2]) (by kernel_rfl) (by simp) ?_
            refine node_make73 22 21 n cs rfl rfl rfl rfl rfl HMK.out trivial (fun hHeld => ?_) AllReadyH.nil
            · have HR2 : Hid (Below w.heap.size w (v1.alloc (.cells cs 75))) := Below.alloc HR1.out (Below.size HR1.out) _
              obtain ⟨b1, hb1⟩ : ∃ b, b = v1.heap.size := ⟨_, rfl⟩
              have Zb1 := hid (heap_alloc_new v1 (.cells cs 75))
              have hg2 := (Below.size HR1.out)
              rw [← hb1] at Zb1 hg2 ⊢
              have Gb1 := hid hg2
              obtain ⟨v2, hv2⟩ : ∃ v, v = v1.alloc (.cells cs 75) := ⟨_, rfl⟩
              rw [← hv2] at HR2 Zb1 ⊢
              have N12 : Hid (b1 ≠ b2) := by show _ ≠ _; have := heap_lt Zb2.out; omega
              have Yb2 : Hid (v2.heap[b2]? = some (.cells cs 75)) := by rw [hv2]; show _ = _; rw [Below.heap_alloc _ _ _ (heap_lt Zb2.out)]; exact Zb2.out
              clear hHeld hb1 hv2 hg2
              have hHeld : True := trivial
              simp only [Act.put, List.setIfInBounds_toArray, List.set_cons_zero, List.set_cons_succ]
              refine take_at (i := 5) 25 (v := .agg #[.int .i64 n, .slice (some ⟨b1, 0, none⟩) n n, .slice (some ⟨b2, 0, none⟩) n n]) rfl (by kernel_rfl) (by kernel_rfl) (by kernel_rfl) rfl (fun _ _ _ h => h) (by rfl) (fun w hSw => ?_) hHeld ?_
              · (try dsimp only at hSw); go_simp
              simp only [Act.put, List.setIfInBounds_toArray, List.set_cons_zero, List.set_cons_succ]
              refine wpAnyH_ready (rs := [6]) (by kernel_rfl) (by simp) ?_
              refine node_box82 26 25 _ _ _ rfl rfl rfl rfl rfl trivial (fun hHeld => ?_) AllReadyH.nil
              · have HR3 : Hid (Below w.heap.size w (v2.alloc (.cells #[.int .i64 (n : Int), .slice (some ⟨b1, 0, none⟩) n n, .slice (some ⟨b2, 0, none⟩) n n] 82))) := Below.alloc HR2.out (Below.size HR2.out) _
                obtain ⟨D, hD⟩ : ∃ b, b = v2.heap.size := ⟨_, rfl⟩
                have ZD := hid (heap_alloc_new v2 (.cells #[.int .i64 (n : Int), .slice (some ⟨b1, 0, none⟩) n n, .slice (some ⟨b2, 0, none⟩) n n] 82))
                rw [← hD] at ZD ⊢
                have ND : Hid (D ≠ b1 ∧ D ≠ b2) := by show _ ∧ _; have h1 := heap_lt Zb1.out; have h2 := heap_lt Yb2.out; omega
                have X1 : Hid ((v2.alloc (.cells #[.int .i64 (n : Int), .slice (some ⟨b1, 0, none⟩) n n, .slice (some ⟨b2, 0, none⟩) n n] 82)).heap[b1]? = some (.cells cs 75)) := by show _ = _; rw [Below.heap_alloc _ _ _ (heap_lt Zb1.out)]; exact Zb1.out
                have X2 : Hid ((v2.alloc (.cells #[.int .i64 (n : Int), .slice (some ⟨b1, 0, none⟩) n n, .slice (some ⟨b2, 0, none⟩) n n] 82)).heap[b2]? = some (.cells cs 75)) := by show _ = _; rw [Below.heap_alloc _ _ _ (heap_lt Yb2.out)]; exact Yb2.out
                obtain ⟨v3, hv3⟩ : ∃ v, v = v2.alloc (.cells #[.int .i64 (n : Int), .slice (some ⟨b1, 0, none⟩) n n, .slice (some ⟨b2, 0, none⟩) n n] 82) := ⟨_, rfl⟩
                rw [← hv3] at HR3 ZD X1 X2 ⊢
                clear hHeld hD hv3
                have hHeld : True := trivial
                simp only [Act.put, List.setIfInBounds_toArray, List.set_cons_zero, List.set_cons_succ]
                refine take_at (i := 7) 6 (v := .pointer (some ⟨D, 0, none⟩)) rfl (by kernel_rfl) (by kernel_rfl) (by kernel_rfl) rfl (fun _ _ _ h => h) (by rfl) (fun w hSw => ?_) hHeld ?_
                · (try dsimp only at hSw); go_simp
                simp only [Act.put, List.setIfInBounds_toArray, List.set_cons_zero, List.set_cons_succ]
                refine wpAnyH_done (by kernel_rfl) ?_ _
                clear hHeld
                go_wp2_with fail
                go_meet
                exact ⟨D, b1, b2, rfl, rds_start HCS.out ZD.out X1.out X2.out N12.out ND.out Gb1.out Gb2.out HR3.out hn12⟩
        case rest =>
          obtain ⟨D, b1, b2, rfl, hrd⟩ := hcut
          have HRD := hid hrd
          clear hrd
          rename World => wc
          have HEND : Hid (l.take l.length = l) := List.take_length
          go_wp2_with fail
          go_loopw [29] (fun iv wr => ∃ i : Nat, iv = .int .i64 i ∧ i ≤ l.length ∧ Hid ((l.take i).all (inB n) = true) ∧ Hid (Rds w wr D b1 b2 n (dsp n (l.take i)))) (fun iv _ => l.length - (intOf iv).toNat)
          case atStart => exact ⟨0, rfl, Nat.zero_le _, rfl, HRD⟩
          case round =>
            obtain ⟨i, rfl, hi, HAL, HR⟩ := hrel
            by_cases hlt : i < l.length
            · have hpr := isPr_below HV.out HR.out.blo
              obtain ⟨g, rfl, -, c0, c1⟩ := isPr_at hpr i hlt
              have HTK := hid (take_all (inB n) l (0, 0) i hlt)
              change Hid (_ = (_ && inB n (prAt l i))) at HTK
              have HT1 := hid (take_pr l i hlt)
              clear hpr
              generalize prAt l i = pr at *
              obtain ⟨x, y⟩ := pr
              dsimp only at c0 c1
              go_upto_region 7 with fail
              obtain ⟨P, hP⟩ : ∃ P, P = wr.heap.size := ⟨_, rfl⟩
              have ZP := hid (heap_alloc_new wr (.cells #[.int .i64 x, .int .i64 y] 45))
              have HR0 := hid (HR.out.below ((Below.refl wr.heap.size wr).alloc (Nat.le_refl _) (.cells #[.int .i64 x, .int .i64 y] 45)))
              have NP : Hid (P ≠ b1 ∧ P ≠ b2) := by
                show _ ∧ _
                have h1 := (ownV_le HR.out.by_).2
                have h2 := (ownV_le HR.out.fr).2
                omega
              obtain ⟨wx, hwx⟩ : ∃ wx, wx = wr.alloc (.cells #[.int .i64 x, .int .i64 y] 45) := ⟨_, rfl⟩
              rw [← hP] at ZP ⊢
              rw [← hwx] at ZP HR0 ⊢
              clear hP hwx c0 c1
              obtain ⟨p0, p1⟩ := cells2_of ZP.out
              have BAD : Hid (inB n (x, y) = false → validP n l = false) := fun hb => by
                have h1 := HTK.out
                rw [hb, Bool.and_false] at h1
                unfold validP
                have : l.all (inB n) = false := by
                  rw [← List.take_append_drop (i + 1) l, List.all_append, h1]; rfl
                rw [this, Bool.and_false]
              by_cases hx0 : x < 0
              · have e1 : decide (x < 0) = true := decide_eq_true hx0
                have HNO := hid (BAD.out (decide_eq_false (by show ¬ (0 ≤ x ∧ _); omega)))
                go_wp2_with fail
                go_ret2
                exact ⟨HR0.out.blo, .inl ⟨HNO.out, rfl⟩⟩
              · have e1 : decide (x < 0) = false := decide_eq_false hx0
                by_cases hx1 : (n : Int) ≤ x
                · have e2 : decide ((n : Int) ≤ x) = true := decide_eq_true hx1
                  have HNO := hid (BAD.out (decide_eq_false (by show ¬ (0 ≤ x ∧ x < (n : Int) ∧ _); omega)))
                  go_wp2_with fail
                  go_ret2
                  exact ⟨HR0.out.blo, .inl ⟨HNO.out, rfl⟩⟩
                · have e2 : decide ((n : Int) ≤ x) = false := decide_eq_false hx1
                  by_cases hy0 : y < 0
                  · have e3 : decide (y < 0) = true := decide_eq_true hy0
                    have HNO := hid (BAD.out (decide_eq_false (by show ¬ (0 ≤ x ∧ x < (n : Int) ∧ 0 ≤ y ∧ y < (n : Int)); omega)))
                    go_wp2_with fail
                    go_ret2
                    exact ⟨HR0.out.blo, .inl ⟨HNO.out, rfl⟩⟩
                  · have e3 : decide (y < 0) = false := decide_eq_false hy0
                    by_cases hy1 : (n : Int) ≤ y
                    · have e4 : decide ((n : Int) ≤ y) = true := decide_eq_true hy1
                      have HNO := hid (BAD.out (decide_eq_false (by show ¬ (0 ≤ x ∧ x < (n : Int) ∧ 0 ≤ y ∧ y < (n : Int)); omega)))
                      go_wp2_with fail
                      go_ret2
                      exact ⟨HR0.out.blo, .inl ⟨HNO.out, rfl⟩⟩
                    · have e4 : decide ((n : Int) ≤ y) = false := decide_eq_false hy1
                      have HGO : Hid (inB n (x, y) = true) := decide_eq_true (by show 0 ≤ x ∧ x < (n : Int) ∧ 0 ≤ y ∧ y < (n : Int); omega)
                      go_upto_region 9 with fail
                      clear e1 e2 e3 e4 p0 p1
                      obtain ⟨A, rfl⟩ : ∃ A : Nat, x = (A : Int) := ⟨x.toNat, by omega⟩
                      obtain ⟨B, rfl⟩ : ∃ B : Nat, y = (B : Int) := ⟨y.toNat, by omega⟩
                      have hA : A < n := by omega
                      have hB : B < n := by omega
                      have HU : Hid (RdP w wx D b1 b2 n (dsp n (l.take i)) P A B) := ⟨HR0.out, ZP.out, NP.out⟩
                      have HGA := hid (show A < 16 by omega)
                      have HGB := hid (show B < 16 by omega)
                      obtain ⟨pA, hpA⟩ : ∃ p, p = 2 ^ A := ⟨_, rfl⟩
                      obtain ⟨pB, hpB⟩ : ∃ p, p = 2 ^ B := ⟨_, rfl⟩
                      obtain ⟨x0, hx0'⟩ : ∃ z, z = (byL (dsp n (l.take i))).getD A 0 := ⟨_, rfl⟩
                      obtain ⟨x1, hx1'⟩ : ∃ z, z = (fromL (dsp n (l.take i))).getD B 0 := ⟨_, rfl⟩
                      have ONA : Hid (∀ w', Calls Try.prog 52 #[.int .i64 (A : Int)] w' fun e w'' => e = .returned (.int .u16 (pA : Int)) ∧ Below w'.heap.size w' w'') := fun w' => by rw [hpA]; exact one_any A w' HGA.out
                      have ONB : Hid (∀ w', Calls Try.prog 52 #[.int .i64 (B : Int)] w' fun e w'' => e = .returned (.int .u16 (pB : Int)) ∧ Below w'.heap.size w' w'') := fun w' => by rw [hpB]; exact one_any B w' HGB.out
                      have hq1 := byL_lt (dsp n (l.take i)) hn12 A
                      have hq2 := fromL_lt (dsp n (l.take i)) hn12 B
                      rw [← hx0'] at hq1
                      rw [← hx1'] at hq2
                      have hq3 : pA < 65536 := by rw [hpA]; exact Nat.lt_of_le_of_lt (pow_small (show A ≤ 12 by omega)) (by decide)
                      have hq4 : pB < 65536 := by rw [hpB]; exact Nat.lt_of_le_of_lt (pow_small (show B ≤ 12 by omega)) (by decide)
                      obtain ⟨y0, hy0'⟩ : ∃ z, z = x0 ||| pB := ⟨_, rfl⟩
                      obtain ⟨y1, hy1'⟩ : ∃ z, z = x1 ||| pA := ⟨_, rfl⟩
                      have HOR1 : Hid (bits .or .u16 (x0 : Int) (pB : Int) = (y0 : Int)) := by rw [hy0']; exact or16 (by omega) hq4
                      have HOR2 : Hid (bits .or .u16 (x1 : Int) (pA : Int) = (y1 : Int)) := by rw [hy1']; exact or16 (by omega) hq3
                      have HX1 : Hid (∀ w', RdP w w' D b1 b2 n (dsp n (l.take i)) P A B → w'.cell? ⟨b1, A, none⟩ = some (.int .u16 (x0 : Int)) ∧ w'.frozen? ⟨b1, A, none⟩ = false) := fun w' h => by rw [hx0']; exact h.r.by_at hA
                      have HX2 : Hid (∀ w', Rd2P w w' D b1 b2 n (dsp n (l.take i)) (dsp n (l.take i ++ [((A : Int), (B : Int))])) P A B → w'.cell? ⟨b2, B, none⟩ = some (.int .u16 (x1 : Int)) ∧ w'.frozen? ⟨b2, B, none⟩ = false) := fun w' h => by rw [hx1']; exact h.r.fr_at hB
                      have ST1 : Hid (∀ w', RdP w w' D b1 b2 n (dsp n (l.take i)) P A B → Rd2P w (w'.setCell ⟨b1, A, none⟩ (.int .u16 (y0 : Int))) D b1 b2 n (dsp n (l.take i)) (dsp n (l.take i ++ [((A : Int), (B : Int))])) P A B) := fun w' h => h.set1 hA hB (by rw [hy0', hx0', hpB])
                      have ST2 : Hid (∀ w', Rd2P w w' D b1 b2 n (dsp n (l.take i)) (dsp n (l.take i ++ [((A : Int), (B : Int))])) P A B → Rds w (w'.setCell ⟨b2, B, none⟩ (.int .u16 (y1 : Int))) D b1 b2 n (dsp n (l.take i ++ [((A : Int), (B : Int))]))) := fun w' h => h.set2 hA hB (by rw [hy1', hx1', hpA])
                      have KP1 : Hid (∀ w', RdP w w' D b1 b2 n (dsp n (l.take i)) P A B → w'.cell? ⟨D, 0, none⟩ = some (.int .i64 n) ∧ w'.cell? ⟨D, 1, none⟩ = some (.slice (some ⟨b1, 0, none⟩) n n) ∧ w'.cell? ⟨D, 2, none⟩ = some (.slice (some ⟨b2, 0, none⟩) n n) ∧ w'.cell? ⟨P, 0, none⟩ = some (.int .i64 A) ∧ w'.cell? ⟨P, 1, none⟩ = some (.int .i64 B)) := fun w' h => h.keep
                      have KP2 : Hid (∀ w', Rd2P w w' D b1 b2 n (dsp n (l.take i)) (dsp n (l.take i ++ [((A : Int), (B : Int))])) P A B → w'.cell? ⟨D, 0, none⟩ = some (.int .i64 n) ∧ w'.cell? ⟨D, 1, none⟩ = some (.slice (some ⟨b1, 0, none⟩) n n) ∧ w'.cell? ⟨D, 2, none⟩ = some (.slice (some ⟨b2, 0, none⟩) n n) ∧ w'.cell? ⟨P, 0, none⟩ = some (.int .i64 A) ∧ w'.cell? ⟨P, 1, none⟩ = some (.int .i64 B)) := fun w' h => h.keep
                      have KP1s : Hid (∀ w', RdP w w' D b1 b2 n (dsp n (l.take i)) P A B → (w'.setCell ⟨b1, A, none⟩ (.int .u16 (y0 : Int))).cell? ⟨D, 0, none⟩ = some (.int .i64 n) ∧ (w'.setCell ⟨b1, A, none⟩ (.int .u16 (y0 : Int))).cell? ⟨D, 1, none⟩ = some (.slice (some ⟨b1, 0, none⟩) n n) ∧ (w'.setCell ⟨b1, A, none⟩ (.int .u16 (y0 : Int))).cell? ⟨D, 2, none⟩ = some (.slice (some ⟨b2, 0, none⟩) n n) ∧ (w'.setCell ⟨b1, A, none⟩ (.int .u16 (y0 : Int))).cell? ⟨P, 0, none⟩ = some (.int .i64 A) ∧ (w'.setCell ⟨b1, A, none⟩ (.int .u16 (y0 : Int))).cell? ⟨P, 1, none⟩ = some (.int .i64 B)) := fun w' h => (ST1.out w' h).keep
                      have KP2s : Hid (∀ w', Rd2P w w' D b1 b2 n (dsp n (l.take i)) (dsp n (l.take i ++ [((A : Int), (B : Int))])) P A B → (w'.setCell ⟨b2, B, none⟩ (.int .u16 (y1 : Int))).cell? ⟨D, 0, none⟩ = some (.int .i64 n) ∧ (w'.setCell ⟨b2, B, none⟩ (.int .u16 (y1 : Int))).cell? ⟨D, 1, none⟩ = some (.slice (some ⟨b1, 0, none⟩) n n) ∧ (w'.setCell ⟨b2, B, none⟩ (.int .u16 (y1 : Int))).cell? ⟨D, 2, none⟩ = some (.slice (some ⟨b2, 0, none⟩) n n) ∧ (w'.setCell ⟨b2, B, none⟩ (.int .u16 (y1 : Int))).cell? ⟨P, 0, none⟩ = some (.int .i64 A) ∧ (w'.setCell ⟨b2, B, none⟩ (.int .u16 (y1 : Int))).cell? ⟨P, 1, none⟩ = some (.int .i64 B)) := fun w' h => h.keep2
                      clear hpA hpB hx0' hx1' hy0' hy1' HR0 ZP
                      refine wp_region_held_drew (S := fun w' => w'.cell? ⟨D, 0, none⟩ = some (.int .i64 n) ∧ w'.cell? ⟨D, 1, none⟩ = some (.slice (some ⟨b1, 0, none⟩) n n) ∧ w'.cell? ⟨D, 2, none⟩ = some (.slice (some ⟨b2, 0, none⟩) n n) ∧ w'.cell? ⟨P, 0, none⟩ = some (.int .i64 A) ∧ w'.cell? ⟨P, 1, none⟩ = some (.int .i64 B)) (by kernel_rfl) (KP1.out _ (HU.out.below ((Below.refl _ _).drew))) (fun hHeld => ?_)
                      obtain ⟨u0, hu0⟩ : ∃ u, u = wx.drew := ⟨_, rfl⟩
                      have HU0 := hid (HU.out.below ((Below.refl _ _).drew))
                      rw [← hu0] at HU0 hHeld ⊢
                      clear hu0
                      refine take_at (i := 0) 53 (v := .pointer (some ⟨D, 0, none⟩)) rfl (by kernel_rfl) (by kernel_rfl) (by kernel_rfl) rfl (fun _ _ _ h => h) (by rfl) (fun w hSw => ?_) hHeld ?_
                      · (try dsimp only at hSw); go_simp
                      simp only [Act.put, List.setIfInBounds_toArray, List.set_cons_zero, List.set_cons_succ]
                      refine take_at (i := 1) 54 (v := .pointer (some ⟨D, 0, none⟩)) rfl (by kernel_rfl) (by kernel_rfl) (by kernel_rfl) rfl (fun _ _ _ h => h) (by rfl) (fun w hSw => ?_) hHeld ?_
                      · (try dsimp only at hSw); go_simp
                      simp only [Act.put, List.setIfInBounds_toArray, List.set_cons_zero, List.set_cons_succ]
                      refine take_at (i := 2) 55 (v := .pointer (some ⟨D, 1, none⟩)) rfl (by kernel_rfl) (by kernel_rfl) (by kernel_rfl) rfl (fun _ _ _ h => h) (by rfl) (fun w hSw => ?_) hHeld ?_
                      · (try dsimp only at hSw); go_simp
                      simp only [Act.put, List.setIfInBounds_toArray, List.set_cons_zero, List.set_cons_succ]
                      refine take_at (i := 3) 56 (v := .slice (some ⟨b1, 0, none⟩) n n) rfl (by kernel_rfl) (by kernel_rfl) (by kernel_rfl) rfl (fun _ _ _ h => h) (by rfl) (fun w hSw => ?_) hHeld ?_
                      · (try dsimp only at hSw); go_simp
                      simp only [Act.put, List.setIfInBounds_toArray, List.set_cons_zero, List.set_cons_succ]
                      refine take_at (i := 4) 57 (v := .pointer (some ⟨P, 0, none⟩)) rfl (by kernel_rfl) (by kernel_rfl) (by kernel_rfl) rfl (fun _ _ _ h => h) (by rfl) (fun w hSw => ?_) hHeld ?_
                      · (try dsimp only at hSw); go_simp
                      simp only [Act.put, List.setIfInBounds_toArray, List.set_cons_zero, List.set_cons_succ]
                      refine take_at (i := 5) 58 (v := .int .i64 A) rfl (by kernel_rfl) (by kernel_rfl) (by kernel_rfl) rfl (fun _ _ _ h => h) (by rfl) (fun w hSw => ?_) hHeld ?_
                      · (try dsimp only at hSw); go_simp
                      simp only [Act.put, List.setIfInBounds_toArray, List.set_cons_zero, List.set_cons_succ]
                      refine take_at (i := 6) 59 (v := .pointer (some ⟨b1, A, none⟩)) rfl (by kernel_rfl) (by kernel_rfl) (by kernel_rfl) rfl (fun _ _ _ h => h) (by rfl) (fun w hSw => ?_) hHeld ?_
                      · (try dsimp only at hSw); go_simp
                      simp only [Act.put, List.setIfInBounds_toArray, List.set_cons_zero, List.set_cons_succ]
                      refine take_at (i := 8) 61 (v := .pointer (some ⟨P, 1, none⟩)) rfl (by kernel_rfl) (by kernel_rfl) (by kernel_rfl) rfl (fun _ _ _ h => h) (by rfl) (fun w hSw => ?_) hHeld ?_
                      · (try dsimp only at hSw); go_simp
                      simp only [Act.put, List.setIfInBounds_toArray, List.set_cons_zero, List.set_cons_succ]
                      refine take_at (i := 9) 62 (v := .int .i64 B) rfl (by kernel_rfl) (by kernel_rfl) (by kernel_rfl) rfl (fun _ _ _ h => h) (by rfl) (fun w hSw => ?_) hHeld ?_
                      · (try dsimp only at hSw); go_simp
                      simp only [Act.put, List.setIfInBounds_toArray, List.set_cons_zero, List.set_cons_succ]
                      refine wpAnyH_ready (rs := [7, 10]) (by kernel_rfl) (by simp) ?_
                      refine node_load75 60 59 _ _ rfl rfl rfl rfl rfl (HX1.out _ HU0.out).1 (KP1.out _ HU0.out) ?_ ?_
                      · skip
                        simp only [Act.put, List.setIfInBounds_toArray, List.set_cons_zero, List.set_cons_succ]
                        refine wpAnyH_ready (rs := [10]) (by kernel_rfl) (by simp) ?_
                        refine node_f52 63 62 _ rfl (by rfl) rfl rfl rfl ((ONB.out u0).mono ?_) AllReadyH.nil
                        · rintro e u1 ⟨rfl, hb1⟩
                          have HU1 := hid ((HU0.out).below hb1)
                          have hHeld := KP1.out _ HU1.out
                          refine ⟨_, rfl, hHeld, ?_⟩
                          clear hb1
                          simp only [Act.put, List.setIfInBounds_toArray, List.set_cons_zero, List.set_cons_succ]
                          refine take_at (i := 11) 64 (v := .int .u16 y0) rfl (by kernel_rfl) (by kernel_rfl) (by kernel_rfl) rfl (fun _ _ _ h => h) (by rfl) (fun w hSw => ?_) hHeld ?_
                          · (try dsimp only at hSw); go_simp; rw [HOR1.out]
                          simp only [Act.put, List.setIfInBounds_toArray, List.set_cons_zero, List.set_cons_succ]
                          refine take_at (i := 12) 65 (v := .pointer (some ⟨b1, A, none⟩)) rfl (by kernel_rfl) (by kernel_rfl) (by kernel_rfl) rfl (fun _ _ _ h => h) (by rfl) (fun w hSw => ?_) hHeld ?_
                          · (try dsimp only at hSw); go_simp
                          simp only [Act.put, List.setIfInBounds_toArray, List.set_cons_zero, List.set_cons_succ]
                          refine wpAnyH_ready (rs := [13]) (by kernel_rfl) (by simp) ?_
                          refine node_store75 65 64 b1 A _ _ rfl rfl rfl rfl rfl rfl (HX1.out _ HU1.out).1 (HX1.out _ HU1.out).2 (KP1s.out _ HU1.out) ?_ AllReadyH.nil
                          · skip
                            refine wpAnyH_done (by kernel_rfl) ?_ _
                            clear hHeld
                            have HZ := hid (ST1.out _ HU1.out)
                            obtain ⟨wz, hwz⟩ : ∃ wz, wz = u1.setCell ⟨b1, A, none⟩ (.int .u16 (y0 : Int)) := ⟨_, rfl⟩
                            rw [← hwz] at HZ ⊢
                            clear hwz
                            go_upto_region 10 with fail
                            refine wp_region_held_drew (S := fun w' => w'.cell? ⟨D, 0, none⟩ = some (.int .i64 n) ∧ w'.cell? ⟨D, 1, none⟩ = some (.slice (some ⟨b1, 0, none⟩) n n) ∧ w'.cell? ⟨D, 2, none⟩ = some (.slice (some ⟨b2, 0, none⟩) n n) ∧ w'.cell? ⟨P, 0, none⟩ = some (.int .i64 A) ∧ w'.cell? ⟨P, 1, none⟩ = some (.int .i64 B)) (by kernel_rfl) (KP2.out _ (HZ.out.below ((Below.refl _ _).drew))) (fun hHeld => ?_)
                            obtain ⟨u0, hu0⟩ : ∃ u, u = wz.drew := ⟨_, rfl⟩
                            have HU0 := hid (HZ.out.below ((Below.refl _ _).drew))
                            rw [← hu0] at HU0 hHeld ⊢
                            clear hu0
                            refine take_at (i := 0) 66 (v := .pointer (some ⟨D, 0, none⟩)) rfl (by kernel_rfl) (by kernel_rfl) (by kernel_rfl) rfl (fun _ _ _ h => h) (by rfl) (fun w hSw => ?_) hHeld ?_
                            · (try dsimp only at hSw); go_simp
                            simp only [Act.put, List.setIfInBounds_toArray, List.set_cons_zero, List.set_cons_succ]
                            refine take_at (i := 1) 67 (v := .pointer (some ⟨D, 0, none⟩)) rfl (by kernel_rfl) (by kernel_rfl) (by kernel_rfl) rfl (fun _ _ _ h => h) (by rfl) (fun w hSw => ?_) hHeld ?_
                            · (try dsimp only at hSw); go_simp
                            simp only [Act.put, List.setIfInBounds_toArray, List.set_cons_zero, List.set_cons_succ]
                            refine take_at (i := 2) 68 (v := .pointer (some ⟨D, 2, none⟩)) rfl (by kernel_rfl) (by kernel_rfl) (by kernel_rfl) rfl (fun _ _ _ h => h) (by rfl) (fun w hSw => ?_) hHeld ?_
                            · (try dsimp only at hSw); go_simp
                            simp only [Act.put, List.setIfInBounds_toArray, List.set_cons_zero, List.set_cons_succ]
                            refine take_at (i := 3) 69 (v := .slice (some ⟨b2, 0, none⟩) n n) rfl (by kernel_rfl) (by kernel_rfl) (by kernel_rfl) rfl (fun _ _ _ h => h) (by rfl) (fun w hSw => ?_) hHeld ?_
                            · (try dsimp only at hSw); go_simp
                            simp only [Act.put, List.setIfInBounds_toArray, List.set_cons_zero, List.set_cons_succ]
                            refine take_at (i := 4) 70 (v := .pointer (some ⟨P, 1, none⟩)) rfl (by kernel_rfl) (by kernel_rfl) (by kernel_rfl) rfl (fun _ _ _ h => h) (by rfl) (fun w hSw => ?_) hHeld ?_
                            · (try dsimp only at hSw); go_simp
                            simp only [Act.put, List.setIfInBounds_toArray, List.set_cons_zero, List.set_cons_succ]
                            refine take_at (i := 5) 71 (v := .int .i64 B) rfl (by kernel_rfl) (by kernel_rfl) (by kernel_rfl) rfl (fun _ _ _ h => h) (by rfl) (fun w hSw => ?_) hHeld ?_
                            · (try dsimp only at hSw); go_simp
                            simp only [Act.put, List.setIfInBounds_toArray, List.set_cons_zero, List.set_cons_succ]
                            refine take_at (i := 6) 72 (v := .pointer (some ⟨b2, B, none⟩)) rfl (by kernel_rfl) (by kernel_rfl) (by kernel_rfl) rfl (fun _ _ _ h => h) (by rfl) (fun w hSw => ?_) hHeld ?_
                            · (try dsimp only at hSw); go_simp
                            simp only [Act.put, List.setIfInBounds_toArray, List.set_cons_zero, List.set_cons_succ]
                            refine take_at (i := 8) 74 (v := .pointer (some ⟨P, 0, none⟩)) rfl (by kernel_rfl) (by kernel_rfl) (by kernel_rfl) rfl (fun _ _ _ h => h) (by rfl) (fun w hSw => ?_) hHeld ?_
                            · (try dsimp only at hSw); go_simp
                            simp only [Act.put, List.setIfInBounds_toArray, List.set_cons_zero, List.set_cons_succ]
                            refine take_at (i := 9) 75 (v := .int .i64 A) rfl (by kernel_rfl) (by kernel_rfl) (by kernel_rfl) rfl (fun _ _ _ h => h) (by rfl) (fun w hSw => ?_) hHeld ?_
                            · (try dsimp only at hSw); go_simp
                            simp only [Act.put, List.setIfInBounds_toArray, List.set_cons_zero, List.set_cons_succ]
                            refine wpAnyH_ready (rs := [7, 10]) (by kernel_rfl) (by simp) ?_
                            refine node_load75 73 72 _ _ rfl rfl rfl rfl rfl (HX2.out _ HU0.out).1 (KP2.out _ HU0.out) ?_ ?_
                            · skip
                              simp only [Act.put, List.setIfInBounds_toArray, List.set_cons_zero, List.set_cons_succ]
                              refine wpAnyH_ready (rs := [10]) (by kernel_rfl) (by simp) ?_
                              refine node_f52 76 75 _ rfl (by rfl) rfl rfl rfl ((ONA.out u0).mono ?_) AllReadyH.nil
                              · rintro e u1 ⟨rfl, hb1⟩
                                have HU1 := hid ((HU0.out).below hb1)
                                have hHeld := KP2.out _ HU1.out
                                refine ⟨_, rfl, hHeld, ?_⟩
                                clear hb1
                                simp only [Act.put, List.setIfInBounds_toArray, List.set_cons_zero, List.set_cons_succ]
                                refine take_at (i := 11) 77 (v := .int .u16 y1) rfl (by kernel_rfl) (by kernel_rfl) (by kernel_rfl) rfl (fun _ _ _ h => h) (by rfl) (fun w hSw => ?_) hHeld ?_
                                · (try dsimp only at hSw); go_simp; rw [HOR2.out]
                                simp only [Act.put, List.setIfInBounds_toArray, List.set_cons_zero, List.set_cons_succ]
                                refine take_at (i := 12) 78 (v := .pointer (some ⟨b2, B, none⟩)) rfl (by kernel_rfl) (by kernel_rfl) (by kernel_rfl) rfl (fun _ _ _ h => h) (by rfl) (fun w hSw => ?_) hHeld ?_
                                · (try dsimp only at hSw); go_simp
                                simp only [Act.put, List.setIfInBounds_toArray, List.set_cons_zero, List.set_cons_succ]
                                refine wpAnyH_ready (rs := [13]) (by kernel_rfl) (by simp) ?_
                                refine node_store75 78 77 b2 B _ _ rfl rfl rfl rfl rfl rfl (HX2.out _ HU1.out).1 (HX2.out _ HU1.out).2 (KP2s.out _ HU1.out) ?_ AllReadyH.nil
                                · skip
                                  refine wpAnyH_done (by kernel_rfl) ?_ _
                                  clear hHeld
                                  have HQ := hid (ST2.out _ HU1.out)
                                  go_wp2_with fail
                                  go_roundw
                                  case rel => exact ⟨i + 1, by go_num, by omega, by rw [HTK.out, HAL.out, HGO.out]; rfl, by rw [HT1.out]; exact HQ.out⟩
                                  case measure => simp [intOf]; omega
                            refine node_f52 76 75 _ rfl (by rfl) rfl rfl rfl ((ONA.out u0).mono ?_) AllReadyH.nil
                            · rintro e u1 ⟨rfl, hb1⟩
                              have HU1 := hid ((HU0.out).below hb1)
                              have hHeld := KP2.out _ HU1.out
                              refine ⟨_, rfl, hHeld, ?_⟩
                              clear hb1
                              simp only [Act.put, List.setIfInBounds_toArray, List.set_cons_zero, List.set_cons_succ]
                              refine wpAnyH_ready (rs := [7]) (by kernel_rfl) (by simp) ?_
                              refine node_load75 73 72 _ _ rfl rfl rfl rfl rfl (HX2.out _ HU1.out).1 (KP2.out _ HU1.out) ?_ AllReadyH.nil
                              · skip
                                simp only [Act.put, List.setIfInBounds_toArray, List.set_cons_zero, List.set_cons_succ]
                                refine take_at (i := 11) 77 (v := .int .u16 y1) rfl (by kernel_rfl) (by kernel_rfl) (by kernel_rfl) rfl (fun _ _ _ h => h) (by rfl) (fun w hSw => ?_) hHeld ?_
                                · (try dsimp only at hSw); go_simp; rw [HOR2.out]
                                simp only [Act.put, List.setIfInBounds_toArray, List.set_cons_zero, List.set_cons_succ]
                                refine take_at (i := 12) 78 (v := .pointer (some ⟨b2, B, none⟩)) rfl (by kernel_rfl) (by kernel_rfl) (by kernel_rfl) rfl (fun _ _ _ h => h) (by rfl) (fun w hSw => ?_) hHeld ?_
                                · (try dsimp only at hSw); go_simp
                                simp only [Act.put, List.setIfInBounds_toArray, List.set_cons_zero, List.set_cons_succ]
                                refine wpAnyH_ready (rs := [13]) (by kernel_rfl) (by simp) ?_
                                refine node_store75 78 77 b2 B _ _ rfl rfl rfl rfl rfl rfl (HX2.out _ HU1.out).1 (HX2.out _ HU1.out).2 (KP2s.out _ HU1.out) ?_ AllReadyH.nil
                                · skip
                                  refine wpAnyH_done (by kernel_rfl) ?_ _
                                  clear hHeld
                                  have HQ := hid (ST2.out _ HU1.out)
                                  go_wp2_with fail
                                  go_roundw
                                  case rel => exact ⟨i + 1, by go_num, by omega, by rw [HTK.out, HAL.out, HGO.out]; rfl, by rw [HT1.out]; exact HQ.out⟩
                                  case measure => simp [intOf]; omega
                      refine node_f52 63 62 _ rfl (by rfl) rfl rfl rfl ((ONB.out u0).mono ?_) AllReadyH.nil
                      · rintro e u1 ⟨rfl, hb1⟩
                        have HU1 := hid ((HU0.out).below hb1)
                        have hHeld := KP1.out _ HU1.out
                        refine ⟨_, rfl, hHeld, ?_⟩
                        clear hb1
                        simp only [Act.put, List.setIfInBounds_toArray, List.set_cons_zero, List.set_cons_succ]
                        refine wpAnyH_ready (rs := [7]) (by kernel_rfl) (by simp) ?_
                        refine node_load75 60 59 _ _ rfl rfl rfl rfl rfl (HX1.out _ HU1.out).1 (KP1.out _ HU1.out) ?_ AllReadyH.nil
                        · skip
                          simp only [Act.put, List.setIfInBounds_toArray, List.set_cons_zero, List.set_cons_succ]
                          refine take_at (i := 11) 64 (v := .int .u16 y0) rfl (by kernel_rfl) (by kernel_rfl) (by kernel_rfl) rfl (fun _ _ _ h => h) (by rfl) (fun w hSw => ?_) hHeld ?_
                          · (try dsimp only at hSw); go_simp; rw [HOR1.out]
                          simp only [Act.put, List.setIfInBounds_toArray, List.set_cons_zero, List.set_cons_succ]
                          refine take_at (i := 12) 65 (v := .pointer (some ⟨b1, A, none⟩)) rfl (by kernel_rfl) (by kernel_rfl) (by kernel_rfl) rfl (fun _ _ _ h => h) (by rfl) (fun w hSw => ?_) hHeld ?_
                          · (try dsimp only at hSw); go_simp
                          simp only [Act.put, List.setIfInBounds_toArray, List.set_cons_zero, List.set_cons_succ]
                          refine wpAnyH_ready (rs := [13]) (by kernel_rfl) (by simp) ?_
                          refine node_store75 65 64 b1 A _ _ rfl rfl rfl rfl rfl rfl (HX1.out _ HU1.out).1 (HX1.out _ HU1.out).2 (KP1s.out _ HU1.out) ?_ AllReadyH.nil
                          · skip
                            refine wpAnyH_done (by kernel_rfl) ?_ _
                            clear hHeld
                            have HZ := hid (ST1.out _ HU1.out)
                            obtain ⟨wz, hwz⟩ : ∃ wz, wz = u1.setCell ⟨b1, A, none⟩ (.int .u16 (y0 : Int)) := ⟨_, rfl⟩
                            rw [← hwz] at HZ ⊢
                            clear hwz
                            go_upto_region 10 with fail
                            refine wp_region_held_drew (S := fun w' => w'.cell? ⟨D, 0, none⟩ = some (.int .i64 n) ∧ w'.cell? ⟨D, 1, none⟩ = some (.slice (some ⟨b1, 0, none⟩) n n) ∧ w'.cell? ⟨D, 2, none⟩ = some (.slice (some ⟨b2, 0, none⟩) n n) ∧ w'.cell? ⟨P, 0, none⟩ = some (.int .i64 A) ∧ w'.cell? ⟨P, 1, none⟩ = some (.int .i64 B)) (by kernel_rfl) (KP2.out _ (HZ.out.below ((Below.refl _ _).drew))) (fun hHeld => ?_)
                            obtain ⟨u0, hu0⟩ : ∃ u, u = wz.drew := ⟨_, rfl⟩
                            have HU0 := hid (HZ.out.below ((Below.refl _ _).drew))
                            rw [← hu0] at HU0 hHeld ⊢
                            clear hu0
                            refine take_at (i := 0) 66 (v := .pointer (some ⟨D, 0, none⟩)) rfl (by kernel_rfl) (by kernel_rfl) (by kernel_rfl) rfl (fun _ _ _ h => h) (by rfl) (fun w hSw => ?_) hHeld ?_
                            · (try dsimp only at hSw); go_simp
                            simp only [Act.put, List.setIfInBounds_toArray, List.set_cons_zero, List.set_cons_succ]
                            refine take_at (i := 1) 67 (v := .pointer (some ⟨D, 0, none⟩)) rfl (by kernel_rfl) (by kernel_rfl) (by kernel_rfl) rfl (fun _ _ _ h => h) (by rfl) (fun w hSw => ?_) hHeld ?_
                            · (try dsimp only at hSw); go_simp
                            simp only [Act.put, List.setIfInBounds_toArray, List.set_cons_zero, List.set_cons_succ]
                            refine take_at (i := 2) 68 (v := .pointer (some ⟨D, 2, none⟩)) rfl (by kernel_rfl) (by kernel_rfl) (by kernel_rfl) rfl (fun _ _ _ h => h) (by rfl) (fun w hSw => ?_) hHeld ?_
                            · (try dsimp only at hSw); go_simp
                            simp only [Act.put, List.setIfInBounds_toArray, List.set_cons_zero, List.set_cons_succ]
                            refine take_at (i := 3) 69 (v := .slice (some ⟨b2, 0, none⟩) n n) rfl (by kernel_rfl) (by kernel_rfl) (by kernel_rfl) rfl (fun _ _ _ h => h) (by rfl) (fun w hSw => ?_) hHeld ?_
                            · (try dsimp only at hSw); go_simp
                            simp only [Act.put, List.setIfInBounds_toArray, List.set_cons_zero, List.set_cons_succ]
                            refine take_at (i := 4) 70 (v := .pointer (some ⟨P, 1, none⟩)) rfl (by kernel_rfl) (by kernel_rfl) (by kernel_rfl) rfl (fun _ _ _ h => h) (by rfl) (fun w hSw => ?_) hHeld ?_
                            · (try dsimp only at hSw); go_simp
                            simp only [Act.put, List.setIfInBounds_toArray, List.set_cons_zero, List.set_cons_succ]
                            refine take_at (i := 5) 71 (v := .int .i64 B) rfl (by kernel_rfl) (by kernel_rfl) (by kernel_rfl) rfl (fun _ _ _ h => h) (by rfl) (fun w hSw => ?_) hHeld ?_
                            · (try dsimp only at hSw); go_simp
                            simp only [Act.put, List.setIfInBounds_toArray, List.set_cons_zero, List.set_cons_succ]
                            refine take_at (i := 6) 72 (v := .pointer (some ⟨b2, B, none⟩)) rfl (by kernel_rfl) (by kernel_rfl) (by kernel_rfl) rfl (fun _ _ _ h => h) (by rfl) (fun w hSw => ?_) hHeld ?_
                            · (try dsimp only at hSw); go_simp
                            simp only [Act.put, List.setIfInBounds_toArray, List.set_cons_zero, List.set_cons_succ]
                            refine take_at (i := 8) 74 (v := .pointer (some ⟨P, 0, none⟩)) rfl (by kernel_rfl) (by kernel_rfl) (by kernel_rfl) rfl (fun _ _ _ h => h) (by rfl) (fun w hSw => ?_) hHeld ?_
                            · (try dsimp only at hSw); go_simp
                            simp only [Act.put, List.setIfInBounds_toArray, List.set_cons_zero, List.set_cons_succ]
                            refine take_at (i := 9) 75 (v := .int .i64 A) rfl (by kernel_rfl) (by kernel_rfl) (by kernel_rfl) rfl (fun _ _ _ h => h) (by rfl) (fun w hSw => ?_) hHeld ?_
                            · (try dsimp only at hSw); go_simp
                            simp only [Act.put, List.setIfInBounds_toArray, List.set_cons_zero, List.set_cons_succ]
                            refine wpAnyH_ready (rs := [7, 10]) (by kernel_rfl) (by simp) ?_
                            refine node_load75 73 72 _ _ rfl rfl rfl rfl rfl (HX2.out _ HU0.out).1 (KP2.out _ HU0.out) ?_ ?_
                            · skip
                              simp only [Act.put, List.setIfInBounds_toArray, List.set_cons_zero, List.set_cons_succ]
                              refine wpAnyH_ready (rs := [10]) (by kernel_rfl) (by simp) ?_
                              refine node_f52 76 75 _ rfl (by rfl) rfl rfl rfl ((ONA.out u0).mono ?_) AllReadyH.nil
                              · rintro e u1 ⟨rfl, hb1⟩
                                have HU1 := hid ((HU0.out).below hb1)
                                have hHeld := KP2.out _ HU1.out
                                refine ⟨_, rfl, hHeld, ?_⟩
                                clear hb1
                                simp only [Act.put, List.setIfInBounds_toArray, List.set_cons_zero, List.set_cons_succ]
                                refine take_at (i := 11) 77 (v := .int .u16 y1) rfl (by kernel_rfl) (by kernel_rfl) (by kernel_rfl) rfl (fun _ _ _ h => h) (by rfl) (fun w hSw => ?_) hHeld ?_
                                · (try dsimp only at hSw); go_simp; rw [HOR2.out]
                                simp only [Act.put, List.setIfInBounds_toArray, List.set_cons_zero, List.set_cons_succ]
                                refine take_at (i := 12) 78 (v := .pointer (some ⟨b2, B, none⟩)) rfl (by kernel_rfl) (by kernel_rfl) (by kernel_rfl) rfl (fun _ _ _ h => h) (by rfl) (fun w hSw => ?_) hHeld ?_
                                · (try dsimp only at hSw); go_simp
                                simp only [Act.put, List.setIfInBounds_toArray, List.set_cons_zero, List.set_cons_succ]
                                refine wpAnyH_ready (rs := [13]) (by kernel_rfl) (by simp) ?_
                                refine node_store75 78 77 b2 B _ _ rfl rfl rfl rfl rfl rfl (HX2.out _ HU1.out).1 (HX2.out _ HU1.out).2 (KP2s.out _ HU1.out) ?_ AllReadyH.nil
                                · skip
                                  refine wpAnyH_done (by kernel_rfl) ?_ _
                                  clear hHeld
                                  have HQ := hid (ST2.out _ HU1.out)
                                  go_wp2_with fail
                                  go_roundw
                                  case rel => exact ⟨i + 1, by go_num, by omega, by rw [HTK.out, HAL.out, HGO.out]; rfl, by rw [HT1.out]; exact HQ.out⟩
                                  case measure => simp [intOf]; omega
                            refine node_f52 76 75 _ rfl (by rfl) rfl rfl rfl ((ONA.out u0).mono ?_) AllReadyH.nil
                            · rintro e u1 ⟨rfl, hb1⟩
                              have HU1 := hid ((HU0.out).below hb1)
                              have hHeld := KP2.out _ HU1.out
                              refine ⟨_, rfl, hHeld, ?_⟩
                              clear hb1
                              simp only [Act.put, List.setIfInBounds_toArray, List.set_cons_zero, List.set_cons_succ]
                              refine wpAnyH_ready (rs := [7]) (by kernel_rfl) (by simp) ?_
                              refine node_load75 73 72 _ _ rfl rfl rfl rfl rfl (HX2.out _ HU1.out).1 (KP2.out _ HU1.out) ?_ AllReadyH.nil
                              · skip
                                simp only [Act.put, List.setIfInBounds_toArray, List.set_cons_zero, List.set_cons_succ]
                                refine take_at (i := 11) 77 (v := .int .u16 y1) rfl (by kernel_rfl) (by kernel_rfl) (by kernel_rfl) rfl (fun _ _ _ h => h) (by rfl) (fun w hSw => ?_) hHeld ?_
                                · (try dsimp only at hSw); go_simp; rw [HOR2.out]
                                simp only [Act.put, List.setIfInBounds_toArray, List.set_cons_zero, List.set_cons_succ]
                                refine take_at (i := 12) 78 (v := .pointer (some ⟨b2, B, none⟩)) rfl (by kernel_rfl) (by kernel_rfl) (by kernel_rfl) rfl (fun _ _ _ h => h) (by rfl) (fun w hSw => ?_) hHeld ?_
                                · (try dsimp only at hSw); go_simp
                                simp only [Act.put, List.setIfInBounds_toArray, List.set_cons_zero, List.set_cons_succ]
                                refine wpAnyH_ready (rs := [13]) (by kernel_rfl) (by simp) ?_
                                refine node_store75 78 77 b2 B _ _ rfl rfl rfl rfl rfl rfl (HX2.out _ HU1.out).1 (HX2.out _ HU1.out).2 (KP2s.out _ HU1.out) ?_ AllReadyH.nil
                                · skip
                                  refine wpAnyH_done (by kernel_rfl) ?_ _
                                  clear hHeld
                                  have HQ := hid (ST2.out _ HU1.out)
                                  go_wp2_with fail
                                  go_roundw
                                  case rel => exact ⟨i + 1, by go_num, by omega, by rw [HTK.out, HAL.out, HGO.out]; rfl, by rw [HT1.out]; exact HQ.out⟩
                                  case measure => simp [intOf]; omega
            · obtain rfl : i = l.length := by omega
              rw [HEND.out] at HR HAL
              have HVA : Hid (validP n l = true) := by show _ = _; unfold validP; rw [HAL.out, decide_eq_true (by omega : 1 ≤ (n : Int) ∧ (n : Int) ≤ 12), decide_eq_true h40]; rfl
              go_wp2_with fail
              go_ret2
              refine ⟨HR.out.blo, .inr ⟨HVA.out, D, rfl, ?_⟩⟩
              rw [Int.toNat_natCast]
              exact HR.out.dAt hn12
end Go.Proofs.Ytaedbkdimpdngaa
