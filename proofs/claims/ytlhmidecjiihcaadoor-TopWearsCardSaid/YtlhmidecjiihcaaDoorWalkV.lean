/-
  Products are summed (14).
-/
import Derived.Test.YtlhmidecjiihcaaDoorWalkU
namespace Go.Proofs.YtlhmidecjiihcaaDoor
open Go.RowKit
section
variable {md : Region.Mode} {ops : Array Oper} {Q : Exit → Act → World → Prop} {S : World → Prop} {fuel : Nat} {listed : Array Bool} {a : Act} {w : World} {i : Nat} {o : Oper} {rs : List Nat}
theorem node_load54 (d k X : Nat) (x0 x1 x2 x3 : Value) (hi : ops[i]? = some o) (hgd : o.guard = none) (ho : o.op = .load 54 (.tmp k)) (hd : o.dst = some d)
    (hp : a.tmps[k]?.getD undef = .pointer (some ⟨X, 0, none⟩)) (hh : w.heap[X]? = some (.cells #[x0, x1, x2, x3] 54)) (hS : S w)
    (h : wpAnyH Tryd.prog md ops Q S fuel (listed.setIfInBounds i true) (a.put (some d) (.agg #[x0, x1, x2, x3])) w)
    (hs : AllReadyH Tryd.prog md ops Q S fuel listed a w rs) : AllReadyH Tryd.prog md ops Q S fuel listed a w (i :: rs) := by
  refine AllReadyH.cons hi (fun K hK => ?_) hs
  have hw : Region.wanted o (yielded ops a.tmps) = true := by simp [Region.wanted, hgd]
  rw [if_pos hw]
  have hk := hK.out _ _ hS (fun _ => h)
  obtain ⟨hc0, hc1, hc2, hc3⟩ := cells4_of hh
  unfold Oper.wp execOp
  simp [ho, go_sem, hp, hc0, hc1, hc2, hc3]
  rw [hd]
  exact hk
end
set_option maxRecDepth 100000 in
set_option maxHeartbeats 4000000 in
theorem dot_any (v0 va vb : Value) (z0 : Int) (zs ys : List Int) (w : World) (h0 : RatZ w v0 z0) (ha : RatR w va zs) (hb : RatR w vb ys) (m : Nat) (hm : m = min zs.length ys.length)
    (hbd : ∀ i, i ≤ m → (psum z0 (fun j => zs.getD j 0 * ys.getD j 0) i).natAbs < 2147483648) (he : ∀ i, i < m → (zs.getD i 0).natAbs * (ys.getD i 0).natAbs < 2147483648) :
    Calls Tryd.prog 14 #[v0, va, vb] w fun e w' => ∃ x, e = .returned x ∧ RatZ w' x (psum z0 (fun j => zs.getD j 0 * ys.getD j 0) m) ∧ Below w.heap.size w w' := by
  obtain ⟨sa, ka, rfl⟩ := ha.sh
  obtain ⟨sb, kb, rfl⟩ := hb.sh
  have HV : Hid (∀ w', Below w.heap.size w w' → RatR w' (.slice sa zs.length ka) zs) := fun w' h => ha.below h
  have HW : Hid (∀ w', Below w.heap.size w w' → RatR w' (.slice sb ys.length kb) ys) := fun w' h => hb.below h
  obtain ⟨f, hf⟩ : ∃ f : Nat → Int, f = psum z0 (fun j => zs.getD j 0 * ys.getD j 0) := ⟨_, rfl⟩
  rw [← hf] at hbd ⊢
  have HF0 : Hid (f 0 = z0) := by rw [hf]; exact hid rfl
  have HFS : Hid (∀ i, f (i + 1) = f i + zs.getD i 0 * ys.getD i 0) := by rw [hf]; exact fun i => rfl
  have HBD := hid hbd
  have HE := hid he
  have hla1 : zs.length ≤ 1000 := by obtain ⟨_, _, _, h, _⟩ := ha; exact h
  have hlb1 : ys.length ≤ 1000 := by obtain ⟨_, _, _, h, _⟩ := hb; exact h
  obtain ⟨la, hla⟩ : ∃ l, l = zs.length := ⟨_, rfl⟩
  obtain ⟨lb, hlb⟩ : ∃ l, l = ys.length := ⟨_, rfl⟩
  have HLA := hid hla
  have HLB := hid hlb
  rw [← hla] at HV hm hla1 ⊢
  rw [← hlb] at HW hm hlb1 ⊢
  clear hf hbd he ha hb hla hlb
  have HZ0 : Hid (RatZ w v0 (f 0)) := by rw [HF0.out]; exact h0
  obtain ⟨a4, n4, c4, g4, d4, rfl, _, _⟩ := h0
  obtain ⟨b4, hb4⟩ : ∃ b, b = decide (z0 < 0) := ⟨_, rfl⟩
  rw [← hb4] at HZ0 ⊢
  clear hb4
  obtain ⟨X, R, w1, hw1, hX, hR, HX, HR, HB1, HRW, HXR0⟩ := boxes2 w #[.bool b4, .slice a4 n4 c4, .bool false, .slice (some ⟨g4, 0, none⟩) 1 d4] #[.bool false, .slice none 0 0, .bool false, .slice none 0 0] 54 54
  have HW1 := hid hw1
  have HXE := hid hX
  have HRE := hid hR
  have HXW : Hid (w.heap.size ≤ X) := hid (Nat.le_of_eq hX.symm)
  have HX1 : Hid (BoxR w1 X (f 0)) := hid ⟨b4, a4, n4, c4, g4, d4, HX.out, HZ0.out.below HB1.out⟩
  clear hw1 hX hR
  go_enter Tryd.func14, Tryd.ntmps14
  go_upto_region 1 with fail
  rw [HW1.out, ← HRE.out, ← HXE.out]
  clear HW1 HXE HRE HX HZ0
  go_wp2_with fail
  go_loopw [13] (fun iv wr => ∃ i : Nat, iv = .int .i64 i ∧ i ≤ m ∧ Hid (Below w.heap.size w wr) ∧ Hid (wr.heap[R]? = some (.cells #[.bool false, .slice none 0 0, .bool false, .slice none 0 0] 54)) ∧ Hid (BoxR wr X (f i))) (fun iv _ => m - (intOf iv).toNat)
  case atStart => exact ⟨0, rfl, Nat.zero_le _, HB1, HR, HX1⟩
  case round =>
    obtain ⟨i, rfl, hi, HBw, HRr, HXr⟩ := hrel
    obtain ⟨b4, a4, n4, c4, g4, d4, hx4, hz4⟩ := HXr.out
    have HX4 := hid hx4
    by_cases hlt : i < m
    · obtain ⟨Ga, b5, a5, n5, c5, g5, d5, rfl, e0, e1, e2, e3, hz5⟩ := (HV.out wr HBw.out).at i (by rw [← HLA.out]; omega)
      obtain ⟨Gb, b6, a6, n6, c6, g6, d6, rfl, h0, h1, h2, h3, hz6⟩ := (HW.out wr HBw.out).at i (by rw [← HLB.out]; omega)
      have hia : i < la := by omega
      have hib : i < lb := by omega
      have GaL : Hid (Ga < wr.heap.size) := hid (World.block_lt_of_cell? wr _ e0)
      have GbL : Hid (Gb < wr.heap.size) := hid (World.block_lt_of_cell? wr _ h0)
      have GaX : Hid (Ga ≠ X) := hid (by
        intro e
        have e2 := (HV.out w (Below.refl _ _)).at i (by rw [← HLA.out]; omega)
        obtain ⟨G2, _, _, _, _, _, _, hG2, k0, _⟩ := e2
        cases hG2
        have h1 : Ga < w.heap.size := World.block_lt_of_cell? w _ k0
        have h2 : w.heap.size ≤ X := HXW.out
        rw [e] at h1
        exact absurd h1 (Nat.not_lt.2 h2))
      have GbX : Hid (Gb ≠ X) := hid (by
        intro e
        have e2 := (HW.out w (Below.refl _ _)).at i (by rw [← HLB.out]; omega)
        obtain ⟨G2, _, _, _, _, _, _, hG2, k0, _⟩ := e2
        cases hG2
        have h1 : Gb < w.heap.size := World.block_lt_of_cell? w _ k0
        have h2 : w.heap.size ≤ X := HXW.out
        rw [e] at h1
        exact absurd h1 (Nat.not_lt.2 h2))
      have MU : Hid (∀ w', Below wr.heap.size wr w' → Calls Tryd.prog 39 #[.agg #[.bool b5, .slice a5 n5 c5, .bool false, .slice (some ⟨g5, 0, none⟩) 1 d5], .agg #[.bool b6, .slice a6 n6 c6, .bool false, .slice (some ⟨g6, 0, none⟩) 1 d6]] w' fun e w'' => ∃ x, e = .returned x ∧ RatZ w'' x (zs.getD i 0 * ys.getD i 0) ∧ Below w'.heap.size w' w'') := fun w' h => rmul_any _ _ _ _ w' (hz5.below h) (hz6.below h) (by have := HE.out i hlt; omega)
      have AD : Hid (∀ w' x, Below wr.heap.size wr w' → RatZ w' x (zs.getD i 0 * ys.getD i 0) → Calls Tryd.prog 45 #[.agg #[.bool b4, .slice a4 n4 c4, .bool false, .slice (some ⟨g4, 0, none⟩) 1 d4], x] w' fun e w'' => ∃ x, e = .returned x ∧ RatZ w'' x (f (i + 1)) ∧ Below w'.heap.size w' w'') := fun w' x h hx => by rw [HFS.out]; exact radd_any _ _ _ _ w' (hz4.below h) hx (HBD.out i (by omega)) (by rw [Int.natAbs_mul]; exact HE.out i hlt)
      have E0 := hid e0
      have E1 := hid e1
      have E2 := hid e2
      have E3 := hid e3
      have H0 := hid h0
      have H1 := hid h1
      have H2 := hid h2
      have H3 := hid h3
      clear e0 e1 e2 e3 h0 h1 h2 h3 hx4 hz4 hz5 hz6 HXr
      go_upto_region 4 with fail
      refine wp_region_held_drew (S := fun w' => ∀ j, j < wr.heap.size → j ≠ X → w'.heap[j]? = wr.heap[j]?) (by kernel_rfl) (fun j _ _ => rfl) (fun hHeld => ?_)
      have HBU : Hid (Below wr.heap.size wr wr.drew) := (Below.refl _ wr).drew
      have HXU := hid (cells_box HX4.out HBU.out)
      clear hHeld
      generalize wr.drew = u0 at *
      have hHeld : ∀ j, j < wr.heap.size → j ≠ X → u0.heap[j]? = wr.heap[j]? := fun j hj _ => HBU.out.block j hj
      refine take_at (i := 2) 18 (v := .slice (some ⟨Ga, 0, none⟩) la ka) rfl (by kernel_rfl) (by kernel_rfl) (by kernel_rfl) rfl (fun _ _ _ h => h) (by rfl) (fun w hSw => ?_) hHeld ?_
      · (try dsimp only at hSw); go_simp
      simp only [Act.put, List.setIfInBounds_toArray, List.set_cons_zero, List.set_cons_succ]
      refine take_at (i := 3) 19 (v := .int .i64 (i : Int)) rfl (by kernel_rfl) (by kernel_rfl) (by kernel_rfl) rfl (fun _ _ _ h => h) (by rfl) (fun w hSw => ?_) hHeld ?_
      · (try dsimp only at hSw); go_simp
      simp only [Act.put, List.setIfInBounds_toArray, List.set_cons_zero, List.set_cons_succ]
      refine take_at (i := 4) 20 (v := .pointer (some ⟨Ga, i * 4, none⟩)) rfl (by kernel_rfl) (by kernel_rfl) (by kernel_rfl) rfl (fun _ _ _ h => h) (by rfl) (fun w hSw => ?_) hHeld ?_
      · (try dsimp only at hSw); go_simp
      simp only [Act.put, List.setIfInBounds_toArray, List.set_cons_zero, List.set_cons_succ]
      refine take_at (i := 5) 21 (v := .agg #[.bool b5, .slice a5 n5 c5, .bool false, .slice (some ⟨g5, 0, none⟩) 1 d5]) rfl (by kernel_rfl) (by kernel_rfl) (by kernel_rfl) rfl (fun _ _ _ h => h) (by rfl) (fun w hSw => ?_) hHeld ?_
      · (try dsimp only at hSw); (try dsimp only at hSw); have z0 := (cell_same (hSw _ GaL.out GaX.out)).trans E0.out; have z1 := (cell_same (hSw _ GaL.out GaX.out)).trans E1.out; have z2 := (cell_same (hSw _ GaL.out GaX.out)).trans E2.out; have z3 := (cell_same (hSw _ GaL.out GaX.out)).trans E3.out; go_simp
      simp only [Act.put, List.setIfInBounds_toArray, List.set_cons_zero, List.set_cons_succ]
      refine take_at (i := 6) 22 (v := .iface 54 (.agg #[.bool b5, .slice a5 n5 c5, .bool false, .slice (some ⟨g5, 0, none⟩) 1 d5])) rfl (by kernel_rfl) (by kernel_rfl) (by kernel_rfl) rfl (fun _ _ _ h => h) (by rfl) (fun w hSw => ?_) hHeld ?_
      · (try dsimp only at hSw); go_simp
      simp only [Act.put, List.setIfInBounds_toArray, List.set_cons_zero, List.set_cons_succ]
      refine take_at (i := 7) 23 (v := .slice (some ⟨Gb, 0, none⟩) lb kb) rfl (by kernel_rfl) (by kernel_rfl) (by kernel_rfl) rfl (fun _ _ _ h => h) (by rfl) (fun w hSw => ?_) hHeld ?_
      · (try dsimp only at hSw); go_simp
      simp only [Act.put, List.setIfInBounds_toArray, List.set_cons_zero, List.set_cons_succ]
      refine take_at (i := 8) 24 (v := .int .i64 (i : Int)) rfl (by kernel_rfl) (by kernel_rfl) (by kernel_rfl) rfl (fun _ _ _ h => h) (by rfl) (fun w hSw => ?_) hHeld ?_
      · (try dsimp only at hSw); go_simp
      simp only [Act.put, List.setIfInBounds_toArray, List.set_cons_zero, List.set_cons_succ]
      refine take_at (i := 9) 25 (v := .pointer (some ⟨Gb, i * 4, none⟩)) rfl (by kernel_rfl) (by kernel_rfl) (by kernel_rfl) rfl (fun _ _ _ h => h) (by rfl) (fun w hSw => ?_) hHeld ?_
      · (try dsimp only at hSw); go_simp
      simp only [Act.put, List.setIfInBounds_toArray, List.set_cons_zero, List.set_cons_succ]
      refine take_at (i := 10) 26 (v := .agg #[.bool b6, .slice a6 n6 c6, .bool false, .slice (some ⟨g6, 0, none⟩) 1 d6]) rfl (by kernel_rfl) (by kernel_rfl) (by kernel_rfl) rfl (fun _ _ _ h => h) (by rfl) (fun w hSw => ?_) hHeld ?_
      · (try dsimp only at hSw); (try dsimp only at hSw); have z0 := (cell_same (hSw _ GbL.out GbX.out)).trans H0.out; have z1 := (cell_same (hSw _ GbL.out GbX.out)).trans H1.out; have z2 := (cell_same (hSw _ GbL.out GbX.out)).trans H2.out; have z3 := (cell_same (hSw _ GbL.out GbX.out)).trans H3.out; go_simp
      simp only [Act.put, List.setIfInBounds_toArray, List.set_cons_zero, List.set_cons_succ]
      refine wpAnyH_ready (rs := [0, 11]) (by kernel_rfl) (by simp) ?_
      refine node_load54 16 3 X _ _ _ _ rfl rfl rfl rfl rfl HXU.out hHeld ?_ ?_
      · skip
        simp only [Act.put, List.setIfInBounds_toArray, List.set_cons_zero, List.set_cons_succ]
        refine take_at (i := 1) 17 (v := .iface 54 (.agg #[.bool b4, .slice a4 n4 c4, .bool false, .slice (some ⟨g4, 0, none⟩) 1 d4])) rfl (by kernel_rfl) (by kernel_rfl) (by kernel_rfl) rfl (fun _ _ _ h => h) (by rfl) (fun w hSw => ?_) hHeld ?_
        · (try dsimp only at hSw); go_simp
        simp only [Act.put, List.setIfInBounds_toArray, List.set_cons_zero, List.set_cons_succ]
        refine wpAnyH_ready (rs := [11]) (by kernel_rfl) (by simp) ?_
        refine node_iMul 27 22 26 _ _ rfl rfl rfl rfl rfl rfl ?_ AllReadyH.nil
        · refine (MU.out _ HBU.out).mono ?_
          rintro e w7 ⟨x7, rfl, hz7, hb7⟩
          have HB7 := hid (below_step HBU.out hb7)
          have HX7 := hid (cells_box HXU.out hb7)
          replace hHeld : ∀ j, j < wr.heap.size → j ≠ X → w7.heap[j]? = wr.heap[j]? := fun j hj _ => HB7.out.block j hj
          have HZ7 := hid hz7
          obtain ⟨a7, n7, c7, g7, d7, hx7, _, _⟩ := hz7
          obtain ⟨b7, hb7e⟩ : ∃ b7 : Bool, b7 = decide (zs.getD i 0 * ys.getD i 0 < 0) := ⟨_, rfl⟩
          rw [← hb7e] at hx7
          subst hx7
          clear hb7 hb7e
          refine ⟨_, rfl, hHeld, ?_⟩
          simp only [Act.put, List.setIfInBounds_toArray, List.set_cons_zero, List.set_cons_succ]
          refine wpAnyH_ready (rs := [12]) (by kernel_rfl) (by simp) ?_
          refine node_iAdd 28 17 27 _ _ rfl rfl rfl rfl rfl rfl ?_ AllReadyH.nil
          · refine (AD.out _ _ HB7.out HZ7.out).mono ?_
            rintro e w8 ⟨x8, rfl, hz8, hb8⟩
            have HB8 := hid (below_step HB7.out hb8)
            have HX8 := hid (cells_box HX7.out hb8)
            replace hHeld : ∀ j, j < wr.heap.size → j ≠ X → w8.heap[j]? = wr.heap[j]? := fun j hj _ => HB8.out.block j hj
            have HZ8 := hid hz8
            obtain ⟨a8, n8, c8, g8, d8, hx8, _, _⟩ := hz8
            obtain ⟨b8', hb8e⟩ : ∃ b8' : Bool, b8' = decide (f (i + 1) < 0) := ⟨_, rfl⟩
            rw [← hb8e] at hx8
            subst hx8
            clear hb8 hb8e
            refine ⟨_, rfl, hHeld, ?_⟩
            simp only [Act.put, List.setIfInBounds_toArray, List.set_cons_zero, List.set_cons_succ]
            refine wpAnyH_ready (rs := [13]) (by kernel_rfl) (by simp) ?_
            refine node_store54 3 28 X _ _ _ _ b8' false a8 (some ⟨g8, 0, none⟩) n8 c8 1 d8 rfl rfl rfl rfl rfl rfl HX8.out (fun j hj hx => (put4_off _ hx).trans (HB8.out.block j hj)) ?_ AllReadyH.nil
            · replace hHeld : ∀ j, j < wr.heap.size → j ≠ X → (put4 w8 X b8' a8 n8 c8 false (some ⟨g8, 0, none⟩) 1 d8).heap[j]? = wr.heap[j]? := fun j hj hx => (put4_off _ hx).trans (HB8.out.block j hj)
              refine wpAnyH_done (by kernel_rfl) ?_ _
              clear hHeld
              go_wp2_with fail
              go_roundw
              case rel =>
                refine ⟨i + 1, by go_num, by omega, ?_, ?_, ?_⟩
                · exact put4_below (b := b8') (p := a8) (n := n8) (c := c8) (e := false) (q := some ⟨g8, 0, none⟩) (m := 1) (d := d8) (HBw.out.trans (HB8.out.mono HBw.out.size)) HXW.out
                · exact (put4_off (b := b8') (p := a8) (n := n8) (c := c8) (e := false) (q := some ⟨g8, 0, none⟩) (m := 1) (d := d8) _ (Ne.symm HXR0.out)).trans (cells_box HRr.out HB8.out)
                · exact BoxR.put HX8.out (fun z e => by cases e) HZ8.out
              case measure => simp [intOf]; omega
      refine node_iMul 27 22 26 _ _ rfl rfl rfl rfl rfl rfl ?_ AllReadyH.nil
      · refine (MU.out _ HBU.out).mono ?_
        rintro e w7 ⟨x7, rfl, hz7, hb7⟩
        have HB7 := hid (below_step HBU.out hb7)
        have HX7 := hid (cells_box HXU.out hb7)
        replace hHeld : ∀ j, j < wr.heap.size → j ≠ X → w7.heap[j]? = wr.heap[j]? := fun j hj _ => HB7.out.block j hj
        have HZ7 := hid hz7
        obtain ⟨a7, n7, c7, g7, d7, hx7, _, _⟩ := hz7
        obtain ⟨b7, hb7e⟩ : ∃ b7 : Bool, b7 = decide (zs.getD i 0 * ys.getD i 0 < 0) := ⟨_, rfl⟩
        rw [← hb7e] at hx7
        subst hx7
        clear hb7 hb7e
        refine ⟨_, rfl, hHeld, ?_⟩
        simp only [Act.put, List.setIfInBounds_toArray, List.set_cons_zero, List.set_cons_succ]
        refine wpAnyH_ready (rs := [0]) (by kernel_rfl) (by simp) ?_
        refine node_load54 16 3 X _ _ _ _ rfl rfl rfl rfl rfl HX7.out hHeld ?_ AllReadyH.nil
        · skip
          simp only [Act.put, List.setIfInBounds_toArray, List.set_cons_zero, List.set_cons_succ]
          refine take_at (i := 1) 17 (v := .iface 54 (.agg #[.bool b4, .slice a4 n4 c4, .bool false, .slice (some ⟨g4, 0, none⟩) 1 d4])) rfl (by kernel_rfl) (by kernel_rfl) (by kernel_rfl) rfl (fun _ _ _ h => h) (by rfl) (fun w hSw => ?_) hHeld ?_
          · (try dsimp only at hSw); go_simp
          simp only [Act.put, List.setIfInBounds_toArray, List.set_cons_zero, List.set_cons_succ]
          refine wpAnyH_ready (rs := [12]) (by kernel_rfl) (by simp) ?_
          refine node_iAdd 28 17 27 _ _ rfl rfl rfl rfl rfl rfl ?_ AllReadyH.nil
          · refine (AD.out _ _ HB7.out HZ7.out).mono ?_
            rintro e w8 ⟨x8, rfl, hz8, hb8⟩
            have HB8 := hid (below_step HB7.out hb8)
            have HX8 := hid (cells_box HX7.out hb8)
            replace hHeld : ∀ j, j < wr.heap.size → j ≠ X → w8.heap[j]? = wr.heap[j]? := fun j hj _ => HB8.out.block j hj
            have HZ8 := hid hz8
            obtain ⟨a8, n8, c8, g8, d8, hx8, _, _⟩ := hz8
            obtain ⟨b8', hb8e⟩ : ∃ b8' : Bool, b8' = decide (f (i + 1) < 0) := ⟨_, rfl⟩
            rw [← hb8e] at hx8
            subst hx8
            clear hb8 hb8e
            refine ⟨_, rfl, hHeld, ?_⟩
            simp only [Act.put, List.setIfInBounds_toArray, List.set_cons_zero, List.set_cons_succ]
            refine wpAnyH_ready (rs := [13]) (by kernel_rfl) (by simp) ?_
            refine node_store54 3 28 X _ _ _ _ b8' false a8 (some ⟨g8, 0, none⟩) n8 c8 1 d8 rfl rfl rfl rfl rfl rfl HX8.out (fun j hj hx => (put4_off _ hx).trans (HB8.out.block j hj)) ?_ AllReadyH.nil
            · replace hHeld : ∀ j, j < wr.heap.size → j ≠ X → (put4 w8 X b8' a8 n8 c8 false (some ⟨g8, 0, none⟩) 1 d8).heap[j]? = wr.heap[j]? := fun j hj hx => (put4_off _ hx).trans (HB8.out.block j hj)
              refine wpAnyH_done (by kernel_rfl) ?_ _
              clear hHeld
              go_wp2_with fail
              go_roundw
              case rel =>
                refine ⟨i + 1, by go_num, by omega, ?_, ?_, ?_⟩
                · exact put4_below (b := b8') (p := a8) (n := n8) (c := c8) (e := false) (q := some ⟨g8, 0, none⟩) (m := 1) (d := d8) (HBw.out.trans (HB8.out.mono HBw.out.size)) HXW.out
                · exact (put4_off (b := b8') (p := a8) (n := n8) (c := c8) (e := false) (q := some ⟨g8, 0, none⟩) (m := 1) (d := d8) _ (Ne.symm HXR0.out)).trans (cells_box HRr.out HB8.out)
                · exact BoxR.put HX8.out (fun z e => by cases e) HZ8.out
              case measure => simp [intOf]; omega
    · obtain rfl : i = m := by omega
      obtain ⟨x0, x1, x2, x3⟩ := cells4_of HX4.out
      obtain ⟨r0, r1, r2, r3⟩ := cells4_of HRr.out
      have f0 := free_box HRr.out 0
      have f1 := free_box HRr.out 1
      have f2 := free_box HRr.out 2
      have f3 := free_box HRr.out 3
      have HZ4 := hid hz4
      clear hx4 hz4
      go_wp2_with fail
      exact bodyPost_ret (v := .agg #[.bool b4, .slice a4 n4 c4, .bool false, .slice (some ⟨g4, 0, none⟩) 1 d4]) (by simp [results, Tryd.results14, go_sem, r0, r1, r2, r3]) rfl
        ⟨_, rfl, HZ4.out.off (off_bool r0) (put4_off (b := b4) (p := a4) (n := n4) (c := c4) (e := false) (q := some ⟨g4, 0, none⟩) (m := 1) (d := d4)), put4_below (b := b4) (p := a4) (n := n4) (c := c4) (e := false) (q := some ⟨g4, 0, none⟩) (m := 1) (d := d4) HBw.out HRW.out⟩
end Go.Proofs.YtlhmidecjiihcaaDoor
