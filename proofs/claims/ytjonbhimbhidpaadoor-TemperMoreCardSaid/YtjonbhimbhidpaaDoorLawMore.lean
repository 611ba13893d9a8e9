/-
  The law TemperMore of chapter 6: its contract.
-/
import Derived.Test.YtjonbhimbhidpaaDoorBaseU
namespace Go.Proofs.YtjonbhimbhidpaaDoor
open Go.RowKit
set_option maxHeartbeats 8000000 in
set_option maxRecDepth 100000 in
theorem TemperMore_ok (ph ro wi : Int) (ca : Option Addr) (cn cc : Nat) (ma : Option Addr) (mn mc : Nat) (ja : Option Addr) (jn jc : Nat) (y0 y1 y2 y3 z0 z1 : Int) (w : World) (hk : ArgKiln w ph ro wi ca cn cc ma mn mc ja jn jc) (hy : (0 ≤ y0 ∧ y0 < 256) ∧ (0 ≤ y1 ∧ y1 < 256) ∧ (0 ≤ y2 ∧ y2 < 256) ∧ (0 ≤ y3 ∧ y3 < 256)) (hz : (0 ≤ z0 ∧ z0 < 256) ∧ (0 ≤ z1 ∧ z1 < 256)) :
    Calls Tryd.prog 4 #[.agg #[.int .u8 ph, .int .u8 ro, .int .u8 wi, .slice ca cn cc, .slice ma mn mc, .slice ja jn jc], .agg #[.int .u8 y0, .int .u8 y1, .int .u8 y2, .int .u8 y3], .agg #[.int .u8 z0, .int .u8 z1]] w fun e w' => e = .returned (.bool true) ∧ Below w.heap.size w w' := by
  obtain ⟨g0, g1, g2, g3⟩ := hy
  obtain ⟨g4, g5⟩ := hz
  have hb3 : Below w.heap.size w (((w.alloc (.cells #[.int .u8 ph, .int .u8 ro, .int .u8 wi, .slice ca cn cc, .slice ma mn mc, .slice ja jn jc] 45)).alloc (.cells #[.int .u8 y0, .int .u8 y1, .int .u8 y2, .int .u8 y3] 46)).alloc (.cells #[.int .u8 z0, .int .u8 z1] 47)) := (((Below.refl _ _).alloc (Nat.le_refl _) _).alloc (by simp) _).alloc (by simp; omega) _
  have HB3 := hid hb3
  have HK3 := hid (argKiln_below hk hb3)
  have hk1 : (((w.alloc (.cells #[.int .u8 ph, .int .u8 ro, .int .u8 wi, .slice ca cn cc, .slice ma mn mc, .slice ja jn jc] 45)).alloc (.cells #[.int .u8 y0, .int .u8 y1, .int .u8 y2, .int .u8 y3] 46)).alloc (.cells #[.int .u8 z0, .int .u8 z1] 47)).heap[w.heap.size + 1]? = some (.cells #[.int .u8 y0, .int .u8 y1, .int .u8 y2, .int .u8 y3] 46) := heap_alloc3b _ _ _ _
  have hk2 : (((w.alloc (.cells #[.int .u8 ph, .int .u8 ro, .int .u8 wi, .slice ca cn cc, .slice ma mn mc, .slice ja jn jc] 45)).alloc (.cells #[.int .u8 y0, .int .u8 y1, .int .u8 y2, .int .u8 y3] 46)).alloc (.cells #[.int .u8 z0, .int .u8 z1] 47)).heap[w.heap.size + 1 + 1]? = some (.cells #[.int .u8 z0, .int .u8 z1] 47) := heap_alloc3c _ _ _ _
  have HK1 := hid hk1
  have HK2 := hid hk2
  clear hb3 hk hk1 hk2
  go_enter Tryd.func4, Tryd.ntmps4
  go_upto_region 2 with (first | (go_at_call 24; refine (made_ov (w0 := w) HB3.out HK3.out).mono ?_; rintro e w4 ⟨q, a1, c1, a2, c2, a3, c3, rfl, hok, hva, hml, how, hb4⟩; have HOK := hid hok; have HVA := hid hva; have HML := hid hml; have HOW := hid how; have HB34 := hid hb4; clear hok hva hml how hb4) | fail)
  obtain ⟨Y, hY⟩ : ∃ Y, Y = w.heap.size + 1 := ⟨_, rfl⟩
  obtain ⟨Z, hZ⟩ : ∃ Z, Z = w.heap.size + 1 + 1 := ⟨_, rfl⟩
  obtain ⟨X, hX⟩ : ∃ X, X = w4.heap.size := ⟨_, rfl⟩
  obtain ⟨W, hW⟩ : ∃ W, W = (w4.alloc (.cells #[.slice a1 q.safe.length c1, .slice a2 q.moves.length c2, .slice a3 q.jolts.length c3] 26)) := ⟨_, rfl⟩
  rw [← hZ, ← hY, ← hX, ← hW]
  have h4W : Below w4.heap.size w4 W := by rw [hW]; exact (Below.refl _ _).alloc (Nat.le_refl _) _
  have hxw : W.heap[X]? = some (.cells #[.slice a1 q.safe.length c1, .slice a2 q.moves.length c2, .slice a3 q.jolts.length c3] 26) := by rw [hW, hX]; exact heap_alloc_new _ _
  have h3W := HB34.out.trans (h4W.mono HB34.out.size)
  have hyw := (h3W.block (w.heap.size + 1) (by simp)).trans HK1.out
  have hzw := (h3W.block (w.heap.size + 1 + 1) (by simp)).trans HK2.out
  rw [← hY] at hyw
  rw [← hZ] at hzw
  have KP : Hid (∀ w', Below W.heap.size W w' → w'.cell? ⟨X, 0, none⟩ = some (.slice a1 q.safe.length c1) ∧ w'.cell? ⟨X, 1, none⟩ = some (.slice a2 q.moves.length c2) ∧ w'.cell? ⟨X, 2, none⟩ = some (.slice a3 q.jolts.length c3) ∧ w'.cell? ⟨Y, 0, none⟩ = some (.int .u8 y0) ∧ w'.cell? ⟨Y, 1, none⟩ = some (.int .u8 y1) ∧ w'.cell? ⟨Y, 2, none⟩ = some (.int .u8 y2) ∧ w'.cell? ⟨Y, 3, none⟩ = some (.int .u8 y3) ∧ w'.cell? ⟨Z, 0, none⟩ = some (.int .u8 z0) ∧ w'.cell? ⟨Z, 1, none⟩ = some (.int .u8 z1)) := by
    intro w' hb
    obtain ⟨e0, e1, e2⟩ := cells3_of ((hb.block X (heap_lt hxw)).trans hxw)
    obtain ⟨f0, f1, f2, f3⟩ := cells4_of ((hb.block Y (heap_lt hyw)).trans hyw)
    obtain ⟨d0, d1⟩ := cells2_of ((hb.block Z (heap_lt hzw)).trans hzw)
    exact ⟨e0, e1, e2, f0, f1, f2, f3, d0, d1⟩
  have HBW : Hid (Below w.heap.size w W) := HB3.out.trans (h3W.mono HB3.out.size)
  have how := HOW.out.below h4W
  have HOV := hid how
  have hiv := ownOv_isOv how HOK.out
  have HXW : Hid (X < W.heap.size) := heap_lt hxw
  have HO : Hid (∀ w', Below W.heap.size W w' → IsOv w' (.slice a1 q.safe.length c1) (.slice a2 q.moves.length c2) (.slice a3 q.jolts.length c3) q) := fun w' hb => isOv_below hiv hb
  obtain ⟨k3, hk3⟩ : ∃ k3, k3 = min q.jolts.length 3 := ⟨_, rfl⟩
  have HK3L : Hid (1 ≤ k3 ∧ k3 ≤ 3 ∧ k3 ≤ q.jolts.length) := by have := HOK.out.nj; show _ ∧ _; omega
  have KMIN : Hid (min (q.jolts.length : Int) 3 = k3) := by show _ = _; omega
  obtain ⟨_, hjc, _, hj0⟩ := row_cap how.jl
  have RDM : Hid (∀ w', Below W.heap.size W w' → Rd w' (.slice a2 q.moves.length c2) q.moves.length 4 (mcells q.moves)) := fun w' hb => rd_row (row_below how.mv hb) (mcells_one _)
  have RDJ : Hid (∀ w', Below W.heap.size W w' → Rd w' (.slice a3 k3 c3) k3 2 (jcells (q.jolts.take k3))) := fun w' hb => by
    rw [jcells_take]
    exact rd_take (rd_row (row_below how.jl hb) (jcells_one _)) HK3L.out.2.2 (fun e => by have := hj0 e; have := HK3L.out; omega)
  have hjc3 : k3 ≤ c3 := by have := HK3L.out; omega
  have HP1 := HOK.out.p
  have NZ : Hid (¬ q.safe = []) := by
    intro h
    have h1 : 1 ≤ q.safe.length := HP1.1
    rw [h] at h1
    simp at h1
  have REM : Hid (∀ z : Int, 0 ≤ z → z.tmod (q.safe.length : Int) = z % (q.safe.length : Int)) := fun z hz => Int.tmod_eq_emod_of_nonneg hz
  obtain ⟨y0', y1', y2', _⟩ := KP.out W (Below.refl _ _)
  clear hY hZ hX hW hxw hyw hzw h3W h4W how hiv hk3 hj0 hjc HP1
  go_upto_region 3 with (first | (go_at_call 25; refine (kernel_ok (w0 := w) HBW.out _ _ _ q (HO.out _ (by repeat (first | exact Below.refl _ _ | (apply Hid.out; assumption) | refine Below.drew ?_ | refine below_drewN_r ?_ _))) HOK.out HVA.out).mono ?_; rintro e w5 ⟨k1, k2, rfl, hg5, hb5⟩; have HG5 := hid (gridOf_isGrid HOK.out hg5); have HB5 := hid hb5; clear hg5 hb5) | fail)
  clear y0' y1' y2'
  go_cut [10, 11] (fun v10 v11 wx => ∃ XA XB, v10 = .pointer (some ⟨XA, 0, none⟩) ∧ v11 = .pointer (some ⟨XB, 0, none⟩) ∧ w5.heap.size ≤ XA ∧ w5.heap.size ≤ XB ∧ XA ≠ XB ∧ wx.heap[XA]? = some (.cells #[.slice a1 q.safe.length c1, .slice a2 q.moves.length c2, .slice a3 q.jolts.length c3] 26) ∧ wx.heap[XB]? = some (.cells #[.slice a1 q.safe.length c1, .slice a2 q.moves.length c2, .slice a3 q.jolts.length c3] 26) ∧ Below w5.heap.size w5 wx)
  case first =>
    have KEEP : Hid (∀ w', Below w5.heap.size w5 w' → w'.cell? ⟨X, 0, none⟩ = some (.slice a1 q.safe.length c1) ∧ w'.cell? ⟨X, 1, none⟩ = some (.slice a2 q.moves.length c2) ∧ w'.cell? ⟨X, 2, none⟩ = some (.slice a3 q.jolts.length c3) ∧ Hid (Below w5.heap.size w5 w')) := fun w' hb => by obtain ⟨e0, e1, e2, _⟩ := KP.out w' (HB5.out.trans (hb.mono HB5.out.size)); exact ⟨e0, e1, e2, hb⟩
    refine wp_region_held_drew (S := fun w' => w'.cell? ⟨X, 0, none⟩ = some (.slice a1 q.safe.length c1) ∧ w'.cell? ⟨X, 1, none⟩ = some (.slice a2 q.moves.length c2) ∧ w'.cell? ⟨X, 2, none⟩ = some (.slice a3 q.jolts.length c3) ∧ Hid (Below w5.heap.size w5 w')) (by kernel_rfl) (KEEP.out _ ((Below.refl _ _).drew)) (fun hHeld => ?_)
    refine take_at (i := 0) 28 (v := .agg #[.slice a1 q.safe.length c1, .slice a2 q.moves.length c2, .slice a3 q.jolts.length c3]) rfl (by kernel_rfl) (by kernel_rfl) (by kernel_rfl) rfl (fun _ _ _ h => h) (by rfl) (fun w hSw => ?_) hHeld ?_
    · (try dsimp only at hSw); go_simp
    simp only [Act.put, List.setIfInBounds_toArray, List.set_cons_zero, List.set_cons_succ]
    refine take_at (i := 1) 29 (v := .agg #[.slice a1 q.safe.length c1, .slice a2 q.moves.length c2, .slice a3 q.jolts.length c3]) rfl (by kernel_rfl) (by kernel_rfl) (by kernel_rfl) rfl (fun _ _ _ h => h) (by rfl) (fun w hSw => ?_) hHeld ?_
    · (try dsimp only at hSw); go_simp
    simp only [Act.put, List.setIfInBounds_toArray, List.set_cons_zero, List.set_cons_succ]
    have Ra : Below w5.heap.size w5 w5.drew := (Below.refl _ _).drew
    clear hHeld
    refine wpAnyH_ready (rs := [2, 3]) (by kernel_rfl) (by simp) ?_
    refine node_alloc26 10 rfl rfl rfl rfl (KEEP.out _ (Ra.alloc Ra.size _)) (fun _ => ?_) ?_
    · simp only [Act.put, List.setIfInBounds_toArray, List.set_cons_zero, List.set_cons_succ]
      refine wpAnyH_ready (rs := [3]) (by kernel_rfl) (by simp) ?_
      refine node_alloc26 11 rfl rfl rfl rfl (KEEP.out _ ((Ra.alloc Ra.size _).alloc (Nat.le_trans Ra.size (by simp)) _)) (fun _ => ?_) AllReadyH.nil
      simp only [Act.put, List.setIfInBounds_toArray, List.set_cons_zero, List.set_cons_succ]
      have Rb := (Ra.alloc Ra.size (.cells #[.slice none 0 0, .slice none 0 0, .slice none 0 0] 26)).alloc (Nat.le_trans Ra.size (by simp)) (.cells #[.slice none 0 0, .slice none 0 0, .slice none 0 0] 26)
      obtain ⟨t0, t1, t2, t5⟩ := two_made w5.drew (.cells #[.slice none 0 0, .slice none 0 0, .slice none 0 0] 26) (.cells #[.slice none 0 0, .slice none 0 0, .slice none 0 0] 26)
      have t4 : w5.heap.size ≤ w5.drew.heap.size := Nat.le_refl _
      replace t5 : w5.heap.size ≤ (w5.drew.alloc (.cells #[.slice none 0 0, .slice none 0 0, .slice none 0 0] 26)).heap.size := Nat.le_trans t4 t5
      generalize ((w5.drew.alloc (.cells #[.slice none 0 0, .slice none 0 0, .slice none 0 0] 26)).alloc (.cells #[.slice none 0 0, .slice none 0 0, .slice none 0 0] 26)) = wb at *
      generalize (w5.drew.alloc (.cells #[.slice none 0 0, .slice none 0 0, .slice none 0 0] 26)).heap.size = s2 at *
      generalize w5.drew.heap.size = s1 at *
      refine wpAnyH_ready (rs := [4]) (by kernel_rfl) (by simp) ?_
      refine node_store26 10 28 s1 _ _ _ _ _ _ _ _ _ _ _ _ rfl rfl rfl rfl rfl rfl t1 (KEEP.out _ (below_store3 Rb t4)) ?_ AllReadyH.nil
      refine wpAnyH_ready (rs := [5]) (by kernel_rfl) (by simp) ?_
      refine node_store26 11 29 s2 _ _ _ _ _ _ _ _ _ _ _ _ rfl rfl rfl rfl rfl rfl (two_keep t0 t2) (KEEP.out _ (below_store3 (below_store3 Rb t4) t5)) ?_ AllReadyH.nil
      refine wpAnyH_done (by kernel_rfl) ?_ _
      go_wp2_with fail
      go_meet
      exact ⟨s1, s2, rfl, rfl, t4, t5, t0, (two_store t0 t1 t2).1, (two_store t0 t1 t2).2, below_store3 (below_store3 Rb t4) t5⟩
    refine node_alloc26 11 rfl rfl rfl rfl (KEEP.out _ (Ra.alloc Ra.size _)) (fun _ => ?_) AllReadyH.nil
    · simp only [Act.put, List.setIfInBounds_toArray, List.set_cons_zero, List.set_cons_succ]
      refine wpAnyH_ready (rs := [2]) (by kernel_rfl) (by simp) ?_
      refine node_alloc26 10 rfl rfl rfl rfl (KEEP.out _ ((Ra.alloc Ra.size _).alloc (Nat.le_trans Ra.size (by simp)) _)) (fun _ => ?_) AllReadyH.nil
      simp only [Act.put, List.setIfInBounds_toArray, List.set_cons_zero, List.set_cons_succ]
      have Rb := (Ra.alloc Ra.size (.cells #[.slice none 0 0, .slice none 0 0, .slice none 0 0] 26)).alloc (Nat.le_trans Ra.size (by simp)) (.cells #[.slice none 0 0, .slice none 0 0, .slice none 0 0] 26)
      obtain ⟨t0, t1, t2, t5⟩ := two_made w5.drew (.cells #[.slice none 0 0, .slice none 0 0, .slice none 0 0] 26) (.cells #[.slice none 0 0, .slice none 0 0, .slice none 0 0] 26)
      have t4 : w5.heap.size ≤ w5.drew.heap.size := Nat.le_refl _
      replace t5 : w5.heap.size ≤ (w5.drew.alloc (.cells #[.slice none 0 0, .slice none 0 0, .slice none 0 0] 26)).heap.size := Nat.le_trans t4 t5
      generalize ((w5.drew.alloc (.cells #[.slice none 0 0, .slice none 0 0, .slice none 0 0] 26)).alloc (.cells #[.slice none 0 0, .slice none 0 0, .slice none 0 0] 26)) = wb at *
      generalize (w5.drew.alloc (.cells #[.slice none 0 0, .slice none 0 0, .slice none 0 0] 26)).heap.size = s2 at *
      generalize w5.drew.heap.size = s1 at *
      refine wpAnyH_ready (rs := [4]) (by kernel_rfl) (by simp) ?_
      refine node_store26 10 28 s2 _ _ _ _ _ _ _ _ _ _ _ _ rfl rfl rfl rfl rfl rfl t2 (KEEP.out _ (below_store3 Rb t5)) ?_ AllReadyH.nil
      refine wpAnyH_ready (rs := [5]) (by kernel_rfl) (by simp) ?_
      refine node_store26 11 29 s1 _ _ _ _ _ _ _ _ _ _ _ _ rfl rfl rfl rfl rfl rfl (two_keep (Ne.symm t0) t1) (KEEP.out _ (below_store3 (below_store3 Rb t5) t4)) ?_ AllReadyH.nil
      refine wpAnyH_done (by kernel_rfl) ?_ _
      go_wp2_with fail
      go_meet
      exact ⟨s2, s1, rfl, rfl, t5, t4, (Ne.symm t0), (two_store (Ne.symm t0) t2 t1).1, (two_store (Ne.symm t0) t2 t1).2, below_store3 (below_store3 Rb t5) t4⟩
  case rest =>
    obtain ⟨XA, XB, rfl, rfl, hla, hlb, hne, hxa, hxb, hbd⟩ := hcut
    rename World => wd
    have HLA := hid hla
    have HLB := hid hlb
    have HNE := hid hne
    have HXA := hid hxa
    have HXB := hid hxb
    have HBd := hid hbd
    clear hla hlb hne hxa hxb hbd
    go_upto_region 4 with fail
    have KEEP : Hid (∀ w', Below w5.heap.size w5 w' → w'.cell? ⟨X, 0, none⟩ = some (.slice a1 q.safe.length c1) ∧ w'.cell? ⟨X, 1, none⟩ = some (.slice a2 q.moves.length c2) ∧ w'.cell? ⟨Y, 0, none⟩ = some (.int .u8 y0) ∧ w'.cell? ⟨Y, 1, none⟩ = some (.int .u8 y1) ∧ w'.cell? ⟨Y, 2, none⟩ = some (.int .u8 y2) ∧ w'.cell? ⟨Y, 3, none⟩ = some (.int .u8 y3) ∧ Hid (Below w5.heap.size w5 w')) := fun w' hb => by obtain ⟨e0, e1, _, f0, f1, f2, f3, _⟩ := KP.out w' (HB5.out.trans (hb.mono HB5.out.size)); exact ⟨e0, e1, f0, f1, f2, f3, hb⟩
    have KD : Hid (∀ w', Below wd.heap.size wd w' → w'.cell? ⟨X, 0, none⟩ = some (.slice a1 q.safe.length c1) ∧ w'.cell? ⟨X, 1, none⟩ = some (.slice a2 q.moves.length c2) ∧ w'.cell? ⟨Y, 0, none⟩ = some (.int .u8 y0) ∧ w'.cell? ⟨Y, 1, none⟩ = some (.int .u8 y1) ∧ w'.cell? ⟨Y, 2, none⟩ = some (.int .u8 y2) ∧ w'.cell? ⟨Y, 3, none⟩ = some (.int .u8 y3) ∧ Hid (Below w5.heap.size w5 w')) := fun w' hb => KEEP.out _ (HBd.out.trans (hb.mono HBd.out.size))
    have Wa := (Below.refl wd.heap.size wd).drew
    refine wp_region_held_drew (S := fun w' => w'.cell? ⟨X, 0, none⟩ = some (.slice a1 q.safe.length c1) ∧ w'.cell? ⟨X, 1, none⟩ = some (.slice a2 q.moves.length c2) ∧ w'.cell? ⟨Y, 0, none⟩ = some (.int .u8 y0) ∧ w'.cell? ⟨Y, 1, none⟩ = some (.int .u8 y1) ∧ w'.cell? ⟨Y, 2, none⟩ = some (.int .u8 y2) ∧ w'.cell? ⟨Y, 3, none⟩ = some (.int .u8 y3) ∧ Hid (Below w5.heap.size w5 w')) (by kernel_rfl) (KD.out _ Wa) (fun hHeld => ?_)
    refine take_at (i := 1) 31 (v := .pointer (some ⟨X, 1, none⟩)) rfl (by kernel_rfl) (by kernel_rfl) (by kernel_rfl) rfl (fun _ _ _ h => h) (by rfl) (fun w hSw => ?_) hHeld ?_
    · (try dsimp only at hSw); go_simp
    simp only [Act.put, List.setIfInBounds_toArray, List.set_cons_zero, List.set_cons_succ]
    refine take_at (i := 2) 32 (v := .slice a2 q.moves.length c2) rfl (by kernel_rfl) (by kernel_rfl) (by kernel_rfl) rfl (fun _ _ _ h => h) (by rfl) (fun w hSw => ?_) hHeld ?_
    · (try dsimp only at hSw); go_simp
    simp only [Act.put, List.setIfInBounds_toArray, List.set_cons_zero, List.set_cons_succ]
    refine take_at (i := 4) 34 (v := .pointer (some ⟨Y, 0, none⟩)) rfl (by kernel_rfl) (by kernel_rfl) (by kernel_rfl) rfl (fun _ _ _ h => h) (by rfl) (fun w hSw => ?_) hHeld ?_
    · (try dsimp only at hSw); go_simp
    simp only [Act.put, List.setIfInBounds_toArray, List.set_cons_zero, List.set_cons_succ]
    refine take_at (i := 5) 35 (v := .int .u8 y0) rfl (by kernel_rfl) (by kernel_rfl) (by kernel_rfl) rfl (fun _ _ _ h => h) (by rfl) (fun w hSw => ?_) hHeld ?_
    · (try dsimp only at hSw); go_simp
    simp only [Act.put, List.setIfInBounds_toArray, List.set_cons_zero, List.set_cons_succ]
    refine take_at (i := 6) 36 (v := .int .i64 y0) rfl (by kernel_rfl) (by kernel_rfl) (by kernel_rfl) rfl (fun _ _ _ h => h) (by rfl) (fun w hSw => ?_) hHeld ?_
    · (try dsimp only at hSw); go_simp; exact wrap_small g0.1 g0.2
    simp only [Act.put, List.setIfInBounds_toArray, List.set_cons_zero, List.set_cons_succ]
    refine take_at (i := 7) 37 (v := .pointer (some ⟨X, 0, none⟩)) rfl (by kernel_rfl) (by kernel_rfl) (by kernel_rfl) rfl (fun _ _ _ h => h) (by rfl) (fun w hSw => ?_) hHeld ?_
    · (try dsimp only at hSw); go_simp
    simp only [Act.put, List.setIfInBounds_toArray, List.set_cons_zero, List.set_cons_succ]
    refine take_at (i := 8) 38 (v := .slice a1 q.safe.length c1) rfl (by kernel_rfl) (by kernel_rfl) (by kernel_rfl) rfl (fun _ _ _ h => h) (by rfl) (fun w hSw => ?_) hHeld ?_
    · (try dsimp only at hSw); go_simp
    simp only [Act.put, List.setIfInBounds_toArray, List.set_cons_zero, List.set_cons_succ]
    refine take_at (i := 9) 39 (v := .int .i64 (q.safe.length : Int)) rfl (by kernel_rfl) (by kernel_rfl) (by kernel_rfl) rfl (fun _ _ _ h => h) (by rfl) (fun w hSw => ?_) hHeld ?_
    · (try dsimp only at hSw); go_simp
    simp only [Act.put, List.setIfInBounds_toArray, List.set_cons_zero, List.set_cons_succ]
    refine take_at (i := 10) 40 (v := .int .i64 (y0 % (q.safe.length : Int))) rfl (by kernel_rfl) (by kernel_rfl) (by kernel_rfl) rfl (fun _ _ _ h => h) (by rfl) (fun w hSw => ?_) hHeld ?_
    · (try dsimp only at hSw); go_simp; rw [if_neg NZ.out, REM.out _ g0.1]
    simp only [Act.put, List.setIfInBounds_toArray, List.set_cons_zero, List.set_cons_succ]
    refine take_at (i := 11) 41 (v := .pointer (some ⟨Y, 1, none⟩)) rfl (by kernel_rfl) (by kernel_rfl) (by kernel_rfl) rfl (fun _ _ _ h => h) (by rfl) (fun w hSw => ?_) hHeld ?_
    · (try dsimp only at hSw); go_simp
    simp only [Act.put, List.setIfInBounds_toArray, List.set_cons_zero, List.set_cons_succ]
    refine take_at (i := 12) 42 (v := .int .u8 y1) rfl (by kernel_rfl) (by kernel_rfl) (by kernel_rfl) rfl (fun _ _ _ h => h) (by rfl) (fun w hSw => ?_) hHeld ?_
    · (try dsimp only at hSw); go_simp
    simp only [Act.put, List.setIfInBounds_toArray, List.set_cons_zero, List.set_cons_succ]
    refine take_at (i := 13) 43 (v := .int .i64 y1) rfl (by kernel_rfl) (by kernel_rfl) (by kernel_rfl) rfl (fun _ _ _ h => h) (by rfl) (fun w hSw => ?_) hHeld ?_
    · (try dsimp only at hSw); go_simp; exact wrap_small g1.1 g1.2
    simp only [Act.put, List.setIfInBounds_toArray, List.set_cons_zero, List.set_cons_succ]
    refine take_at (i := 14) 44 (v := .pointer (some ⟨X, 0, none⟩)) rfl (by kernel_rfl) (by kernel_rfl) (by kernel_rfl) rfl (fun _ _ _ h => h) (by rfl) (fun w hSw => ?_) hHeld ?_
    · (try dsimp only at hSw); go_simp
    simp only [Act.put, List.setIfInBounds_toArray, List.set_cons_zero, List.set_cons_succ]
    refine take_at (i := 15) 45 (v := .slice a1 q.safe.length c1) rfl (by kernel_rfl) (by kernel_rfl) (by kernel_rfl) rfl (fun _ _ _ h => h) (by rfl) (fun w hSw => ?_) hHeld ?_
    · (try dsimp only at hSw); go_simp
    simp only [Act.put, List.setIfInBounds_toArray, List.set_cons_zero, List.set_cons_succ]
    refine take_at (i := 16) 46 (v := .int .i64 (q.safe.length : Int)) rfl (by kernel_rfl) (by kernel_rfl) (by kernel_rfl) rfl (fun _ _ _ h => h) (by rfl) (fun w hSw => ?_) hHeld ?_
    · (try dsimp only at hSw); go_simp
    simp only [Act.put, List.setIfInBounds_toArray, List.set_cons_zero, List.set_cons_succ]
    refine take_at (i := 17) 47 (v := .int .i64 (y1 % (q.safe.length : Int))) rfl (by kernel_rfl) (by kernel_rfl) (by kernel_rfl) rfl (fun _ _ _ h => h) (by rfl) (fun w hSw => ?_) hHeld ?_
    · (try dsimp only at hSw); go_simp; rw [if_neg NZ.out, REM.out _ g1.1]
    simp only [Act.put, List.setIfInBounds_toArray, List.set_cons_zero, List.set_cons_succ]
    refine take_at (i := 18) 48 (v := .pointer (some ⟨Y, 2, none⟩)) rfl (by kernel_rfl) (by kernel_rfl) (by kernel_rfl) rfl (fun _ _ _ h => h) (by rfl) (fun w hSw => ?_) hHeld ?_
    · (try dsimp only at hSw); go_simp
    simp only [Act.put, List.setIfInBounds_toArray, List.set_cons_zero, List.set_cons_succ]
    refine take_at (i := 19) 49 (v := .int .u8 y2) rfl (by kernel_rfl) (by kernel_rfl) (by kernel_rfl) rfl (fun _ _ _ h => h) (by rfl) (fun w hSw => ?_) hHeld ?_
    · (try dsimp only at hSw); go_simp
    simp only [Act.put, List.setIfInBounds_toArray, List.set_cons_zero, List.set_cons_succ]
    refine take_at (i := 21) 51 (v := .pointer (some ⟨Y, 3, none⟩)) rfl (by kernel_rfl) (by kernel_rfl) (by kernel_rfl) rfl (fun _ _ _ h => h) (by rfl) (fun w hSw => ?_) hHeld ?_
    · (try dsimp only at hSw); go_simp
    simp only [Act.put, List.setIfInBounds_toArray, List.set_cons_zero, List.set_cons_succ]
    refine take_at (i := 22) 52 (v := .int .u8 y3) rfl (by kernel_rfl) (by kernel_rfl) (by kernel_rfl) rfl (fun _ _ _ h => h) (by rfl) (fun w hSw => ?_) hHeld ?_
    · (try dsimp only at hSw); go_simp
    simp only [Act.put, List.setIfInBounds_toArray, List.set_cons_zero, List.set_cons_succ]
    clear hHeld
    refine wpAnyH_ready (rs := [0]) (by kernel_rfl) (by simp) ?_
    have Wb := Wa.alloc Wa.size (.cells #[] 53)
    refine node_build0 23 53 4 30 Tryd.underlying23 (fun w => by kernel_rfl) rfl rfl rfl rfl (KD.out _ Wb) (fun _ => ?_) AllReadyH.nil
    have hne := heap_alloc_new wd.drew (Obj.cells #[] 53)
    simp only [Act.put, List.setIfInBounds_toArray, List.set_cons_zero, List.set_cons_succ]
    refine wpAnyH_ready (rs := [3]) (by kernel_rfl) (by simp) ?_
    refine node_app 33 wd.heap.size (.tmp 30) (.tmp 32) 23 53 _ 4 32 info53 rfl (by decide) Tryd.underlying23 _ q.moves.length (mcells q.moves) _ rfl rfl rfl rfl rfl rfl (RDM.out _ (HB5.out.trans ((HBd.out.trans (Wb.mono HBd.out.size)).mono HB5.out.size))) hne (Nat.le_refl _) (by have := HML.out; omega) ?_ AllReadyH.nil
    intro sa sn sc w6 ho6 hg6
    have Wc := Wb.grown hg6.out Wb.size (fun k hk => by cases hk; exact Nat.le_refl _)
    refine ⟨KD.out _ Wc, ?_⟩
    clear hne hg6
    simp only [Act.put, List.setIfInBounds_toArray, List.set_cons_zero, List.set_cons_succ]
    refine wpAnyH_ready (rs := [20]) (by kernel_rfl) (by simp) ?_
    refine node_call26 50 49 y2 g2.1 g2.2 rfl rfl rfl rfl rfl (KD.out _ Wc) ?_ AllReadyH.nil
    simp only [Act.put, List.setIfInBounds_toArray, List.set_cons_zero, List.set_cons_succ]
    refine wpAnyH_ready (rs := [23]) (by kernel_rfl) (by simp) ?_
    refine node_call26 53 52 y3 g3.1 g3.2 rfl rfl rfl rfl rfl (KD.out _ Wc) ?_ AllReadyH.nil
    simp only [Act.put, List.setIfInBounds_toArray, List.set_cons_zero, List.set_cons_succ]
    have hHeld := KD.out _ Wc
    refine take_at (i := 24) 54 (v := .agg #[.int .i64 (y0 % (q.safe.length : Int)), .int .i64 (y1 % (q.safe.length : Int)), .int .i64 (smallI y2), .int .i64 (smallI y3)]) rfl (by kernel_rfl) (by kernel_rfl) (by kernel_rfl) rfl (fun _ _ _ h => h) (by rfl) (fun w hSw => ?_) hHeld ?_
    · (try dsimp only at hSw); go_simp
    simp only [Act.put, List.setIfInBounds_toArray, List.set_cons_zero, List.set_cons_succ]
    refine wpAnyH_ready (rs := [25]) (by kernel_rfl) (by simp) ?_
    have Wd := Wc.alloc Wc.size (.cells #[.int .i64 (y0 % (q.safe.length : Int)), .int .i64 (y1 % (q.safe.length : Int)), .int .i64 (smallI y2), .int .i64 (smallI y3)] 53)
    refine node_buildMv 55 54 _ _ _ _ rfl rfl rfl rfl rfl (KD.out _ Wd) ?_ AllReadyH.nil
    have hnew := heap_alloc_new w6 (.cells #[.int .i64 (y0 % (q.safe.length : Int)), .int .i64 (y1 % (q.safe.length : Int)), .int .i64 (smallI y2), .int .i64 (smallI y3)] 53)
    have ho7 := row_below ho6.out ((Below.refl _ _).alloc (Nat.le_refl _) (.cells #[.int .i64 (y0 % (q.safe.length : Int)), .int .i64 (y1 % (q.safe.length : Int)), .int .i64 (smallI y2), .int .i64 (smallI y3)] 53))
    clear hHeld ho6
    simp only [Act.put, List.setIfInBounds_toArray, List.set_cons_zero, List.set_cons_succ]
    refine wpAnyH_ready (rs := [26]) (by kernel_rfl) (by simp) ?_
    refine node_app1 56 wd.heap.size (.tmp 33) (.tmp 55) 23 53 _ 4 32 info53 rfl (by decide) Tryd.underlying23 _ _ _ _ [.int .i64 (y0 % (q.safe.length : Int)), .int .i64 (y1 % (q.safe.length : Int)), .int .i64 (smallI y2), .int .i64 (smallI y3)] rfl (by intro u hu; simp at hu; rcases hu with rfl | rfl | rfl | rfl <;> rfl) rfl rfl rfl rfl rfl rfl hnew ho7 Wd.size (by have := HML.out; omega) (by decide) ?_ AllReadyH.nil
    intro sb n sd w8 ho8 hg8
    have We := Wd.grown hg8 Wd.size (fun k hk => (ho7.lt k hk).1)
    refine ⟨KD.out _ We, ?_⟩
    have hHeld := KD.out _ We
    clear hnew ho7 hg8 Wa Wb Wc Wd
    simp only [Act.put, List.setIfInBounds_toArray, List.set_cons_zero, List.set_cons_succ]
    refine take_at (i := 27) 57 (v := .pointer (some ⟨XA, 1, none⟩)) rfl (by kernel_rfl) (by kernel_rfl) (by kernel_rfl) rfl (fun _ _ _ h => h) (by rfl) (fun w hSw => ?_) hHeld ?_
    · (try dsimp only at hSw); go_simp
    simp only [Act.put, List.setIfInBounds_toArray, List.set_cons_zero, List.set_cons_succ]
    clear hHeld
    refine wpAnyH_ready (rs := [28]) (by kernel_rfl) (by simp) ?_
    have hxa := (We.block XA (heap_lt HXA.out)).trans HXA.out
    refine node_store23 57 56 XA _ _ _ _ _ _ rfl rfl rfl rfl rfl rfl hxa (KEEP.out _ ((HBd.out.trans (We.mono HBd.out.size)).setCell (p := ⟨XA, 1, none⟩) HLA.out _)) ?_ AllReadyH.nil
    refine wpAnyH_done (by kernel_rfl) ?_ _
    have HXA2 : Hid ((w8.setCell ⟨XA, 1, none⟩ (.slice sb n sd)).heap[XA]? = some (.cells #[.slice a1 q.safe.length c1, .slice sb n sd, .slice a3 q.jolts.length c3] 26)) := set1 hxa
    have HXB2 : Hid ((w8.setCell ⟨XA, 1, none⟩ (.slice sb n sd)).heap[XB]? = some (.cells #[.slice a1 q.safe.length c1, .slice a2 q.moves.length c2, .slice a3 q.jolts.length c3] 26)) := (Below.heap_setCell _ _ _ _ (Ne.symm HNE.out)).trans ((We.block XB (heap_lt HXB.out)).trans HXB.out)
    have HRM : Hid ((w8.setCell ⟨XA, 1, none⟩ (.slice sb n sd)).ownsRow wd.heap.size 53 4 (.slice sb n sd) (q.moves.length + 1) (mcells q.moves ++ [.int .i64 (y0 % (q.safe.length : Int)), .int .i64 (y1 % (q.safe.length : Int)), .int .i64 (smallI y2), .int .i64 (smallI y3)])) := row_other ho8 (grown_set _ ⟨XA, 1, none⟩ _) (by intro k hk; cases hk; exact ⟨_, hxa⟩) (by decide : (53 : Nat) ≠ 26)
    have HBe : Hid (Below w5.heap.size w5 (w8.setCell ⟨XA, 1, none⟩ (.slice sb n sd))) := (HBd.out.trans (We.mono HBd.out.size)).setCell (p := ⟨XA, 1, none⟩) HLA.out _
    clear hxa We ho8 KEEP KD
    generalize w8.setCell ⟨XA, 1, none⟩ (.slice sb n sd) = we at *
    go_upto_region 5 with fail
    have KEEP : Hid (∀ w', Below w5.heap.size w5 w' → w'.cell? ⟨X, 2, none⟩ = some (.slice a3 q.jolts.length c3) ∧ w'.cell? ⟨Z, 0, none⟩ = some (.int .u8 z0) ∧ w'.cell? ⟨Z, 1, none⟩ = some (.int .u8 z1) ∧ Hid (Below w5.heap.size w5 w')) := fun w' hb => by obtain ⟨_, _, e2, _, _, _, _, f0, f1⟩ := KP.out w' (HB5.out.trans (hb.mono HB5.out.size)); exact ⟨e2, f0, f1, hb⟩
    have KD : Hid (∀ w', Below we.heap.size we w' → w'.cell? ⟨X, 2, none⟩ = some (.slice a3 q.jolts.length c3) ∧ w'.cell? ⟨Z, 0, none⟩ = some (.int .u8 z0) ∧ w'.cell? ⟨Z, 1, none⟩ = some (.int .u8 z1) ∧ Hid (Below w5.heap.size w5 w')) := fun w' hb => KEEP.out _ (HBe.out.trans (hb.mono HBe.out.size))
    have Wa := (Below.refl we.heap.size we).drew
    refine wp_region_held_drew (S := fun w' => w'.cell? ⟨X, 2, none⟩ = some (.slice a3 q.jolts.length c3) ∧ w'.cell? ⟨Z, 0, none⟩ = some (.int .u8 z0) ∧ w'.cell? ⟨Z, 1, none⟩ = some (.int .u8 z1) ∧ Hid (Below w5.heap.size w5 w')) (by kernel_rfl) (KD.out _ Wa) (fun hHeld => ?_)
    refine take_at (i := 1) 59 (v := .pointer (some ⟨X, 2, none⟩)) rfl (by kernel_rfl) (by kernel_rfl) (by kernel_rfl) rfl (fun _ _ _ h => h) (by rfl) (fun w hSw => ?_) hHeld ?_
    · (try dsimp only at hSw); go_simp
    simp only [Act.put, List.setIfInBounds_toArray, List.set_cons_zero, List.set_cons_succ]
    refine take_at (i := 2) 60 (v := .slice a3 q.jolts.length c3) rfl (by kernel_rfl) (by kernel_rfl) (by kernel_rfl) rfl (fun _ _ _ h => h) (by rfl) (fun w hSw => ?_) hHeld ?_
    · (try dsimp only at hSw); go_simp
    simp only [Act.put, List.setIfInBounds_toArray, List.set_cons_zero, List.set_cons_succ]
    refine take_at (i := 3) 61 (v := .pointer (some ⟨X, 2, none⟩)) rfl (by kernel_rfl) (by kernel_rfl) (by kernel_rfl) rfl (fun _ _ _ h => h) (by rfl) (fun w hSw => ?_) hHeld ?_
    · (try dsimp only at hSw); go_simp
    simp only [Act.put, List.setIfInBounds_toArray, List.set_cons_zero, List.set_cons_succ]
    refine take_at (i := 4) 62 (v := .slice a3 q.jolts.length c3) rfl (by kernel_rfl) (by kernel_rfl) (by kernel_rfl) rfl (fun _ _ _ h => h) (by rfl) (fun w hSw => ?_) hHeld ?_
    · (try dsimp only at hSw); go_simp
    simp only [Act.put, List.setIfInBounds_toArray, List.set_cons_zero, List.set_cons_succ]
    refine take_at (i := 5) 63 (v := .int .i64 q.jolts.length) rfl (by kernel_rfl) (by kernel_rfl) (by kernel_rfl) rfl (fun _ _ _ h => h) (by rfl) (fun w hSw => ?_) hHeld ?_
    · (try dsimp only at hSw); go_simp
    simp only [Act.put, List.setIfInBounds_toArray, List.set_cons_zero, List.set_cons_succ]
    refine take_at (i := 6) 64 (v := .int .i64 k3) rfl (by kernel_rfl) (by kernel_rfl) (by kernel_rfl) rfl (fun _ _ _ h => h) (by rfl) (fun w hSw => ?_) hHeld ?_
    · (try dsimp only at hSw); go_simp; exact KMIN.out
    simp only [Act.put, List.setIfInBounds_toArray, List.set_cons_zero, List.set_cons_succ]
    refine take_at (i := 7) 65 (v := .slice a3 k3 c3) rfl (by kernel_rfl) (by kernel_rfl) (by kernel_rfl) rfl (fun _ _ _ h => h) (by rfl) (fun w hSw => ?_) hHeld ?_
    · (try dsimp only at hSw); go_simp
    simp only [Act.put, List.setIfInBounds_toArray, List.set_cons_zero, List.set_cons_succ]
    refine take_at (i := 9) 67 (v := .pointer (some ⟨Z, 0, none⟩)) rfl (by kernel_rfl) (by kernel_rfl) (by kernel_rfl) rfl (fun _ _ _ h => h) (by rfl) (fun w hSw => ?_) hHeld ?_
    · (try dsimp only at hSw); go_simp
    simp only [Act.put, List.setIfInBounds_toArray, List.set_cons_zero, List.set_cons_succ]
    refine take_at (i := 10) 68 (v := .int .u8 z0) rfl (by kernel_rfl) (by kernel_rfl) (by kernel_rfl) rfl (fun _ _ _ h => h) (by rfl) (fun w hSw => ?_) hHeld ?_
    · (try dsimp only at hSw); go_simp
    simp only [Act.put, List.setIfInBounds_toArray, List.set_cons_zero, List.set_cons_succ]
    refine take_at (i := 12) 70 (v := .pointer (some ⟨Z, 1, none⟩)) rfl (by kernel_rfl) (by kernel_rfl) (by kernel_rfl) rfl (fun _ _ _ h => h) (by rfl) (fun w hSw => ?_) hHeld ?_
    · (try dsimp only at hSw); go_simp
    simp only [Act.put, List.setIfInBounds_toArray, List.set_cons_zero, List.set_cons_succ]
    refine take_at (i := 13) 71 (v := .int .u8 z1) rfl (by kernel_rfl) (by kernel_rfl) (by kernel_rfl) rfl (fun _ _ _ h => h) (by rfl) (fun w hSw => ?_) hHeld ?_
    · (try dsimp only at hSw); go_simp
    simp only [Act.put, List.setIfInBounds_toArray, List.set_cons_zero, List.set_cons_succ]
    clear hHeld
    refine wpAnyH_ready (rs := [0]) (by kernel_rfl) (by simp) ?_
    have Wb := Wa.alloc Wa.size (.cells #[] 55)
    refine node_build0 24 55 2 58 Tryd.underlying24 (fun w => by kernel_rfl) rfl rfl rfl rfl (KD.out _ Wb) (fun _ => ?_) AllReadyH.nil
    have hne := heap_alloc_new we.drew (Obj.cells #[] 55)
    simp only [Act.put, List.setIfInBounds_toArray, List.set_cons_zero, List.set_cons_succ]
    refine wpAnyH_ready (rs := [8]) (by kernel_rfl) (by simp) ?_
    refine node_app 66 we.heap.size (.tmp 58) (.tmp 65) 24 55 _ 2 16 info55 rfl (by decide) Tryd.underlying24 _ k3 (jcells (q.jolts.take k3)) _ rfl rfl rfl rfl rfl rfl (RDJ.out _ (HB5.out.trans ((HBe.out.trans (Wb.mono HBe.out.size)).mono HB5.out.size))) hne (Nat.le_refl _) (by have := HK3L.out; omega) ?_ AllReadyH.nil
    intro sa sn sc w6 ho6 hg6
    have Wc := Wb.grown hg6.out Wb.size (fun k hk => by cases hk; exact Nat.le_refl _)
    refine ⟨KD.out _ Wc, ?_⟩
    clear hne hg6
    simp only [Act.put, List.setIfInBounds_toArray, List.set_cons_zero, List.set_cons_succ]
    refine wpAnyH_ready (rs := [11]) (by kernel_rfl) (by simp) ?_
    refine node_call26 69 68 z0 g4.1 g4.2 rfl rfl rfl rfl rfl (KD.out _ Wc) ?_ AllReadyH.nil
    simp only [Act.put, List.setIfInBounds_toArray, List.set_cons_zero, List.set_cons_succ]
    refine wpAnyH_ready (rs := [14]) (by kernel_rfl) (by simp) ?_
    refine node_call26 72 71 z1 g5.1 g5.2 rfl rfl rfl rfl rfl (KD.out _ Wc) ?_ AllReadyH.nil
    simp only [Act.put, List.setIfInBounds_toArray, List.set_cons_zero, List.set_cons_succ]
    have hHeld := KD.out _ Wc
    refine take_at (i := 15) 73 (v := .agg #[.int .i64 (smallI z0), .int .i64 (smallI z1)]) rfl (by kernel_rfl) (by kernel_rfl) (by kernel_rfl) rfl (fun _ _ _ h => h) (by rfl) (fun w hSw => ?_) hHeld ?_
    · (try dsimp only at hSw); go_simp
    simp only [Act.put, List.setIfInBounds_toArray, List.set_cons_zero, List.set_cons_succ]
    refine wpAnyH_ready (rs := [16]) (by kernel_rfl) (by simp) ?_
    have Wd := Wc.alloc Wc.size (.cells #[.int .i64 (smallI z0), .int .i64 (smallI z1)] 55)
    refine node_buildJl 74 73 _ _ rfl rfl rfl rfl rfl (KD.out _ Wd) ?_ AllReadyH.nil
    have hnew := heap_alloc_new w6 (.cells #[.int .i64 (smallI z0), .int .i64 (smallI z1)] 55)
    have ho7 := row_below ho6.out ((Below.refl _ _).alloc (Nat.le_refl _) (.cells #[.int .i64 (smallI z0), .int .i64 (smallI z1)] 55))
    clear hHeld ho6
    simp only [Act.put, List.setIfInBounds_toArray, List.set_cons_zero, List.set_cons_succ]
    refine wpAnyH_ready (rs := [17]) (by kernel_rfl) (by simp) ?_
    refine node_app1 75 we.heap.size (.tmp 66) (.tmp 74) 24 55 _ 2 16 info55 rfl (by decide) Tryd.underlying24 _ _ _ _ [.int .i64 (smallI z0), .int .i64 (smallI z1)] rfl (by intro u hu; simp at hu; rcases hu with rfl | rfl <;> rfl) rfl rfl rfl rfl rfl rfl hnew ho7 Wd.size (by have := HK3L.out; omega) (by decide) ?_ AllReadyH.nil
    intro ja' jn' jc' w8 ho8 hg8
    have We := Wd.grown hg8 Wd.size (fun k hk => (ho7.lt k hk).1)
    refine ⟨KD.out _ We, ?_⟩
    have hHeld := KD.out _ We
    clear hnew ho7 hg8 Wa Wb Wc Wd
    simp only [Act.put, List.setIfInBounds_toArray, List.set_cons_zero, List.set_cons_succ]
    refine take_at (i := 18) 76 (v := .pointer (some ⟨XB, 2, none⟩)) rfl (by kernel_rfl) (by kernel_rfl) (by kernel_rfl) rfl (fun _ _ _ h => h) (by rfl) (fun w hSw => ?_) hHeld ?_
    · (try dsimp only at hSw); go_simp
    simp only [Act.put, List.setIfInBounds_toArray, List.set_cons_zero, List.set_cons_succ]
    clear hHeld
    refine wpAnyH_ready (rs := [19]) (by kernel_rfl) (by simp) ?_
    have hxb := (We.block XB (heap_lt HXB2.out)).trans HXB2.out
    refine node_store24 76 75 XB _ _ _ _ _ _ rfl rfl rfl rfl rfl rfl hxb (KEEP.out _ ((HBe.out.trans (We.mono HBe.out.size)).setCell (p := ⟨XB, 2, none⟩) HLB.out _)) ?_ AllReadyH.nil
    refine wpAnyH_done (by kernel_rfl) ?_ _
    have HXB3 : Hid ((w8.setCell ⟨XB, 2, none⟩ (.slice ja' jn' jc')).heap[XB]? = some (.cells #[.slice a1 q.safe.length c1, .slice a2 q.moves.length c2, .slice ja' jn' jc'] 26)) := set2 hxb
    have HXA3 : Hid ((w8.setCell ⟨XB, 2, none⟩ (.slice ja' jn' jc')).heap[XA]? = some (.cells #[.slice a1 q.safe.length c1, .slice sb n sd, .slice a3 q.jolts.length c3] 26)) := (Below.heap_setCell _ _ _ _ HNE.out).trans ((We.block XA (heap_lt HXA2.out)).trans HXA2.out)
    have HRJ : Hid ((w8.setCell ⟨XB, 2, none⟩ (.slice ja' jn' jc')).ownsRow we.heap.size 55 2 (.slice ja' jn' jc') (k3 + 1) (jcells (q.jolts.take k3) ++ [.int .i64 (smallI z0), .int .i64 (smallI z1)])) := row_other ho8 (grown_set _ ⟨XB, 2, none⟩ _) (by intro k hk; cases hk; exact ⟨_, hxb⟩) (by decide : (55 : Nat) ≠ 26)
    have HRM3 := hid (row_other (row_below HRM.out We) (grown_set _ ⟨XB, 2, none⟩ (.slice ja' jn' jc')) (by intro k hk; cases hk; exact ⟨_, hxb⟩) (by decide : (53 : Nat) ≠ 26))
    have HBf : Hid (Below w5.heap.size w5 (w8.setCell ⟨XB, 2, none⟩ (.slice ja' jn' jc'))) := (HBe.out.trans (We.mono HBe.out.size)).setCell (p := ⟨XB, 2, none⟩) HLB.out _
    clear hxb We ho8 KEEP KD HRM HXA2 HXB2
    generalize (w8.setCell ⟨XB, 2, none⟩ (.slice ja' jn' jc')) = wf at *
    obtain ⟨hn1, _, _, _⟩ := row_cap HRM3.out
    obtain rfl := hn1
    obtain ⟨hn2, hjc', _, hj0'⟩ := row_cap HRJ.out
    obtain rfl := hn2
    have KQ : Hid (∀ w', Below wf.heap.size wf w' → w'.cell? ⟨X, 0, none⟩ = some (.slice a1 q.safe.length c1) ∧ w'.cell? ⟨X, 1, none⟩ = some (.slice a2 q.moves.length c2) ∧ w'.cell? ⟨X, 2, none⟩ = some (.slice a3 q.jolts.length c3) ∧ w'.cell? ⟨XA, 0, none⟩ = some (.slice a1 q.safe.length c1) ∧ w'.cell? ⟨XA, 1, none⟩ = some (.slice sb (q.moves.length + 1) sd) ∧ w'.cell? ⟨XA, 2, none⟩ = some (.slice a3 q.jolts.length c3) ∧ w'.cell? ⟨XB, 0, none⟩ = some (.slice a1 q.safe.length c1) ∧ w'.cell? ⟨XB, 1, none⟩ = some (.slice a2 q.moves.length c2) ∧ w'.cell? ⟨XB, 2, none⟩ = some (.slice ja' (k3 + 1) jc')) := by
      intro w' hb
      obtain ⟨e0, e1, e2, _⟩ := KP.out w' (HB5.out.trans ((HBf.out.trans (hb.mono HBf.out.size)).mono HB5.out.size))
      obtain ⟨f0, f1, f2⟩ := cells3_of ((hb.block XA (heap_lt HXA3.out)).trans HXA3.out)
      obtain ⟨d0, d1, d2⟩ := cells3_of ((hb.block XB (heap_lt HXB3.out)).trans HXB3.out)
      exact ⟨e0, e1, e2, f0, f1, f2, d0, d1, d2⟩
    obtain ⟨u0, u1, u2, u3, u4, u5, u6, u7, u8⟩ := KQ.out wf (Below.refl _ _)
    go_upto_region 7 with fail
    obtain ⟨XG, hXG⟩ : ∃ XG, XG = wf.heap.size := ⟨_, rfl⟩
    obtain ⟨wg, hwg⟩ : ∃ wg, wg = wf.alloc (.cells #[.slice a1 q.safe.length c1, .slice a2 q.moves.length c2, .slice a3 q.jolts.length c3] 26) := ⟨_, rfl⟩
    rw [← hXG, ← hwg]
    have hbg : Below wf.heap.size wf wg := by rw [hwg]; exact (Below.refl _ _).alloc (Nat.le_refl _) _
    have hxg : wg.heap[XG]? = some (.cells #[.slice a1 q.safe.length c1, .slice a2 q.moves.length c2, .slice a3 q.jolts.length c3] 26) := by rw [hwg, hXG]; exact heap_alloc_new _ _
    clear u0 u1 u2 u3 u4 u5 u6 u7 u8
    have HBG : Hid (Below w5.heap.size w5 wg) := HBf.out.trans (hbg.mono HBf.out.size)
    have HXG : Hid (w5.heap.size ≤ XG) := by rw [hXG]; exact HBf.out.size
    have HXGF : Hid (wf.heap.size ≤ XG) := by rw [hXG]; exact Nat.le_refl _
    have hlt : XA < XG ∧ XB < XG ∧ X < XG := by rw [hXG]; exact ⟨heap_lt HXA3.out, heap_lt HXB3.out, Nat.lt_of_lt_of_le HXW.out (Nat.le_trans HB5.out.size HBf.out.size)⟩
    obtain ⟨u0, u1, u2, u3, u4, u5, u6, u7, u8⟩ := KQ.out wg hbg
    clear hwg hXG
    obtain ⟨v0, v1, v2⟩ := cells3_of hxg
    obtain ⟨t0, t1, t2⟩ := free3_of hxg
    have hk3c : k3 ≤ jc' := by omega
    have hk3i : (k3 : Int) + 1 - 1 = k3 := by omega
    have hk33 : k3 ≤ 3 := HK3L.out.2.1
    have hk31 : 1 ≤ k3 := HK3L.out.1
    go_upto_region 8 with fail
    clear hk3i hk3c
    have hxh : (wg.setCell ⟨XG, 2, none⟩ (.slice ja' k3 jc')).heap[XG]? = some (.cells #[.slice a1 q.safe.length c1, .slice a2 q.moves.length c2, .slice ja' k3 jc'] 26) := set2 hxg
    have hbh : Below wf.heap.size wf (wg.setCell ⟨XG, 2, none⟩ (.slice ja' k3 jc')) := hbg.setCell (p := ⟨XG, 2, none⟩) HXGF.out _
    obtain ⟨wh, hwh⟩ : ∃ wh, wh = (wg.setCell ⟨XG, 2, none⟩ (.slice ja' k3 jc')) := ⟨_, rfl⟩
    rw [← hwh] at hxh hbh ⊢
    have KH : Hid (∀ w', Below wh.heap.size wh w' → w'.cell? ⟨X, 0, none⟩ = some (.slice a1 q.safe.length c1) ∧ w'.cell? ⟨X, 1, none⟩ = some (.slice a2 q.moves.length c2) ∧ w'.cell? ⟨X, 2, none⟩ = some (.slice a3 q.jolts.length c3) ∧ w'.cell? ⟨XA, 0, none⟩ = some (.slice a1 q.safe.length c1) ∧ w'.cell? ⟨XA, 1, none⟩ = some (.slice sb (q.moves.length + 1) sd) ∧ w'.cell? ⟨XA, 2, none⟩ = some (.slice a3 q.jolts.length c3) ∧ w'.cell? ⟨XB, 0, none⟩ = some (.slice a1 q.safe.length c1) ∧ w'.cell? ⟨XB, 1, none⟩ = some (.slice a2 q.moves.length c2) ∧ w'.cell? ⟨XB, 2, none⟩ = some (.slice ja' (k3 + 1) jc') ∧ w'.cell? ⟨XG, 0, none⟩ = some (.slice a1 q.safe.length c1) ∧ w'.cell? ⟨XG, 1, none⟩ = some (.slice a2 q.moves.length c2) ∧ w'.cell? ⟨XG, 2, none⟩ = some (.slice ja' k3 jc')) := by
      intro w' hb
      obtain ⟨e0, e1, e2, f0, f1, f2, d0, d1, d2⟩ := KQ.out w' (hbh.trans (hb.mono hbh.size))
      obtain ⟨b0, b1, b2⟩ := cells3_of ((hb.block XG (heap_lt hxh)).trans hxh)
      exact ⟨e0, e1, e2, f0, f1, f2, d0, d1, d2, b0, b1, b2⟩
    have HFH : Hid (∀ w', Below wh.heap.size wh w' → Below wf.heap.size wf w') := fun w' hb => hbh.trans (hb.mono hbh.size)
    have H5H : Hid (∀ w', Below wh.heap.size wh w' → Below w5.heap.size w5 w') := fun w' hb => HBf.out.trans ((HFH.out w' hb).mono HBf.out.size)
    have HWH : Hid (∀ w', Below wh.heap.size wh w' → Below W.heap.size W w') := fun w' hb => HB5.out.trans ((H5H.out w' hb).mono HB5.out.size)
    have H0H : Hid (∀ w', Below wh.heap.size wh w' → Below w.heap.size w w') := fun w' hb => HBW.out.trans ((HWH.out w' hb).mono HBW.out.size)
    have HQ0 : Hid (∀ w', Below wh.heap.size wh w' → IsOv w' (.slice a1 q.safe.length c1) (.slice a2 q.moves.length c2) (.slice a3 q.jolts.length c3) q) := fun w' hb => HO.out w' (HWH.out w' hb)
    obtain ⟨mA, hmA⟩ : ∃ mA, mA = ((y0 % (q.safe.length : Int), y1 % (q.safe.length : Int), smallI y2, smallI y3) : Mv) := ⟨_, rfl⟩
    obtain ⟨jB, hjB⟩ : ∃ jB, jB = ((smallI z0, smallI z1) : Int × Int) := ⟨_, rfl⟩
    have HMA : Hid (∀ w', Below wh.heap.size wh w' → IsMv w' (.slice sb (q.moves.length + 1) sd) (q.moves ++ [mA])) := fun w' hb => by
      rw [hmA]
      exact isMv_snoc (row_below HRM3.out (HFH.out w' hb)) (by have := HML.out; omega)
    have HJB : Hid (∀ w', Below wh.heap.size wh w' → IsJl w' (.slice ja' (k3 + 1) jc') (q.jolts.take k3 ++ [jB])) := fun w' hb => by
      rw [hjB]
      have hl : (q.jolts.take k3).length = k3 := by rw [List.length_take]; have := HK3L.out; omega
      exact isJl_snoc (row_below HRJ.out (HFH.out w' hb)) hl.symm (by have := HK3L.out; omega)
    obtain ⟨oA, hoA⟩ : ∃ oA : Ov, oA = ⟨q.safe, q.moves ++ [mA], q.jolts⟩ := ⟨_, rfl⟩
    obtain ⟨oB, hoB⟩ : ∃ oB : Ov, oB = ⟨q.safe, q.moves, q.jolts.take k3 ++ [jB]⟩ := ⟨_, rfl⟩
    obtain ⟨oC, hoC⟩ : ∃ oC : Ov, oC = ⟨q.safe, q.moves, q.jolts.take k3⟩ := ⟨_, rfl⟩
    have OKA : Hid oA.Ok := by rw [hoA, hmA]; exact ok_moves HOK.out HML.out (mvOk_small HOK.out.p.1 _ _ _ _)
    have hjt : ∀ j ∈ q.jolts.take k3, jlOk j = true := fun j hj => HOK.out.jl j (List.mem_of_mem_take hj)
    have hjl : (q.jolts.take k3).length = k3 := by rw [List.length_take]; have := HK3L.out; omega
    have OKB : Hid oB.Ok := by
      rw [hoB, hjB]
      refine ok_jolts HOK.out ?_ ?_
      · rw [List.length_append, hjl]; have := HK3L.out; simp; omega
      · intro j hj
        rcases List.mem_append.1 hj with h1 | h1
        · exact hjt j h1
        · rw [List.mem_singleton] at h1; subst h1; exact jlOk_small _ _
    have OKC : Hid oC.Ok := by
      rw [hoC]
      exact ok_jolts HOK.out (by rw [hjl]; have := HK3L.out; omega) hjt
    have HQA : Hid (∀ w', Below wh.heap.size wh w' → IsOv w' (.slice a1 q.safe.length c1) (.slice sb (q.moves.length + 1) sd) (.slice a3 q.jolts.length c3) oA) := fun w' hb => by rw [hoA]; exact ⟨(HQ0.out w' hb).safe, HMA.out w' hb, (HQ0.out w' hb).jolts⟩
    have HQB : Hid (∀ w', Below wh.heap.size wh w' → IsOv w' (.slice a1 q.safe.length c1) (.slice a2 q.moves.length c2) (.slice ja' (k3 + 1) jc') oB) := fun w' hb => by rw [hoB]; exact ⟨(HQ0.out w' hb).safe, (HQ0.out w' hb).moves, HJB.out w' hb⟩
    have HQC : Hid (∀ w', Below wh.heap.size wh w' → IsOv w' (.slice a1 q.safe.length c1) (.slice a2 q.moves.length c2) (.slice ja' k3 jc') oC) := fun w' hb => by
      rw [hoC]
      refine ⟨(HQ0.out w' hb).safe, (HQ0.out w' hb).moves, ?_⟩
      have h := isJl_take (HJB.out w' hb) k3 (by rw [List.length_append, hjl]; simp)
      rwa [List.take_append_of_le_length (by rw [hjl]; exact Nat.le_refl _), List.take_of_length_le (by rw [hjl]; exact Nat.le_refl _)] at h
    have SA : Hid (oA.safe = q.safe) := by rw [hoA]; exact rfl
    have SB : Hid (oB.safe = q.safe) := by rw [hoB]; exact rfl
    have SC : Hid (oC.safe = q.safe) := by rw [hoC]; exact rfl
    have RA : Hid (∀ c, q.KK c = true → oA.KK c = true) := KK_mono (fun c hc => by rw [K0_safe SA.out]; exact hc) (fun m hm => by rw [hoA]; exact List.mem_append_left _ hm) (fun j hj => by rw [hoA] at hj; exact hj)
    have RB : Hid (∀ c, oB.KK c = true → oC.KK c = true) := KK_mono (fun c hc => by rw [K0_safe (SC.out.trans SB.out.symm)]; exact hc) (fun m hm => by rw [hoB] at hm; rw [hoC]; exact hm) (fun j hj => by rw [hoC] at hj; rw [hoB]; exact List.mem_append_left _ hj)
    have HG5H : Hid (∀ w', Below wh.heap.size wh w' → IsGrid w' (.slice k1 q.P k2) (q.gridOf q.KK)) := fun w' hb => isGrid_below HG5.out (H5H.out w' hb)
    have HK30 : ¬ (k3 : Int) = 0 := by have := HK3L.out; omega
    clear hwh hxh hbh hmA hjB hoA hoB hoC hjt hjl u0 u1 u2 u3 u4 u5 u6 u7 u8 v0 v1 v2 t0 t1 t2 hbg hxg hlt hk33 hk31 hjc' hj0'
    have HBH : Hid (Below wh.heap.size wh wh) := Below.refl _ _
    obtain ⟨y0, y1, y2, x0, x1, x2, t0, t1, t2, v0, v1, v2⟩ := KH.out wh HBH.out
    go_upto_region 9 with (first | (go_at_call 25; refine (kernel_set _ _ _ oA (HQA.out _ (by repeat (first | exact Below.refl _ _ | (apply Hid.out; assumption) | refine Below.drew ?_ | refine below_drewN_r ?_ _))) OKA.out).mono ?_; rintro e w6 ⟨g6, n6, d6, rfl, hg6, hb6⟩; have HG6 := hid hg6; have HS6 : Hid (Below wh.heap.size wh w6) := hid (below_step (by repeat (first | exact Below.refl _ _ | (apply Hid.out; assumption) | refine Below.drew ?_ | refine below_drewN_r ?_ _)) hb6); have HB6 : Hid (Below wh.heap.size wh w6) := hid (HS6.out); clear hg6 hb6) | fail)
    clear y0 y1 y2 x0 x1 x2 t0 t1 t2 v0 v1 v2
    obtain ⟨y0, y1, y2, x0, x1, x2, t0, t1, t2, v0, v1, v2⟩ := KH.out w6 HB6.out
    go_upto_region 10 with (first | (go_at_call 25; refine (kernel_set _ _ _ oB (HQB.out _ (by repeat (first | exact Below.refl _ _ | (apply Hid.out; assumption) | refine Below.drew ?_ | refine below_drewN_r ?_ _))) OKB.out).mono ?_; rintro e w7 ⟨g7, n7, d7, rfl, hg7, hb7⟩; have HG7 := hid hg7; have HS7 : Hid (Below w6.heap.size w6 w7) := hid (below_step (by repeat (first | exact Below.refl _ _ | (apply Hid.out; assumption) | refine Below.drew ?_ | refine below_drewN_r ?_ _)) hb7); have HB7 : Hid (Below wh.heap.size wh w7) := hid (HB6.out.trans (HS7.out.mono HB6.out.size)); clear hg7 hb7) | fail)
    clear y0 y1 y2 x0 x1 x2 t0 t1 t2 v0 v1 v2
    obtain ⟨y0, y1, y2, x0, x1, x2, t0, t1, t2, v0, v1, v2⟩ := KH.out w7 HB7.out
    go_upto_region 12 with fail
    go_upto_region 13 with (first | (go_at_call 25; refine (kernel_set _ _ _ oC (HQC.out _ (by repeat (first | exact Below.refl _ _ | (apply Hid.out; assumption) | refine Below.drew ?_ | refine below_drewN_r ?_ _))) OKC.out).mono ?_; rintro e w8 ⟨g8, n8, d8, rfl, hg8, hb8⟩; have HG8 := hid hg8; have HS8 : Hid (Below w7.heap.size w7 w8) := hid (below_step (by repeat (first | exact Below.refl _ _ | (apply Hid.out; assumption) | refine Below.drew ?_ | refine below_drewN_r ?_ _)) hb8); have HB8 : Hid (Below wh.heap.size wh w8) := hid (HB7.out.trans (HS8.out.mono HB7.out.size)); clear hg8 hb8) | fail)
    clear y0 y1 y2 x0 x1 x2 t0 t1 t2 v0 v1 v2
    have HBM : Hid (∀ w', Below w8.heap.size w8 w' → Below wh.heap.size wh w') := fun w' hb => HB8.out.trans (hb.mono HB8.out.size)
    have HM : Hid (Below w8.heap.size w8 w8) := Below.refl _ _
    have G0 : Hid (∀ w', Below w8.heap.size w8 w' → IsGrid w' (.slice k1 q.P k2) (q.gridOf q.KK)) := fun w' hb => HG5H.out w' (HBM.out w' hb)
    have G1 : Hid (∀ w', Below w8.heap.size w8 w' → IsGrid w' (.slice g6 n6 d6) (oA.gridOf oA.KK)) := fun w' hb => isGrid_below HG6.out (HS7.out.trans ((HS8.out.trans (hb.mono HS8.out.size)).mono HS7.out.size))
    have G2 : Hid (∀ w', Below w8.heap.size w8 w' → IsGrid w' (.slice g7 n7 d7) (oB.gridOf oB.KK)) := fun w' hb => isGrid_below HG7.out (HS8.out.trans (hb.mono HS8.out.size))
    have G3 : Hid (∀ w', Below w8.heap.size w8 w' → IsGrid w' (.slice g8 n8 d8) (oC.gridOf oC.KK)) := fun w' hb => isGrid_below HG8.out hb
    have F0 : Hid (∀ w', Below w8.heap.size w8 w' → Calls Tryd.prog 27 #[.agg #[.slice a1 q.safe.length c1, .slice a2 q.moves.length c2, .slice a3 q.jolts.length c3], .slice k1 q.P k2] w' fun e w'' => e = .returned (.bool true) ∧ Below w8.heap.size w8 w'') := fun w' hb => (form_kk (HQ0.out w' (HBM.out w' hb)) HOK.out rfl (G0.out w' hb)).mono (by rintro e w'' ⟨rfl, h⟩; exact ⟨rfl, hb.trans (h.mono hb.size)⟩)
    have F1 : Hid (∀ w', Below w8.heap.size w8 w' → Calls Tryd.prog 27 #[.agg #[.slice a1 q.safe.length c1, .slice a2 q.moves.length c2, .slice a3 q.jolts.length c3], .slice g6 n6 d6] w' fun e w'' => e = .returned (.bool true) ∧ Below w8.heap.size w8 w'') := fun w' hb => (form_kk (HQ0.out w' (HBM.out w' hb)) HOK.out SA.out (G1.out w' hb)).mono (by rintro e w'' ⟨rfl, h⟩; exact ⟨rfl, hb.trans (h.mono hb.size)⟩)
    have F2 : Hid (∀ w', Below w8.heap.size w8 w' → Calls Tryd.prog 27 #[.agg #[.slice a1 q.safe.length c1, .slice a2 q.moves.length c2, .slice a3 q.jolts.length c3], .slice g7 n7 d7] w' fun e w'' => e = .returned (.bool true) ∧ Below w8.heap.size w8 w'') := fun w' hb => (form_kk (HQ0.out w' (HBM.out w' hb)) HOK.out SB.out (G2.out w' hb)).mono (by rintro e w'' ⟨rfl, h⟩; exact ⟨rfl, hb.trans (h.mono hb.size)⟩)
    have F3 : Hid (∀ w', Below w8.heap.size w8 w' → Calls Tryd.prog 27 #[.agg #[.slice a1 q.safe.length c1, .slice a2 q.moves.length c2, .slice a3 q.jolts.length c3], .slice g8 n8 d8] w' fun e w'' => e = .returned (.bool true) ∧ Below w8.heap.size w8 w'') := fun w' hb => (form_kk (HQ0.out w' (HBM.out w' hb)) HOK.out SC.out (G3.out w' hb)).mono (by rintro e w'' ⟨rfl, h⟩; exact ⟨rfl, hb.trans (h.mono hb.size)⟩)
    obtain ⟨y0, y1, y2, x0, x1, x2, t0, t1, t2, v0, v1, v2⟩ := KH.out w8 HB8.out
    go_upto_region 15 with (first | (go_at_call 27; with_reducible refine (F0.out _ (by repeat (first | exact Below.refl _ _ | (apply Hid.out; assumption) | refine Below.drew ?_ | refine below_drewN_r ?_ _))).mono ?_; rintro e w9 ⟨rfl, hb9⟩; have HB9 := hid hb9; clear hb9; clear y0 y1 y2 x0 x1 x2 t0 t1 t2 v0 v1 v2; obtain ⟨y0, y1, y2, x0, x1, x2, t0, t1, t2, v0, v1, v2⟩ := KH.out w9 (HBM.out w9 HB9.out)) | (go_at_call 27; with_reducible refine (F1.out _ (by repeat (first | exact Below.refl _ _ | (apply Hid.out; assumption) | refine Below.drew ?_ | refine below_drewN_r ?_ _))).mono ?_; rintro e w9 ⟨rfl, hb9⟩; have HB9 := hid hb9; clear hb9; clear y0 y1 y2 x0 x1 x2 t0 t1 t2 v0 v1 v2; obtain ⟨y0, y1, y2, x0, x1, x2, t0, t1, t2, v0, v1, v2⟩ := KH.out w9 (HBM.out w9 HB9.out)) | (go_at_call 27; with_reducible refine (F2.out _ (by repeat (first | exact Below.refl _ _ | (apply Hid.out; assumption) | refine Below.drew ?_ | refine below_drewN_r ?_ _))).mono ?_; rintro e w9 ⟨rfl, hb9⟩; have HB9 := hid hb9; clear hb9; clear y0 y1 y2 x0 x1 x2 t0 t1 t2 v0 v1 v2; obtain ⟨y0, y1, y2, x0, x1, x2, t0, t1, t2, v0, v1, v2⟩ := KH.out w9 (HBM.out w9 HB9.out)) | (go_at_call 27; with_reducible refine (F3.out _ (by repeat (first | exact Below.refl _ _ | (apply Hid.out; assumption) | refine Below.drew ?_ | refine below_drewN_r ?_ _))).mono ?_; rintro e w9 ⟨rfl, hb9⟩; have HB9 := hid hb9; clear hb9; clear y0 y1 y2 x0 x1 x2 t0 t1 t2 v0 v1 v2; obtain ⟨y0, y1, y2, x0, x1, x2, t0, t1, t2, v0, v1, v2⟩ := KH.out w9 (HBM.out w9 HB9.out)) | (go_at_call 19; refine (lives_any _).mono ?_; rintro e w9 ⟨rfl, hb9⟩; have HB9 : Hid (Below w8.heap.size w8 w9) := hid (below_step (by repeat (first | exact Below.refl _ _ | (apply Hid.out; assumption) | refine Below.drew ?_ | refine below_drewN_r ?_ _)) hb9); clear hb9; clear y0 y1 y2 x0 x1 x2 t0 t1 t2 v0 v1 v2; obtain ⟨y0, y1, y2, x0, x1, x2, t0, t1, t2, v0, v1, v2⟩ := KH.out w9 (HBM.out w9 HB9.out)) | fail)
    go_upto_region 16 with (first | (go_at_call 28; refine (rCells_any _ _ _ q _ (HQ0.out _ (HBM.out _ (by repeat (first | exact Below.refl _ _ | (apply Hid.out; assumption) | refine Below.drew ?_ | refine below_drewN_r ?_ _)))) HOK.out).mono ?_; rintro e w10 ⟨vl, rfl, hs10, hb10⟩; obtain ⟨l1, l2, rfl⟩ := row_slice hs10; have HS10 := hid hs10; have HB10 : Hid (Below w8.heap.size w8 w10) := hid (below_step (by repeat (first | exact Below.refl _ _ | (apply Hid.out; assumption) | refine Below.drew ?_ | refine below_drewN_r ?_ _)) hb10); clear hb10 hs10) | fail)
    clear y0 y1 y2 x0 x1 x2 t0 t1 t2 v0 v1 v2
    obtain ⟨B10, hB10⟩ : ∃ B10 : Nat, OwnS w10 B10 28 (.slice l1 q.cells.length l2) q.cells := ⟨_, HS10.out⟩
    have HC : Hid (∀ w', Below w10.heap.size w10 w' → OwnS w' B10 28 (.slice l1 q.cells.length l2) q.cells) := fun w' hb => ownS_below hB10 hb
    have HX8 : Hid (∀ w', Below w10.heap.size w10 w' → Below w8.heap.size w8 w') := fun w' hb => HB10.out.trans (hb.mono HB10.out.size)
    clear hB10
    have I0 : Hid (∀ c, q.ex c = true → ∀ w', Below w10.heap.size w10 w' → Calls Tryd.prog 29 #[.slice k1 q.P k2, spv c] w' fun e w'' => e = .returned (.bool (q.KK c)) ∧ Below w10.heap.size w10 w'') := fun c hc w' hb => (in_kk HOK.out (G0.out w' (HX8.out w' hb)) c hc).mono (by rintro e w'' ⟨rfl, h⟩; exact ⟨rfl, hb.trans (h.mono hb.size)⟩)
    have I1 : Hid (∀ c, q.ex c = true → ∀ w', Below w10.heap.size w10 w' → Calls Tryd.prog 29 #[.slice g6 n6 d6, spv c] w' fun e w'' => e = .returned (.bool (oA.KK c)) ∧ Below w10.heap.size w10 w'') := fun c hc w' hb => (in_kk OKA.out (G1.out w' (HX8.out w' hb)) c (by rw [ex_safe SA.out]; exact hc)).mono (by rintro e w'' ⟨rfl, h⟩; exact ⟨rfl, hb.trans (h.mono hb.size)⟩)
    have I2 : Hid (∀ c, q.ex c = true → ∀ w', Below w10.heap.size w10 w' → Calls Tryd.prog 29 #[.slice g7 n7 d7, spv c] w' fun e w'' => e = .returned (.bool (oB.KK c)) ∧ Below w10.heap.size w10 w'') := fun c hc w' hb => (in_kk OKB.out (G2.out w' (HX8.out w' hb)) c (by rw [ex_safe SB.out]; exact hc)).mono (by rintro e w'' ⟨rfl, h⟩; exact ⟨rfl, hb.trans (h.mono hb.size)⟩)
    have I3 : Hid (∀ c, q.ex c = true → ∀ w', Below w10.heap.size w10 w' → Calls Tryd.prog 29 #[.slice g8 n8 d8, spv c] w' fun e w'' => e = .returned (.bool (oC.KK c)) ∧ Below w10.heap.size w10 w'') := fun c hc w' hb => (in_kk OKC.out (G3.out w' (HX8.out w' hb)) c (by rw [ex_safe SC.out]; exact hc)).mono (by rintro e w'' ⟨rfl, h⟩; exact ⟨rfl, hb.trans (h.mono hb.size)⟩)
    have HNN : Hid (q.cells.length = q.N) := by unfold Ov.cells; show _ = _; simp
    have HEXC : Hid (∀ i, i < q.cells.length → q.ex (sAt q.cells i) = true) := fun i hi => by
      rw [HNN.out] at hi
      rw [sAt_cells q i hi]
      exact cellAt_ex q i hi
    have FIN : Hid (∀ w', Below w10.heap.size w10 w' → Below w.heap.size w w') := fun w' hb => H0H.out w' (HBM.out w' (HX8.out w' hb))
    have HLEN : Hid (q.cells.length ≤ 1024) := by
      rw [HNN.out]
      have h1 := HOK.out.p.2
      have h2 := HOK.out.r.2
      have h3 := HOK.out.c.2
      have h4 : q.P * q.R * q.C ≤ 4 * 16 * 16 := Nat.mul_le_mul (Nat.mul_le_mul h1 h2) h3
      unfold Hid
      first
        | exact h4
        | (show q.N ≤ 1024; unfold Ov.N; simpa [Nat.mul_assoc] using h4)
    obtain ⟨n, hn⟩ : ∃ n, n = q.cells.length := ⟨_, rfl⟩
    rw [← hn] at HLEN
    have HN := hid hn
    rw [← hn]
    have HLE : n ≤ 1024 := HLEN.out
    clear hn
    go_wp2_with fail
    go_loopw [20] (fun iv wr => Hid (Below w10.heap.size w10 wr) ∧ ∃ i : Nat, iv = .int .i64 i ∧ i ≤ n) (fun iv _ => n - (intOf iv).toNat)
    case atStart => exact ⟨Below.refl _ _, 0, rfl, Nat.zero_le _⟩
    case round =>
      obtain ⟨HBr, i, rfl, hi⟩ := hrel
      by_cases hlt : i < n
      · have hlo : i < q.cells.length := by rw [← HN.out]; exact hlt
        obtain ⟨g, rfl, -⟩ := sp_at (HC.out wr HBr.out) i hlo
        have HE : Hid (∀ w', Below w10.heap.size w10 w' → w'.cell? ⟨g, i * 3, none⟩ = some (.int .i64 (sAt q.cells i).1) ∧ w'.cell? ⟨g, i * 3 + 1, none⟩ = some (.int .i64 (sAt q.cells i).2.1) ∧ w'.cell? ⟨g, i * 3 + 2, none⟩ = some (.int .i64 (sAt q.cells i).2.2)) := fun w' hb => by
          obtain ⟨g', hg', h⟩ := sp_at (HC.out w' hb) i hlo
          cases hg'
          exact h
        have hex := HEXC.out i hlo
        have J0 := hid (I0.out _ hex)
        have J1 := hid (I1.out _ hex)
        have J2 := hid (I2.out _ hex)
        have J3 := hid (I3.out _ hex)
        have KA := hid (RA.out (sAt q.cells i))
        have KB := hid (RB.out (sAt q.cells i))
        generalize sAt q.cells i = c at *
        clear hex hlo
        obtain ⟨p, x, y⟩ := c
        unfold spv at J0 J1 J2 J3
        dsimp only at J0 J1 J2 J3 HE
        generalize q.KK (p, x, y) = b0 at *
        generalize oA.KK (p, x, y) = b1 at *
        generalize oB.KK (p, x, y) = b2 at *
        generalize oC.KK (p, x, y) = b3 at *
        obtain ⟨e0, e1, e2⟩ := HE.out wr HBr.out
        cases b0 <;> cases b1 <;> cases b2 <;> cases b3 <;> first
          | exact absurd (KA.out rfl) (by decide)
          | exact absurd (KB.out rfl) (by decide)
          | (go_wp2_with (first | (go_at_call 29; with_reducible refine (J0.out _ (by repeat (first | exact Below.refl _ _ | (apply Hid.out; assumption) | refine Below.drew ?_ | refine below_drewN_r ?_ _))).mono ?_; rintro e w9 ⟨rfl, hb9⟩; have HB9 := hid hb9; clear hb9 e0 e1 e2; obtain ⟨e0, e1, e2⟩ := HE.out w9 HB9.out) | (go_at_call 29; with_reducible refine (J1.out _ (by repeat (first | exact Below.refl _ _ | (apply Hid.out; assumption) | refine Below.drew ?_ | refine below_drewN_r ?_ _))).mono ?_; rintro e w9 ⟨rfl, hb9⟩; have HB9 := hid hb9; clear hb9 e0 e1 e2; obtain ⟨e0, e1, e2⟩ := HE.out w9 HB9.out) | (go_at_call 29; with_reducible refine (J2.out _ (by repeat (first | exact Below.refl _ _ | (apply Hid.out; assumption) | refine Below.drew ?_ | refine below_drewN_r ?_ _))).mono ?_; rintro e w9 ⟨rfl, hb9⟩; have HB9 := hid hb9; clear hb9 e0 e1 e2; obtain ⟨e0, e1, e2⟩ := HE.out w9 HB9.out) | (go_at_call 29; with_reducible refine (J3.out _ (by repeat (first | exact Below.refl _ _ | (apply Hid.out; assumption) | refine Below.drew ?_ | refine below_drewN_r ?_ _))).mono ?_; rintro e w9 ⟨rfl, hb9⟩; have HB9 := hid hb9; clear hb9 e0 e1 e2; obtain ⟨e0, e1, e2⟩ := HE.out w9 HB9.out) | fail)
             go_roundw
             case rel => exact ⟨by repeat (first | exact Below.refl _ _ | (apply Hid.out; assumption) | refine Below.drew ?_ | refine below_drewN_r ?_ _), i + 1, by go_num, by omega⟩
             case measure => simp [intOf]; omega)
      · obtain rfl : n = i := by omega
        go_wp2_with fail
        go_ret
        exact ⟨rfl, FIN.out _ HBr.out⟩
end Go.Proofs.YtjonbhimbhidpaaDoor
