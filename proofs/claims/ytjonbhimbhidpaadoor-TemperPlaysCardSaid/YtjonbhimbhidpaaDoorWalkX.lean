/-
  Walks over chapter 6: the statements cut their arguments: ovens.
-/
import Derived.Test.YtjonbhimbhidpaaDoorBaseJ
namespace Go.Proofs.YtjonbhimbhidpaaDoor
open Go.RowKit

theorem slice_to {t e : TypeId} (ht : Tryd.prog.underlying t = some (.slice e)) {sz : Nat} (hz : ∀ w, (sizeOf e).run Tryd.prog w = .ok sz w) (a : Option Addr) (M c k : Nat) (h : k ≤ M) (hM : M ≤ c) (ha : a = none → c = 0) (w : World) : (Instr.sliceAt t (.slice a M c) none (some (.int .i64 k)) none).run Tryd.prog w = .ok (.slice a k c) w := by
  cases a with
  | none =>
    obtain rfl := ha rfl
    obtain rfl : M = 0 := by omega
    obtain rfl : k = 0 := by omega
    simp [Instr.sliceAt, go_sem, run_underlying ht, ht, hz w]
  | some ad =>
    have hkc : k ≤ c := by omega
    simp [Instr.sliceAt, go_sem, run_underlying ht, ht, hkc, hz w]

set_option maxHeartbeats 20000000 in
set_option maxRecDepth 100000 in
theorem cut_own (vs vm vj : Value) (o : Ov) (w : World) (ho : ArgOv w vs vm vj o) :
    Calls Tryd.prog 14 #[.agg #[vs, vm, vj]] w fun e w' => ∃ vs' vm' vj', e = .returned (.agg #[vs', vm', vj']) ∧ OwnOv w' w.heap.size vs' vm' vj' (cutOv o) ∧ Below w.heap.size w w' := by
  obtain ⟨hs, ⟨hml, am, cm, rfl, hmc1, hmc2, hma⟩, ⟨hjl, aj, cj, rfl, hjc1, hjc2, hja⟩⟩ := ho
  obtain ⟨ag, cs, rfl, hsl, hsc⟩ := hs
  have HSC := hid hsc
  obtain ⟨hb2, hz2, k0, k1⟩ := alloc2 w (.cells #[.slice ag o.safe.length cs, .slice am o.moves.length cm, .slice aj o.jolts.length cj] 26) (.cells #[.slice none 0 0, .slice none 0 0, .slice none 0 0] 26)
  obtain ⟨x0, x1, x2⟩ := cells3_of k0
  obtain ⟨W, hW⟩ : ∃ W, W = ((w.alloc (.cells #[.slice ag o.safe.length cs, .slice am o.moves.length cm, .slice aj o.jolts.length cj] 26)).alloc (.cells #[.slice none 0 0, .slice none 0 0, .slice none 0 0] 26)) := ⟨_, rfl⟩
  rw [← hW] at hb2 hz2 k0 k1 x0 x1 x2
  have HB := hid hb2
  have K1 := hid k1
  have HZ := hid hz2
  have mn1 : min ((o.moves.length : Nat) : Int) 17 = ((min o.moves.length 17 : Nat) : Int) := by omega
  have mn2 : min ((o.jolts.length : Nat) : Int) 5 = ((min o.jolts.length 5 : Nat) : Int) := by omega
  obtain ⟨km, hkm⟩ : ∃ km, km = min o.moves.length 17 := ⟨_, rfl⟩
  obtain ⟨kj, hkj⟩ : ∃ kj, kj = min o.jolts.length 5 := ⟨_, rfl⟩
  rw [← hkm] at mn1
  rw [← hkj] at mn2
  obtain ⟨M, hM⟩ : ∃ M, M = o.moves.length := ⟨_, rfl⟩
  obtain ⟨J, hJ⟩ : ∃ J, J = o.jolts.length := ⟨_, rfl⟩
  obtain ⟨P, hP⟩ : ∃ P, P = o.safe.length := ⟨_, rfl⟩
  rw [← hM] at mn1 hmc1 hml x1 hW
  rw [← hJ] at mn2 hjc1 hjl x2 hW
  rw [← hP] at hsl x0 hW
  rw [← hP, ← hM, ← hJ]
  have hkm1 : km ≤ M := by omega
  have hkj1 : kj ≤ J := by omega
  have hkm2 : km ≤ 17 := by omega
  have hkj2 : kj ≤ 5 := by omega
  have HKM := hid hkm
  have HKJ := hid hkj
  have HW := hid hW
  unfold maxLen at hml hjl hsl hmc2 hjc2
  clear hb2 hz2 k0 k1 hsc hkm hkj hW
  have HRM : Hid (Rd w (.slice am km cm) km 4 (mcells (o.moves.take 17))) := by
    rcases hma with ⟨rfl, h0⟩ | ⟨adm, rfl, hlm, hcm⟩
    · have e1 : o.moves = [] := List.length_eq_zero_iff.1 (by omega)
      obtain rfl : km = 0 := by omega
      rw [h0, e1]; exact rd_nil w 4
    · exact rd_mv km hlm hcm HKM.out
  have HRJ : Hid (Rd w (.slice aj kj cj) kj 2 (jcells (o.jolts.take 5))) := by
    rcases hja with ⟨rfl, h0⟩ | ⟨adj, rfl, hlj, hcj⟩
    · have e1 : o.jolts = [] := List.length_eq_zero_iff.1 (by omega)
      obtain rfl : kj = 0 := by omega
      rw [h0, e1]; exact rd_nil w 2
    · exact rd_jl kj hlj hcj HKJ.out
  have hsl1 := slice_to Tryd.underlying23 (sz := 4) (fun w => by kernel_rfl) am M cm km hkm1 hmc1 (fun h => by
    rcases hma with ⟨_, h0⟩ | ⟨ad, h1, _⟩
    · exact h0
    · rw [h] at h1; cases h1)
  have hsl2 := slice_to Tryd.underlying24 (sz := 2) (fun w => by kernel_rfl) aj J cj kj hkj1 hjc1 (fun h => by
    rcases hja with ⟨_, h0⟩ | ⟨ad, h1, _⟩
    · exact h0
    · rw [h] at h1; cases h1)
  have HX0 := hid x0
  have HX1 := hid x1
  have HX2 := hid x2
  have HP := hid hP
  have HSL := hid hsl
  clear hma hja hM hJ hP hml hjl hmc1 hmc2 hjc1 hjc2 hsl
  have hlW : w.heap.size < W.heap.size := by have := HZ.out; omega
  have KEEP : Hid (∀ w', Below W.heap.size W w' → w'.cell? ⟨w.heap.size, 1, none⟩ = some (.slice am M cm) ∧ w'.cell? ⟨w.heap.size, 2, none⟩ = some (.slice aj J cj) ∧ Hid (Below W.heap.size W w')) := fun w' hb => ⟨(hb.cell (p := ⟨_, 1, none⟩) hlW).trans HX1.out, (hb.cell (p := ⟨_, 2, none⟩) hlW).trans HX2.out, hb⟩
  clear x0 x1 x2 hkm1 hkj1
  have HMN := hid hlW
  clear hlW
  go_enter Tryd.func14, Tryd.ntmps14
  go_upto_region 1 with fail
  rw [← HW.out]
  go_cut [3] (fun v3 wx => ∃ bx a1 n1 c1 a2 n2 c2, v3 = .pointer (some ⟨bx, 0, none⟩) ∧ W.heap.size ≤ bx ∧ wx.heap[bx]? = some (.cells #[.slice none 0 0, .slice a1 n1 c1, .slice a2 n2 c2] 26) ∧ Hid (wx.ownsRow W.heap.size 53 4 (.slice a1 n1 c1) km (mcells (o.moves.take 17))) ∧ Hid (wx.ownsRow W.heap.size 55 2 (.slice a2 n2 c2) kj (jcells (o.jolts.take 5))) ∧ Hid (Below W.heap.size W wx))
  case first =>
    refine wp_region_held_drew (S := fun w' => w'.cell? ⟨w.heap.size, 1, none⟩ = some (.slice am M cm) ∧ w'.cell? ⟨w.heap.size, 2, none⟩ = some (.slice aj J cj) ∧ Hid (Below W.heap.size W w')) (by kernel_rfl) (KEEP.out _ ((Below.refl _ _).drew)) (fun hHeld => ?_)
    refine take_at (i := 1) 6 (v := .pointer (some ⟨w.heap.size, 1, none⟩)) rfl (by kernel_rfl) (by kernel_rfl) (by kernel_rfl) rfl (fun _ _ _ h => h) (by rfl) (fun w hSw => ?_) hHeld ?_
    · (try dsimp only at hSw); go_simp
    simp only [Act.put, List.setIfInBounds_toArray, List.set_cons_zero, List.set_cons_succ]
    refine take_at (i := 2) 7 (v := .slice am M cm) rfl (by kernel_rfl) (by kernel_rfl) (by kernel_rfl) rfl (fun _ _ _ h => h) (by rfl) (fun w hSw => ?_) hHeld ?_
    · (try dsimp only at hSw); go_simp
    simp only [Act.put, List.setIfInBounds_toArray, List.set_cons_zero, List.set_cons_succ]
    refine take_at (i := 3) 8 (v := .pointer (some ⟨w.heap.size, 1, none⟩)) rfl (by kernel_rfl) (by kernel_rfl) (by kernel_rfl) rfl (fun _ _ _ h => h) (by rfl) (fun w hSw => ?_) hHeld ?_
    · (try dsimp only at hSw); go_simp
    simp only [Act.put, List.setIfInBounds_toArray, List.set_cons_zero, List.set_cons_succ]
    refine take_at (i := 4) 9 (v := .slice am M cm) rfl (by kernel_rfl) (by kernel_rfl) (by kernel_rfl) rfl (fun _ _ _ h => h) (by rfl) (fun w hSw => ?_) hHeld ?_
    · (try dsimp only at hSw); go_simp
    simp only [Act.put, List.setIfInBounds_toArray, List.set_cons_zero, List.set_cons_succ]
    refine take_at (i := 5) 10 (v := .int .i64 M) rfl (by kernel_rfl) (by kernel_rfl) (by kernel_rfl) rfl (fun _ _ _ h => h) (by rfl) (fun w hSw => ?_) hHeld ?_
    · (try dsimp only at hSw); go_simp
    simp only [Act.put, List.setIfInBounds_toArray, List.set_cons_zero, List.set_cons_succ]
    refine take_at (i := 6) 11 (v := .int .i64 km) rfl (by kernel_rfl) (by kernel_rfl) (by kernel_rfl) rfl (fun _ _ _ h => h) (by rfl) (fun w hSw => ?_) hHeld ?_
    · (try dsimp only at hSw); go_simp
    simp only [Act.put, List.setIfInBounds_toArray, List.set_cons_zero, List.set_cons_succ]
    refine take_at (i := 7) 12 (v := .slice am km cm) rfl (by kernel_rfl) (by kernel_rfl) (by kernel_rfl) rfl (fun _ _ _ h => h) (by rfl) (fun w hSw => ?_) hHeld ?_
    · (try dsimp only at hSw); go_simp
    simp only [Act.put, List.setIfInBounds_toArray, List.set_cons_zero, List.set_cons_succ]
    refine take_at (i := 10) 15 (v := .pointer (some ⟨w.heap.size, 2, none⟩)) rfl (by kernel_rfl) (by kernel_rfl) (by kernel_rfl) rfl (fun _ _ _ h => h) (by rfl) (fun w hSw => ?_) hHeld ?_
    · (try dsimp only at hSw); go_simp
    simp only [Act.put, List.setIfInBounds_toArray, List.set_cons_zero, List.set_cons_succ]
    refine take_at (i := 11) 16 (v := .slice aj J cj) rfl (by kernel_rfl) (by kernel_rfl) (by kernel_rfl) rfl (fun _ _ _ h => h) (by rfl) (fun w hSw => ?_) hHeld ?_
    · (try dsimp only at hSw); go_simp
    simp only [Act.put, List.setIfInBounds_toArray, List.set_cons_zero, List.set_cons_succ]
    refine take_at (i := 12) 17 (v := .pointer (some ⟨w.heap.size, 2, none⟩)) rfl (by kernel_rfl) (by kernel_rfl) (by kernel_rfl) rfl (fun _ _ _ h => h) (by rfl) (fun w hSw => ?_) hHeld ?_
    · (try dsimp only at hSw); go_simp
    simp only [Act.put, List.setIfInBounds_toArray, List.set_cons_zero, List.set_cons_succ]
    refine take_at (i := 13) 18 (v := .slice aj J cj) rfl (by kernel_rfl) (by kernel_rfl) (by kernel_rfl) rfl (fun _ _ _ h => h) (by rfl) (fun w hSw => ?_) hHeld ?_
    · (try dsimp only at hSw); go_simp
    simp only [Act.put, List.setIfInBounds_toArray, List.set_cons_zero, List.set_cons_succ]
    refine take_at (i := 14) 19 (v := .int .i64 J) rfl (by kernel_rfl) (by kernel_rfl) (by kernel_rfl) rfl (fun _ _ _ h => h) (by rfl) (fun w hSw => ?_) hHeld ?_
    · (try dsimp only at hSw); go_simp
    simp only [Act.put, List.setIfInBounds_toArray, List.set_cons_zero, List.set_cons_succ]
    refine take_at (i := 15) 20 (v := .int .i64 kj) rfl (by kernel_rfl) (by kernel_rfl) (by kernel_rfl) rfl (fun _ _ _ h => h) (by rfl) (fun w hSw => ?_) hHeld ?_
    · (try dsimp only at hSw); go_simp
    simp only [Act.put, List.setIfInBounds_toArray, List.set_cons_zero, List.set_cons_succ]
    refine take_at (i := 16) 21 (v := .slice aj kj cj) rfl (by kernel_rfl) (by kernel_rfl) (by kernel_rfl) rfl (fun _ _ _ h => h) (by rfl) (fun w hSw => ?_) hHeld ?_
    · (try dsimp only at hSw); go_simp
    simp only [Act.put, List.setIfInBounds_toArray, List.set_cons_zero, List.set_cons_succ]
    have R0 := R1.start W (km := km) (kj := kj) (us := mcells (o.moves.take 17)) (uj := jcells (o.jolts.take 5))
    refine wpAnyH_ready (rs := [0, 9, 19]) (by kernel_rfl) (by simp) ?_
    refine node_build0 23 53 4 5 Tryd.underlying23 (fun w => by kernel_rfl) rfl rfl rfl rfl (KEEP.out _ R0.a5.below) (fun hHeld => ?_) ?_
    · have R1 := R0.a5
      clear R0
      simp only [Act.put, List.setIfInBounds_toArray, List.set_cons_zero, List.set_cons_succ]
      refine wpAnyH_ready (rs := [8, 9, 19]) (by kernel_rfl) (by simp) ?_
      refine node_app 13 W.heap.size (.tmp 5) (.tmp 12) 23 53 _ 4 32 info53 rfl (by decide) Tryd.underlying23 _ km (mcells (o.moves.take 17)) _ rfl rfl rfl rfl rfl rfl (rd_below HRM.out (HB.out.trans (R1.below.mono HB.out.size))) (R1.h5 _ rfl).2 (R1.h5 _ rfl).1 (by omega) ?_ ?_
      · intro sa1 sn1 sc1 w1 ho1 hg1
        have R2 := R1.app13 hg1.out ho1.out
        refine ⟨KEEP.out _ R2.below, ?_⟩
        have hHeld := KEEP.out _ R2.below
        clear ho1 hg1
        clear R1
        simp only [Act.put, List.setIfInBounds_toArray, List.set_cons_zero, List.set_cons_succ]
        refine wpAnyH_ready (rs := [9, 19]) (by kernel_rfl) (by simp) ?_
        refine node_build0 24 55 2 14 Tryd.underlying24 (fun w => by kernel_rfl) rfl rfl rfl rfl (KEEP.out _ R2.a14.below) (fun hHeld => ?_) ?_
        · have R3 := R2.a14
          clear R2
          simp only [Act.put, List.setIfInBounds_toArray, List.set_cons_zero, List.set_cons_succ]
          refine wpAnyH_ready (rs := [17, 19]) (by kernel_rfl) (by simp) ?_
          refine node_app 22 W.heap.size (.tmp 14) (.tmp 21) 24 55 _ 2 16 info55 rfl (by decide) Tryd.underlying24 _ kj (jcells (o.jolts.take 5)) _ rfl rfl rfl rfl rfl rfl (rd_below HRJ.out (HB.out.trans (R3.below.mono HB.out.size))) (R3.h14 _ rfl).2 (R3.h14 _ rfl).1 (by omega) ?_ ?_
          · intro sa2 sn2 sc2 w2 ho2 hg2
            have R4 := R3.app22 hg2.out ho2.out
            refine ⟨KEEP.out _ R4.below, ?_⟩
            have hHeld := KEEP.out _ R4.below
            clear ho2 hg2
            clear R3
            simp only [Act.put, List.setIfInBounds_toArray, List.set_cons_zero, List.set_cons_succ]
            refine take_at (i := 18) 23 (v := .agg #[.slice none 0 0, .slice sa1 sn1 sc1, .slice sa2 sn2 sc2]) rfl (by kernel_rfl) (by kernel_rfl) (by kernel_rfl) rfl (fun _ _ _ h => h) (by rfl) (fun w hSw => ?_) hHeld ?_
            · (try dsimp only at hSw); go_simp
            simp only [Act.put, List.setIfInBounds_toArray, List.set_cons_zero, List.set_cons_succ]
            refine wpAnyH_ready (rs := [19]) (by kernel_rfl) (by simp) ?_
            refine node_alloc26 3 rfl rfl rfl rfl (KEEP.out _ R4.a3.below) (fun hHeld => ?_) AllReadyH.nil
            · have R5 := R4.a3
              clear R4
              simp only [Act.put, List.setIfInBounds_toArray, List.set_cons_zero, List.set_cons_succ]
              have hf := R5.fin
              refine wpAnyH_ready (rs := [20]) (by kernel_rfl) (by simp) ?_
              refine node_store26 3 23 _ _ _ _ _ _ _ _ _ _ _ _ _ rfl rfl rfl rfl rfl rfl (R5.h3 _ rfl).2 (KEEP.out _ hf.2.2.2.2) ?_ AllReadyH.nil
              refine wpAnyH_done (by kernel_rfl) ?_ _
              go_wp2_with fail
              go_meet
              exact ⟨_, _, _, _, _, _, _, rfl, hf.1, hf.2.1, hf.2.2.1, hf.2.2.2.1, hf.2.2.2.2⟩
          refine node_alloc26 3 rfl rfl rfl rfl (KEEP.out _ R3.a3.below) (fun hHeld => ?_) AllReadyH.nil
          · have R4 := R3.a3
            clear R3
            simp only [Act.put, List.setIfInBounds_toArray, List.set_cons_zero, List.set_cons_succ]
            refine wpAnyH_ready (rs := [17]) (by kernel_rfl) (by simp) ?_
            refine node_app 22 W.heap.size (.tmp 14) (.tmp 21) 24 55 _ 2 16 info55 rfl (by decide) Tryd.underlying24 _ kj (jcells (o.jolts.take 5)) _ rfl rfl rfl rfl rfl rfl (rd_below HRJ.out (HB.out.trans (R4.below.mono HB.out.size))) (R4.h14 _ rfl).2 (R4.h14 _ rfl).1 (by omega) ?_ AllReadyH.nil
            · intro sa2 sn2 sc2 w2 ho2 hg2
              have R5 := R4.app22 hg2.out ho2.out
              refine ⟨KEEP.out _ R5.below, ?_⟩
              have hHeld := KEEP.out _ R5.below
              clear ho2 hg2
              clear R4
              simp only [Act.put, List.setIfInBounds_toArray, List.set_cons_zero, List.set_cons_succ]
              refine take_at (i := 18) 23 (v := .agg #[.slice none 0 0, .slice sa1 sn1 sc1, .slice sa2 sn2 sc2]) rfl (by kernel_rfl) (by kernel_rfl) (by kernel_rfl) rfl (fun _ _ _ h => h) (by rfl) (fun w hSw => ?_) hHeld ?_
              · (try dsimp only at hSw); go_simp
              simp only [Act.put, List.setIfInBounds_toArray, List.set_cons_zero, List.set_cons_succ]
              have hf := R5.fin
              refine wpAnyH_ready (rs := [20]) (by kernel_rfl) (by simp) ?_
              refine node_store26 3 23 _ _ _ _ _ _ _ _ _ _ _ _ _ rfl rfl rfl rfl rfl rfl (R5.h3 _ rfl).2 (KEEP.out _ hf.2.2.2.2) ?_ AllReadyH.nil
              refine wpAnyH_done (by kernel_rfl) ?_ _
              go_wp2_with fail
              go_meet
              exact ⟨_, _, _, _, _, _, _, rfl, hf.1, hf.2.1, hf.2.2.1, hf.2.2.2.1, hf.2.2.2.2⟩
        refine node_alloc26 3 rfl rfl rfl rfl (KEEP.out _ R2.a3.below) (fun hHeld => ?_) AllReadyH.nil
        · have R3 := R2.a3
          clear R2
          simp only [Act.put, List.setIfInBounds_toArray, List.set_cons_zero, List.set_cons_succ]
          refine wpAnyH_ready (rs := [9]) (by kernel_rfl) (by simp) ?_
          refine node_build0 24 55 2 14 Tryd.underlying24 (fun w => by kernel_rfl) rfl rfl rfl rfl (KEEP.out _ R3.a14.below) (fun hHeld => ?_) AllReadyH.nil
          · have R4 := R3.a14
            clear R3
            simp only [Act.put, List.setIfInBounds_toArray, List.set_cons_zero, List.set_cons_succ]
            refine wpAnyH_ready (rs := [17]) (by kernel_rfl) (by simp) ?_
            refine node_app 22 W.heap.size (.tmp 14) (.tmp 21) 24 55 _ 2 16 info55 rfl (by decide) Tryd.underlying24 _ kj (jcells (o.jolts.take 5)) _ rfl rfl rfl rfl rfl rfl (rd_below HRJ.out (HB.out.trans (R4.below.mono HB.out.size))) (R4.h14 _ rfl).2 (R4.h14 _ rfl).1 (by omega) ?_ AllReadyH.nil
            · intro sa2 sn2 sc2 w2 ho2 hg2
              have R5 := R4.app22 hg2.out ho2.out
              refine ⟨KEEP.out _ R5.below, ?_⟩
              have hHeld := KEEP.out _ R5.below
              clear ho2 hg2
              clear R4
              simp only [Act.put, List.setIfInBounds_toArray, List.set_cons_zero, List.set_cons_succ]
              refine take_at (i := 18) 23 (v := .agg #[.slice none 0 0, .slice sa1 sn1 sc1, .slice sa2 sn2 sc2]) rfl (by kernel_rfl) (by kernel_rfl) (by kernel_rfl) rfl (fun _ _ _ h => h) (by rfl) (fun w hSw => ?_) hHeld ?_
              · (try dsimp only at hSw); go_simp
              simp only [Act.put, List.setIfInBounds_toArray, List.set_cons_zero, List.set_cons_succ]
              have hf := R5.fin
              refine wpAnyH_ready (rs := [20]) (by kernel_rfl) (by simp) ?_
              refine node_store26 3 23 _ _ _ _ _ _ _ _ _ _ _ _ _ rfl rfl rfl rfl rfl rfl (R5.h3 _ rfl).2 (KEEP.out _ hf.2.2.2.2) ?_ AllReadyH.nil
              refine wpAnyH_done (by kernel_rfl) ?_ _
              go_wp2_with fail
              go_meet
              exact ⟨_, _, _, _, _, _, _, rfl, hf.1, hf.2.1, hf.2.2.1, hf.2.2.2.1, hf.2.2.2.2⟩
      refine node_build0 24 55 2 14 Tryd.underlying24 (fun w => by kernel_rfl) rfl rfl rfl rfl (KEEP.out _ R1.a14.below) (fun hHeld => ?_) ?_
      · have R2 := R1.a14
        clear R1
        simp only [Act.put, List.setIfInBounds_toArray, List.set_cons_zero, List.set_cons_succ]
        refine wpAnyH_ready (rs := [8, 19]) (by kernel_rfl) (by simp) ?_
        refine node_app 13 W.heap.size (.tmp 5) (.tmp 12) 23 53 _ 4 32 info53 rfl (by decide) Tryd.underlying23 _ km (mcells (o.moves.take 17)) _ rfl rfl rfl rfl rfl rfl (rd_below HRM.out (HB.out.trans (R2.below.mono HB.out.size))) (R2.h5 _ rfl).2 (R2.h5 _ rfl).1 (by omega) ?_ ?_
        · intro sa1 sn1 sc1 w1 ho1 hg1
          have R3 := R2.app13 hg1.out ho1.out
          refine ⟨KEEP.out _ R3.below, ?_⟩
          have hHeld := KEEP.out _ R3.below
          clear ho1 hg1
          clear R2
          simp only [Act.put, List.setIfInBounds_toArray, List.set_cons_zero, List.set_cons_succ]
          refine wpAnyH_ready (rs := [17, 19]) (by kernel_rfl) (by simp) ?_
          refine node_app 22 W.heap.size (.tmp 14) (.tmp 21) 24 55 _ 2 16 info55 rfl (by decide) Tryd.underlying24 _ kj (jcells (o.jolts.take 5)) _ rfl rfl rfl rfl rfl rfl (rd_below HRJ.out (HB.out.trans (R3.below.mono HB.out.size))) (R3.h14 _ rfl).2 (R3.h14 _ rfl).1 (by omega) ?_ ?_
          · intro sa2 sn2 sc2 w2 ho2 hg2
            have R4 := R3.app22 hg2.out ho2.out
            refine ⟨KEEP.out _ R4.below, ?_⟩
            have hHeld := KEEP.out _ R4.below
            clear ho2 hg2
            clear R3
            simp only [Act.put, List.setIfInBounds_toArray, List.set_cons_zero, List.set_cons_succ]
            refine take_at (i := 18) 23 (v := .agg #[.slice none 0 0, .slice sa1 sn1 sc1, .slice sa2 sn2 sc2]) rfl (by kernel_rfl) (by kernel_rfl) (by kernel_rfl) rfl (fun _ _ _ h => h) (by rfl) (fun w hSw => ?_) hHeld ?_
            · (try dsimp only at hSw); go_simp
            simp only [Act.put, List.setIfInBounds_toArray, List.set_cons_zero, List.set_cons_succ]
            refine wpAnyH_ready (rs := [19]) (by kernel_rfl) (by simp) ?_
            refine node_alloc26 3 rfl rfl rfl rfl (KEEP.out _ R4.a3.below) (fun hHeld => ?_) AllReadyH.nil
            · have R5 := R4.a3
              clear R4
              simp only [Act.put, List.setIfInBounds_toArray, List.set_cons_zero, List.set_cons_succ]
              have hf := R5.fin
              refine wpAnyH_ready (rs := [20]) (by kernel_rfl) (by simp) ?_
              refine node_store26 3 23 _ _ _ _ _ _ _ _ _ _ _ _ _ rfl rfl rfl rfl rfl rfl (R5.h3 _ rfl).2 (KEEP.out _ hf.2.2.2.2) ?_ AllReadyH.nil
              refine wpAnyH_done (by kernel_rfl) ?_ _
              go_wp2_with fail
              go_meet
              exact ⟨_, _, _, _, _, _, _, rfl, hf.1, hf.2.1, hf.2.2.1, hf.2.2.2.1, hf.2.2.2.2⟩
          refine node_alloc26 3 rfl rfl rfl rfl (KEEP.out _ R3.a3.below) (fun hHeld => ?_) AllReadyH.nil
          · have R4 := R3.a3
            clear R3
            simp only [Act.put, List.setIfInBounds_toArray, List.set_cons_zero, List.set_cons_succ]
            refine wpAnyH_ready (rs := [17]) (by kernel_rfl) (by simp) ?_
            refine node_app 22 W.heap.size (.tmp 14) (.tmp 21) 24 55 _ 2 16 info55 rfl (by decide) Tryd.underlying24 _ kj (jcells (o.jolts.take 5)) _ rfl rfl rfl rfl rfl rfl (rd_below HRJ.out (HB.out.trans (R4.below.mono HB.out.size))) (R4.h14 _ rfl).2 (R4.h14 _ rfl).1 (by omega) ?_ AllReadyH.nil
            · intro sa2 sn2 sc2 w2 ho2 hg2
              have R5 := R4.app22 hg2.out ho2.out
              refine ⟨KEEP.out _ R5.below, ?_⟩
              have hHeld := KEEP.out _ R5.below
              clear ho2 hg2
              clear R4
              simp only [Act.put, List.setIfInBounds_toArray, List.set_cons_zero, List.set_cons_succ]
              refine take_at (i := 18) 23 (v := .agg #[.slice none 0 0, .slice sa1 sn1 sc1, .slice sa2 sn2 sc2]) rfl (by kernel_rfl) (by kernel_rfl) (by kernel_rfl) rfl (fun _ _ _ h => h) (by rfl) (fun w hSw => ?_) hHeld ?_
              · (try dsimp only at hSw); go_simp
              simp only [Act.put, List.setIfInBounds_toArray, List.set_cons_zero, List.set_cons_succ]
              have hf := R5.fin
              refine wpAnyH_ready (rs := [20]) (by kernel_rfl) (by simp) ?_
              refine node_store26 3 23 _ _ _ _ _ _ _ _ _ _ _ _ _ rfl rfl rfl rfl rfl rfl (R5.h3 _ rfl).2 (KEEP.out _ hf.2.2.2.2) ?_ AllReadyH.nil
              refine wpAnyH_done (by kernel_rfl) ?_ _
              go_wp2_with fail
              go_meet
              exact ⟨_, _, _, _, _, _, _, rfl, hf.1, hf.2.1, hf.2.2.1, hf.2.2.2.1, hf.2.2.2.2⟩
        refine node_alloc26 3 rfl rfl rfl rfl (KEEP.out _ R2.a3.below) (fun hHeld => ?_) AllReadyH.nil
        · have R3 := R2.a3
          clear R2
          simp only [Act.put, List.setIfInBounds_toArray, List.set_cons_zero, List.set_cons_succ]
          refine wpAnyH_ready (rs := [8]) (by kernel_rfl) (by simp) ?_
          refine node_app 13 W.heap.size (.tmp 5) (.tmp 12) 23 53 _ 4 32 info53 rfl (by decide) Tryd.underlying23 _ km (mcells (o.moves.take 17)) _ rfl rfl rfl rfl rfl rfl (rd_below HRM.out (HB.out.trans (R3.below.mono HB.out.size))) (R3.h5 _ rfl).2 (R3.h5 _ rfl).1 (by omega) ?_ AllReadyH.nil
          · intro sa1 sn1 sc1 w1 ho1 hg1
            have R4 := R3.app13 hg1.out ho1.out
            refine ⟨KEEP.out _ R4.below, ?_⟩
            have hHeld := KEEP.out _ R4.below
            clear ho1 hg1
            clear R3
            simp only [Act.put, List.setIfInBounds_toArray, List.set_cons_zero, List.set_cons_succ]
            refine wpAnyH_ready (rs := [17]) (by kernel_rfl) (by simp) ?_
            refine node_app 22 W.heap.size (.tmp 14) (.tmp 21) 24 55 _ 2 16 info55 rfl (by decide) Tryd.underlying24 _ kj (jcells (o.jolts.take 5)) _ rfl rfl rfl rfl rfl rfl (rd_below HRJ.out (HB.out.trans (R4.below.mono HB.out.size))) (R4.h14 _ rfl).2 (R4.h14 _ rfl).1 (by omega) ?_ AllReadyH.nil
            · intro sa2 sn2 sc2 w2 ho2 hg2
              have R5 := R4.app22 hg2.out ho2.out
              refine ⟨KEEP.out _ R5.below, ?_⟩
              have hHeld := KEEP.out _ R5.below
              clear ho2 hg2
              clear R4
              simp only [Act.put, List.setIfInBounds_toArray, List.set_cons_zero, List.set_cons_succ]
              refine take_at (i := 18) 23 (v := .agg #[.slice none 0 0, .slice sa1 sn1 sc1, .slice sa2 sn2 sc2]) rfl (by kernel_rfl) (by kernel_rfl) (by kernel_rfl) rfl (fun _ _ _ h => h) (by rfl) (fun w hSw => ?_) hHeld ?_
              · (try dsimp only at hSw); go_simp
              simp only [Act.put, List.setIfInBounds_toArray, List.set_cons_zero, List.set_cons_succ]
              have hf := R5.fin
              refine wpAnyH_ready (rs := [20]) (by kernel_rfl) (by simp) ?_
              refine node_store26 3 23 _ _ _ _ _ _ _ _ _ _ _ _ _ rfl rfl rfl rfl rfl rfl (R5.h3 _ rfl).2 (KEEP.out _ hf.2.2.2.2) ?_ AllReadyH.nil
              refine wpAnyH_done (by kernel_rfl) ?_ _
              go_wp2_with fail
              go_meet
              exact ⟨_, _, _, _, _, _, _, rfl, hf.1, hf.2.1, hf.2.2.1, hf.2.2.2.1, hf.2.2.2.2⟩
      refine node_alloc26 3 rfl rfl rfl rfl (KEEP.out _ R1.a3.below) (fun hHeld => ?_) AllReadyH.nil
      · have R2 := R1.a3
        clear R1
        simp only [Act.put, List.setIfInBounds_toArray, List.set_cons_zero, List.set_cons_succ]
        refine wpAnyH_ready (rs := [8, 9]) (by kernel_rfl) (by simp) ?_
        refine node_app 13 W.heap.size (.tmp 5) (.tmp 12) 23 53 _ 4 32 info53 rfl (by decide) Tryd.underlying23 _ km (mcells (o.moves.take 17)) _ rfl rfl rfl rfl rfl rfl (rd_below HRM.out (HB.out.trans (R2.below.mono HB.out.size))) (R2.h5 _ rfl).2 (R2.h5 _ rfl).1 (by omega) ?_ ?_
        · intro sa1 sn1 sc1 w1 ho1 hg1
          have R3 := R2.app13 hg1.out ho1.out
          refine ⟨KEEP.out _ R3.below, ?_⟩
          have hHeld := KEEP.out _ R3.below
          clear ho1 hg1
          clear R2
          simp only [Act.put, List.setIfInBounds_toArray, List.set_cons_zero, List.set_cons_succ]
          refine wpAnyH_ready (rs := [9]) (by kernel_rfl) (by simp) ?_
          refine node_build0 24 55 2 14 Tryd.underlying24 (fun w => by kernel_rfl) rfl rfl rfl rfl (KEEP.out _ R3.a14.below) (fun hHeld => ?_) AllReadyH.nil
          · have R4 := R3.a14
            clear R3
            simp only [Act.put, List.setIfInBounds_toArray, List.set_cons_zero, List.set_cons_succ]
            refine wpAnyH_ready (rs := [17]) (by kernel_rfl) (by simp) ?_
            refine node_app 22 W.heap.size (.tmp 14) (.tmp 21) 24 55 _ 2 16 info55 rfl (by decide) Tryd.underlying24 _ kj (jcells (o.jolts.take 5)) _ rfl rfl rfl rfl rfl rfl (rd_below HRJ.out (HB.out.trans (R4.below.mono HB.out.size))) (R4.h14 _ rfl).2 (R4.h14 _ rfl).1 (by omega) ?_ AllReadyH.nil
            · intro sa2 sn2 sc2 w2 ho2 hg2
              have R5 := R4.app22 hg2.out ho2.out
              refine ⟨KEEP.out _ R5.below, ?_⟩
              have hHeld := KEEP.out _ R5.below
              clear ho2 hg2
              clear R4
              simp only [Act.put, List.setIfInBounds_toArray, List.set_cons_zero, List.set_cons_succ]
              refine take_at (i := 18) 23 (v := .agg #[.slice none 0 0, .slice sa1 sn1 sc1, .slice sa2 sn2 sc2]) rfl (by kernel_rfl) (by kernel_rfl) (by kernel_rfl) rfl (fun _ _ _ h => h) (by rfl) (fun w hSw => ?_) hHeld ?_
              · (try dsimp only at hSw); go_simp
              simp only [Act.put, List.setIfInBounds_toArray, List.set_cons_zero, List.set_cons_succ]
              have hf := R5.fin
              refine wpAnyH_ready (rs := [20]) (by kernel_rfl) (by simp) ?_
              refine node_store26 3 23 _ _ _ _ _ _ _ _ _ _ _ _ _ rfl rfl rfl rfl rfl rfl (R5.h3 _ rfl).2 (KEEP.out _ hf.2.2.2.2) ?_ AllReadyH.nil
              refine wpAnyH_done (by kernel_rfl) ?_ _
              go_wp2_with fail
              go_meet
              exact ⟨_, _, _, _, _, _, _, rfl, hf.1, hf.2.1, hf.2.2.1, hf.2.2.2.1, hf.2.2.2.2⟩
        refine node_build0 24 55 2 14 Tryd.underlying24 (fun w => by kernel_rfl) rfl rfl rfl rfl (KEEP.out _ R2.a14.below) (fun hHeld => ?_) AllReadyH.nil
        · have R3 := R2.a14
          clear R2
          simp only [Act.put, List.setIfInBounds_toArray, List.set_cons_zero, List.set_cons_succ]
          refine wpAnyH_ready (rs := [8]) (by kernel_rfl) (by simp) ?_
          refine node_app 13 W.heap.size (.tmp 5) (.tmp 12) 23 53 _ 4 32 info53 rfl (by decide) Tryd.underlying23 _ km (mcells (o.moves.take 17)) _ rfl rfl rfl rfl rfl rfl (rd_below HRM.out (HB.out.trans (R3.below.mono HB.out.size))) (R3.h5 _ rfl).2 (R3.h5 _ rfl).1 (by omega) ?_ AllReadyH.nil
          · intro sa1 sn1 sc1 w1 ho1 hg1
            have R4 := R3.app13 hg1.out ho1.out
            refine ⟨KEEP.out _ R4.below, ?_⟩
            have hHeld := KEEP.out _ R4.below
            clear ho1 hg1
            clear R3
            simp only [Act.put, List.setIfInBounds_toArray, List.set_cons_zero, List.set_cons_succ]
            refine wpAnyH_ready (rs := [17]) (by kernel_rfl) (by simp) ?_
            refine node_app 22 W.heap.size (.tmp 14) (.tmp 21) 24 55 _ 2 16 info55 rfl (by decide) Tryd.underlying24 _ kj (jcells (o.jolts.take 5)) _ rfl rfl rfl rfl rfl rfl (rd_below HRJ.out (HB.out.trans (R4.below.mono HB.out.size))) (R4.h14 _ rfl).2 (R4.h14 _ rfl).1 (by omega) ?_ AllReadyH.nil
            · intro sa2 sn2 sc2 w2 ho2 hg2
              have R5 := R4.app22 hg2.out ho2.out
              refine ⟨KEEP.out _ R5.below, ?_⟩
              have hHeld := KEEP.out _ R5.below
              clear ho2 hg2
              clear R4
              simp only [Act.put, List.setIfInBounds_toArray, List.set_cons_zero, List.set_cons_succ]
              refine take_at (i := 18) 23 (v := .agg #[.slice none 0 0, .slice sa1 sn1 sc1, .slice sa2 sn2 sc2]) rfl (by kernel_rfl) (by kernel_rfl) (by kernel_rfl) rfl (fun _ _ _ h => h) (by rfl) (fun w hSw => ?_) hHeld ?_
              · (try dsimp only at hSw); go_simp
              simp only [Act.put, List.setIfInBounds_toArray, List.set_cons_zero, List.set_cons_succ]
              have hf := R5.fin
              refine wpAnyH_ready (rs := [20]) (by kernel_rfl) (by simp) ?_
              refine node_store26 3 23 _ _ _ _ _ _ _ _ _ _ _ _ _ rfl rfl rfl rfl rfl rfl (R5.h3 _ rfl).2 (KEEP.out _ hf.2.2.2.2) ?_ AllReadyH.nil
              refine wpAnyH_done (by kernel_rfl) ?_ _
              go_wp2_with fail
              go_meet
              exact ⟨_, _, _, _, _, _, _, rfl, hf.1, hf.2.1, hf.2.2.1, hf.2.2.2.1, hf.2.2.2.2⟩
    refine node_build0 24 55 2 14 Tryd.underlying24 (fun w => by kernel_rfl) rfl rfl rfl rfl (KEEP.out _ R0.a14.below) (fun hHeld => ?_) ?_
    · have R1 := R0.a14
      clear R0
      simp only [Act.put, List.setIfInBounds_toArray, List.set_cons_zero, List.set_cons_succ]
      refine wpAnyH_ready (rs := [0, 19]) (by kernel_rfl) (by simp) ?_
      refine node_build0 23 53 4 5 Tryd.underlying23 (fun w => by kernel_rfl) rfl rfl rfl rfl (KEEP.out _ R1.a5.below) (fun hHeld => ?_) ?_
      · have R2 := R1.a5
        clear R1
        simp only [Act.put, List.setIfInBounds_toArray, List.set_cons_zero, List.set_cons_succ]
        refine wpAnyH_ready (rs := [8, 19]) (by kernel_rfl) (by simp) ?_
        refine node_app 13 W.heap.size (.tmp 5) (.tmp 12) 23 53 _ 4 32 info53 rfl (by decide) Tryd.underlying23 _ km (mcells (o.moves.take 17)) _ rfl rfl rfl rfl rfl rfl (rd_below HRM.out (HB.out.trans (R2.below.mono HB.out.size))) (R2.h5 _ rfl).2 (R2.h5 _ rfl).1 (by omega) ?_ ?_
        · intro sa1 sn1 sc1 w1 ho1 hg1
          have R3 := R2.app13 hg1.out ho1.out
          refine ⟨KEEP.out _ R3.below, ?_⟩
          have hHeld := KEEP.out _ R3.below
          clear ho1 hg1
          clear R2
          simp only [Act.put, List.setIfInBounds_toArray, List.set_cons_zero, List.set_cons_succ]
          refine wpAnyH_ready (rs := [17, 19]) (by kernel_rfl) (by simp) ?_
          refine node_app 22 W.heap.size (.tmp 14) (.tmp 21) 24 55 _ 2 16 info55 rfl (by decide) Tryd.underlying24 _ kj (jcells (o.jolts.take 5)) _ rfl rfl rfl rfl rfl rfl (rd_below HRJ.out (HB.out.trans (R3.below.mono HB.out.size))) (R3.h14 _ rfl).2 (R3.h14 _ rfl).1 (by omega) ?_ ?_
          · intro sa2 sn2 sc2 w2 ho2 hg2
            have R4 := R3.app22 hg2.out ho2.out
            refine ⟨KEEP.out _ R4.below, ?_⟩
            have hHeld := KEEP.out _ R4.below
            clear ho2 hg2
            clear R3
            simp only [Act.put, List.setIfInBounds_toArray, List.set_cons_zero, List.set_cons_succ]
            refine take_at (i := 18) 23 (v := .agg #[.slice none 0 0, .slice sa1 sn1 sc1, .slice sa2 sn2 sc2]) rfl (by kernel_rfl) (by kernel_rfl) (by kernel_rfl) rfl (fun _ _ _ h => h) (by rfl) (fun w hSw => ?_) hHeld ?_
            · (try dsimp only at hSw); go_simp
            simp only [Act.put, List.setIfInBounds_toArray, List.set_cons_zero, List.set_cons_succ]
            refine wpAnyH_ready (rs := [19]) (by kernel_rfl) (by simp) ?_
            refine node_alloc26 3 rfl rfl rfl rfl (KEEP.out _ R4.a3.below) (fun hHeld => ?_) AllReadyH.nil
            · have R5 := R4.a3
              clear R4
              simp only [Act.put, List.setIfInBounds_toArray, List.set_cons_zero, List.set_cons_succ]
              have hf := R5.fin
              refine wpAnyH_ready (rs := [20]) (by kernel_rfl) (by simp) ?_
              refine node_store26 3 23 _ _ _ _ _ _ _ _ _ _ _ _ _ rfl rfl rfl rfl rfl rfl (R5.h3 _ rfl).2 (KEEP.out _ hf.2.2.2.2) ?_ AllReadyH.nil
              refine wpAnyH_done (by kernel_rfl) ?_ _
              go_wp2_with fail
              go_meet
              exact ⟨_, _, _, _, _, _, _, rfl, hf.1, hf.2.1, hf.2.2.1, hf.2.2.2.1, hf.2.2.2.2⟩
          refine node_alloc26 3 rfl rfl rfl rfl (KEEP.out _ R3.a3.below) (fun hHeld => ?_) AllReadyH.nil
          · have R4 := R3.a3
            clear R3
            simp only [Act.put, List.setIfInBounds_toArray, List.set_cons_zero, List.set_cons_succ]
            refine wpAnyH_ready (rs := [17]) (by kernel_rfl) (by simp) ?_
            refine node_app 22 W.heap.size (.tmp 14) (.tmp 21) 24 55 _ 2 16 info55 rfl (by decide) Tryd.underlying24 _ kj (jcells (o.jolts.take 5)) _ rfl rfl rfl rfl rfl rfl (rd_below HRJ.out (HB.out.trans (R4.below.mono HB.out.size))) (R4.h14 _ rfl).2 (R4.h14 _ rfl).1 (by omega) ?_ AllReadyH.nil
            · intro sa2 sn2 sc2 w2 ho2 hg2
              have R5 := R4.app22 hg2.out ho2.out
              refine ⟨KEEP.out _ R5.below, ?_⟩
              have hHeld := KEEP.out _ R5.below
              clear ho2 hg2
              clear R4
              simp only [Act.put, List.setIfInBounds_toArray, List.set_cons_zero, List.set_cons_succ]
              refine take_at (i := 18) 23 (v := .agg #[.slice none 0 0, .slice sa1 sn1 sc1, .slice sa2 sn2 sc2]) rfl (by kernel_rfl) (by kernel_rfl) (by kernel_rfl) rfl (fun _ _ _ h => h) (by rfl) (fun w hSw => ?_) hHeld ?_
              · (try dsimp only at hSw); go_simp
              simp only [Act.put, List.setIfInBounds_toArray, List.set_cons_zero, List.set_cons_succ]
              have hf := R5.fin
              refine wpAnyH_ready (rs := [20]) (by kernel_rfl) (by simp) ?_
              refine node_store26 3 23 _ _ _ _ _ _ _ _ _ _ _ _ _ rfl rfl rfl rfl rfl rfl (R5.h3 _ rfl).2 (KEEP.out _ hf.2.2.2.2) ?_ AllReadyH.nil
              refine wpAnyH_done (by kernel_rfl) ?_ _
              go_wp2_with fail
              go_meet
              exact ⟨_, _, _, _, _, _, _, rfl, hf.1, hf.2.1, hf.2.2.1, hf.2.2.2.1, hf.2.2.2.2⟩
        refine node_alloc26 3 rfl rfl rfl rfl (KEEP.out _ R2.a3.below) (fun hHeld => ?_) AllReadyH.nil
        · have R3 := R2.a3
          clear R2
          simp only [Act.put, List.setIfInBounds_toArray, List.set_cons_zero, List.set_cons_succ]
          refine wpAnyH_ready (rs := [8]) (by kernel_rfl) (by simp) ?_
          refine node_app 13 W.heap.size (.tmp 5) (.tmp 12) 23 53 _ 4 32 info53 rfl (by decide) Tryd.underlying23 _ km (mcells (o.moves.take 17)) _ rfl rfl rfl rfl rfl rfl (rd_below HRM.out (HB.out.trans (R3.below.mono HB.out.size))) (R3.h5 _ rfl).2 (R3.h5 _ rfl).1 (by omega) ?_ AllReadyH.nil
          · intro sa1 sn1 sc1 w1 ho1 hg1
            have R4 := R3.app13 hg1.out ho1.out
            refine ⟨KEEP.out _ R4.below, ?_⟩
            have hHeld := KEEP.out _ R4.below
            clear ho1 hg1
            clear R3
            simp only [Act.put, List.setIfInBounds_toArray, List.set_cons_zero, List.set_cons_succ]
            refine wpAnyH_ready (rs := [17]) (by kernel_rfl) (by simp) ?_
            refine node_app 22 W.heap.size (.tmp 14) (.tmp 21) 24 55 _ 2 16 info55 rfl (by decide) Tryd.underlying24 _ kj (jcells (o.jolts.take 5)) _ rfl rfl rfl rfl rfl rfl (rd_below HRJ.out (HB.out.trans (R4.below.mono HB.out.size))) (R4.h14 _ rfl).2 (R4.h14 _ rfl).1 (by omega) ?_ AllReadyH.nil
            · intro sa2 sn2 sc2 w2 ho2 hg2
              have R5 := R4.app22 hg2.out ho2.out
              refine ⟨KEEP.out _ R5.below, ?_⟩
              have hHeld := KEEP.out _ R5.below
              clear ho2 hg2
              clear R4
              simp only [Act.put, List.setIfInBounds_toArray, List.set_cons_zero, List.set_cons_succ]
              refine take_at (i := 18) 23 (v := .agg #[.slice none 0 0, .slice sa1 sn1 sc1, .slice sa2 sn2 sc2]) rfl (by kernel_rfl) (by kernel_rfl) (by kernel_rfl) rfl (fun _ _ _ h => h) (by rfl) (fun w hSw => ?_) hHeld ?_
              · (try dsimp only at hSw); go_simp
              simp only [Act.put, List.setIfInBounds_toArray, List.set_cons_zero, List.set_cons_succ]
              have hf := R5.fin
              refine wpAnyH_ready (rs := [20]) (by kernel_rfl) (by simp) ?_
              refine node_store26 3 23 _ _ _ _ _ _ _ _ _ _ _ _ _ rfl rfl rfl rfl rfl rfl (R5.h3 _ rfl).2 (KEEP.out _ hf.2.2.2.2) ?_ AllReadyH.nil
              refine wpAnyH_done (by kernel_rfl) ?_ _
              go_wp2_with fail
              go_meet
              exact ⟨_, _, _, _, _, _, _, rfl, hf.1, hf.2.1, hf.2.2.1, hf.2.2.2.1, hf.2.2.2.2⟩
      refine node_alloc26 3 rfl rfl rfl rfl (KEEP.out _ R1.a3.below) (fun hHeld => ?_) AllReadyH.nil
      · have R2 := R1.a3
        clear R1
        simp only [Act.put, List.setIfInBounds_toArray, List.set_cons_zero, List.set_cons_succ]
        refine wpAnyH_ready (rs := [0]) (by kernel_rfl) (by simp) ?_
        refine node_build0 23 53 4 5 Tryd.underlying23 (fun w => by kernel_rfl) rfl rfl rfl rfl (KEEP.out _ R2.a5.below) (fun hHeld => ?_) AllReadyH.nil
        · have R3 := R2.a5
          clear R2
          simp only [Act.put, List.setIfInBounds_toArray, List.set_cons_zero, List.set_cons_succ]
          refine wpAnyH_ready (rs := [8]) (by kernel_rfl) (by simp) ?_
          refine node_app 13 W.heap.size (.tmp 5) (.tmp 12) 23 53 _ 4 32 info53 rfl (by decide) Tryd.underlying23 _ km (mcells (o.moves.take 17)) _ rfl rfl rfl rfl rfl rfl (rd_below HRM.out (HB.out.trans (R3.below.mono HB.out.size))) (R3.h5 _ rfl).2 (R3.h5 _ rfl).1 (by omega) ?_ AllReadyH.nil
          · intro sa1 sn1 sc1 w1 ho1 hg1
            have R4 := R3.app13 hg1.out ho1.out
            refine ⟨KEEP.out _ R4.below, ?_⟩
            have hHeld := KEEP.out _ R4.below
            clear ho1 hg1
            clear R3
            simp only [Act.put, List.setIfInBounds_toArray, List.set_cons_zero, List.set_cons_succ]
            refine wpAnyH_ready (rs := [17]) (by kernel_rfl) (by simp) ?_
            refine node_app 22 W.heap.size (.tmp 14) (.tmp 21) 24 55 _ 2 16 info55 rfl (by decide) Tryd.underlying24 _ kj (jcells (o.jolts.take 5)) _ rfl rfl rfl rfl rfl rfl (rd_below HRJ.out (HB.out.trans (R4.below.mono HB.out.size))) (R4.h14 _ rfl).2 (R4.h14 _ rfl).1 (by omega) ?_ AllReadyH.nil
            · intro sa2 sn2 sc2 w2 ho2 hg2
              have R5 := R4.app22 hg2.out ho2.out
              refine ⟨KEEP.out _ R5.below, ?_⟩
              have hHeld := KEEP.out _ R5.below
              clear ho2 hg2
              clear R4
              simp only [Act.put, List.setIfInBounds_toArray, List.set_cons_zero, List.set_cons_succ]
              refine take_at (i := 18) 23 (v := .agg #[.slice none 0 0, .slice sa1 sn1 sc1, .slice sa2 sn2 sc2]) rfl (by kernel_rfl) (by kernel_rfl) (by kernel_rfl) rfl (fun _ _ _ h => h) (by rfl) (fun w hSw => ?_) hHeld ?_
              · (try dsimp only at hSw); go_simp
              simp only [Act.put, List.setIfInBounds_toArray, List.set_cons_zero, List.set_cons_succ]
              have hf := R5.fin
              refine wpAnyH_ready (rs := [20]) (by kernel_rfl) (by simp) ?_
              refine node_store26 3 23 _ _ _ _ _ _ _ _ _ _ _ _ _ rfl rfl rfl rfl rfl rfl (R5.h3 _ rfl).2 (KEEP.out _ hf.2.2.2.2) ?_ AllReadyH.nil
              refine wpAnyH_done (by kernel_rfl) ?_ _
              go_wp2_with fail
              go_meet
              exact ⟨_, _, _, _, _, _, _, rfl, hf.1, hf.2.1, hf.2.2.1, hf.2.2.2.1, hf.2.2.2.2⟩
    refine node_alloc26 3 rfl rfl rfl rfl (KEEP.out _ R0.a3.below) (fun hHeld => ?_) AllReadyH.nil
    · have R1 := R0.a3
      clear R0
      simp only [Act.put, List.setIfInBounds_toArray, List.set_cons_zero, List.set_cons_succ]
      refine wpAnyH_ready (rs := [0, 9]) (by kernel_rfl) (by simp) ?_
      refine node_build0 23 53 4 5 Tryd.underlying23 (fun w => by kernel_rfl) rfl rfl rfl rfl (KEEP.out _ R1.a5.below) (fun hHeld => ?_) ?_
      · have R2 := R1.a5
        clear R1
        simp only [Act.put, List.setIfInBounds_toArray, List.set_cons_zero, List.set_cons_succ]
        refine wpAnyH_ready (rs := [8, 9]) (by kernel_rfl) (by simp) ?_
        refine node_app 13 W.heap.size (.tmp 5) (.tmp 12) 23 53 _ 4 32 info53 rfl (by decide) Tryd.underlying23 _ km (mcells (o.moves.take 17)) _ rfl rfl rfl rfl rfl rfl (rd_below HRM.out (HB.out.trans (R2.below.mono HB.out.size))) (R2.h5 _ rfl).2 (R2.h5 _ rfl).1 (by omega) ?_ ?_
        · intro sa1 sn1 sc1 w1 ho1 hg1
          have R3 := R2.app13 hg1.out ho1.out
          refine ⟨KEEP.out _ R3.below, ?_⟩
          have hHeld := KEEP.out _ R3.below
          clear ho1 hg1
          clear R2
          simp only [Act.put, List.setIfInBounds_toArray, List.set_cons_zero, List.set_cons_succ]
          refine wpAnyH_ready (rs := [9]) (by kernel_rfl) (by simp) ?_
          refine node_build0 24 55 2 14 Tryd.underlying24 (fun w => by kernel_rfl) rfl rfl rfl rfl (KEEP.out _ R3.a14.below) (fun hHeld => ?_) AllReadyH.nil
          · have R4 := R3.a14
            clear R3
            simp only [Act.put, List.setIfInBounds_toArray, List.set_cons_zero, List.set_cons_succ]
            refine wpAnyH_ready (rs := [17]) (by kernel_rfl) (by simp) ?_
            refine node_app 22 W.heap.size (.tmp 14) (.tmp 21) 24 55 _ 2 16 info55 rfl (by decide) Tryd.underlying24 _ kj (jcells (o.jolts.take 5)) _ rfl rfl rfl rfl rfl rfl (rd_below HRJ.out (HB.out.trans (R4.below.mono HB.out.size))) (R4.h14 _ rfl).2 (R4.h14 _ rfl).1 (by omega) ?_ AllReadyH.nil
            · intro sa2 sn2 sc2 w2 ho2 hg2
              have R5 := R4.app22 hg2.out ho2.out
              refine ⟨KEEP.out _ R5.below, ?_⟩
              have hHeld := KEEP.out _ R5.below
              clear ho2 hg2
              clear R4
              simp only [Act.put, List.setIfInBounds_toArray, List.set_cons_zero, List.set_cons_succ]
              refine take_at (i := 18) 23 (v := .agg #[.slice none 0 0, .slice sa1 sn1 sc1, .slice sa2 sn2 sc2]) rfl (by kernel_rfl) (by kernel_rfl) (by kernel_rfl) rfl (fun _ _ _ h => h) (by rfl) (fun w hSw => ?_) hHeld ?_
              · (try dsimp only at hSw); go_simp
              simp only [Act.put, List.setIfInBounds_toArray, List.set_cons_zero, List.set_cons_succ]
              have hf := R5.fin
              refine wpAnyH_ready (rs := [20]) (by kernel_rfl) (by simp) ?_
              refine node_store26 3 23 _ _ _ _ _ _ _ _ _ _ _ _ _ rfl rfl rfl rfl rfl rfl (R5.h3 _ rfl).2 (KEEP.out _ hf.2.2.2.2) ?_ AllReadyH.nil
              refine wpAnyH_done (by kernel_rfl) ?_ _
              go_wp2_with fail
              go_meet
              exact ⟨_, _, _, _, _, _, _, rfl, hf.1, hf.2.1, hf.2.2.1, hf.2.2.2.1, hf.2.2.2.2⟩
        refine node_build0 24 55 2 14 Tryd.underlying24 (fun w => by kernel_rfl) rfl rfl rfl rfl (KEEP.out _ R2.a14.below) (fun hHeld => ?_) AllReadyH.nil
        · have R3 := R2.a14
          clear R2
          simp only [Act.put, List.setIfInBounds_toArray, List.set_cons_zero, List.set_cons_succ]
          refine wpAnyH_ready (rs := [8]) (by kernel_rfl) (by simp) ?_
          refine node_app 13 W.heap.size (.tmp 5) (.tmp 12) 23 53 _ 4 32 info53 rfl (by decide) Tryd.underlying23 _ km (mcells (o.moves.take 17)) _ rfl rfl rfl rfl rfl rfl (rd_below HRM.out (HB.out.trans (R3.below.mono HB.out.size))) (R3.h5 _ rfl).2 (R3.h5 _ rfl).1 (by omega) ?_ AllReadyH.nil
          · intro sa1 sn1 sc1 w1 ho1 hg1
            have R4 := R3.app13 hg1.out ho1.out
            refine ⟨KEEP.out _ R4.below, ?_⟩
            have hHeld := KEEP.out _ R4.below
            clear ho1 hg1
            clear R3
            simp only [Act.put, List.setIfInBounds_toArray, List.set_cons_zero, List.set_cons_succ]
            refine wpAnyH_ready (rs := [17]) (by kernel_rfl) (by simp) ?_
            refine node_app 22 W.heap.size (.tmp 14) (.tmp 21) 24 55 _ 2 16 info55 rfl (by decide) Tryd.underlying24 _ kj (jcells (o.jolts.take 5)) _ rfl rfl rfl rfl rfl rfl (rd_below HRJ.out (HB.out.trans (R4.below.mono HB.out.size))) (R4.h14 _ rfl).2 (R4.h14 _ rfl).1 (by omega) ?_ AllReadyH.nil
            · intro sa2 sn2 sc2 w2 ho2 hg2
              have R5 := R4.app22 hg2.out ho2.out
              refine ⟨KEEP.out _ R5.below, ?_⟩
              have hHeld := KEEP.out _ R5.below
              clear ho2 hg2
              clear R4
              simp only [Act.put, List.setIfInBounds_toArray, List.set_cons_zero, List.set_cons_succ]
              refine take_at (i := 18) 23 (v := .agg #[.slice none 0 0, .slice sa1 sn1 sc1, .slice sa2 sn2 sc2]) rfl (by kernel_rfl) (by kernel_rfl) (by kernel_rfl) rfl (fun _ _ _ h => h) (by rfl) (fun w hSw => ?_) hHeld ?_
              · (try dsimp only at hSw); go_simp
              simp only [Act.put, List.setIfInBounds_toArray, List.set_cons_zero, List.set_cons_succ]
              have hf := R5.fin
              refine wpAnyH_ready (rs := [20]) (by kernel_rfl) (by simp) ?_
              refine node_store26 3 23 _ _ _ _ _ _ _ _ _ _ _ _ _ rfl rfl rfl rfl rfl rfl (R5.h3 _ rfl).2 (KEEP.out _ hf.2.2.2.2) ?_ AllReadyH.nil
              refine wpAnyH_done (by kernel_rfl) ?_ _
              go_wp2_with fail
              go_meet
              exact ⟨_, _, _, _, _, _, _, rfl, hf.1, hf.2.1, hf.2.2.1, hf.2.2.2.1, hf.2.2.2.2⟩
      refine node_build0 24 55 2 14 Tryd.underlying24 (fun w => by kernel_rfl) rfl rfl rfl rfl (KEEP.out _ R1.a14.below) (fun hHeld => ?_) AllReadyH.nil
      · have R2 := R1.a14
        clear R1
        simp only [Act.put, List.setIfInBounds_toArray, List.set_cons_zero, List.set_cons_succ]
        refine wpAnyH_ready (rs := [0]) (by kernel_rfl) (by simp) ?_
        refine node_build0 23 53 4 5 Tryd.underlying23 (fun w => by kernel_rfl) rfl rfl rfl rfl (KEEP.out _ R2.a5.below) (fun hHeld => ?_) AllReadyH.nil
        · have R3 := R2.a5
          clear R2
          simp only [Act.put, List.setIfInBounds_toArray, List.set_cons_zero, List.set_cons_succ]
          refine wpAnyH_ready (rs := [8]) (by kernel_rfl) (by simp) ?_
          refine node_app 13 W.heap.size (.tmp 5) (.tmp 12) 23 53 _ 4 32 info53 rfl (by decide) Tryd.underlying23 _ km (mcells (o.moves.take 17)) _ rfl rfl rfl rfl rfl rfl (rd_below HRM.out (HB.out.trans (R3.below.mono HB.out.size))) (R3.h5 _ rfl).2 (R3.h5 _ rfl).1 (by omega) ?_ AllReadyH.nil
          · intro sa1 sn1 sc1 w1 ho1 hg1
            have R4 := R3.app13 hg1.out ho1.out
            refine ⟨KEEP.out _ R4.below, ?_⟩
            have hHeld := KEEP.out _ R4.below
            clear ho1 hg1
            clear R3
            simp only [Act.put, List.setIfInBounds_toArray, List.set_cons_zero, List.set_cons_succ]
            refine wpAnyH_ready (rs := [17]) (by kernel_rfl) (by simp) ?_
            refine node_app 22 W.heap.size (.tmp 14) (.tmp 21) 24 55 _ 2 16 info55 rfl (by decide) Tryd.underlying24 _ kj (jcells (o.jolts.take 5)) _ rfl rfl rfl rfl rfl rfl (rd_below HRJ.out (HB.out.trans (R4.below.mono HB.out.size))) (R4.h14 _ rfl).2 (R4.h14 _ rfl).1 (by omega) ?_ AllReadyH.nil
            · intro sa2 sn2 sc2 w2 ho2 hg2
              have R5 := R4.app22 hg2.out ho2.out
              refine ⟨KEEP.out _ R5.below, ?_⟩
              have hHeld := KEEP.out _ R5.below
              clear ho2 hg2
              clear R4
              simp only [Act.put, List.setIfInBounds_toArray, List.set_cons_zero, List.set_cons_succ]
              refine take_at (i := 18) 23 (v := .agg #[.slice none 0 0, .slice sa1 sn1 sc1, .slice sa2 sn2 sc2]) rfl (by kernel_rfl) (by kernel_rfl) (by kernel_rfl) rfl (fun _ _ _ h => h) (by rfl) (fun w hSw => ?_) hHeld ?_
              · (try dsimp only at hSw); go_simp
              simp only [Act.put, List.setIfInBounds_toArray, List.set_cons_zero, List.set_cons_succ]
              have hf := R5.fin
              refine wpAnyH_ready (rs := [20]) (by kernel_rfl) (by simp) ?_
              refine node_store26 3 23 _ _ _ _ _ _ _ _ _ _ _ _ _ rfl rfl rfl rfl rfl rfl (R5.h3 _ rfl).2 (KEEP.out _ hf.2.2.2.2) ?_ AllReadyH.nil
              refine wpAnyH_done (by kernel_rfl) ?_ _
              go_wp2_with fail
              go_meet
              exact ⟨_, _, _, _, _, _, _, rfl, hf.1, hf.2.1, hf.2.2.1, hf.2.2.2.1, hf.2.2.2.2⟩
  case rest =>
    obtain ⟨bx, a1, n1, c1, a2, n2, c2, rfl, hbB, hbx, HMV, HJL, HBc⟩ := hcut
    have CT0 : Hid (Cut W.heap.size bx (.slice none 0 0) (.slice a1 n1 c1) (.slice a2 n2 c2) [] (o.moves.take 17) (o.jolts.take 5) wc) := by
      refine ⟨hbB, hbx, ownG_nil _ _, ?_, ?_⟩
      · rw [List.length_take, Nat.min_comm, ← HKM.out]; exact HMV.out
      · rw [List.length_take, Nat.min_comm, ← HKJ.out]; exact HJL.out
    obtain ⟨T, hT⟩ : ∃ T, T = min P 5 := ⟨_, rfl⟩
    clear hbx HMV HJL KEEP hsl1 hsl2
    have hlw : w.heap.size + 1 < W.heap.size := by have := HZ.out; omega
    have hbne : w.heap.size ≠ bx := by omega
    have hbne1 : w.heap.size + 1 ≠ bx := by omega
    go_wp2_with fail
    go_loopw [4] (fun iv wr => ∃ (i n : Nat) (a : Option Addr) (c : Nat), iv = .int .i64 i ∧ i ≤ T ∧ Hid (Cut W.heap.size bx (.slice a n c) (.slice a1 n1 c1) (.slice a2 n2 c2) ((o.safe.take i).map cutStrs) (o.moves.take 17) (o.jolts.take 5) wr) ∧ Hid (Below W.heap.size W wr)) (fun iv _ => T - (intOf iv).toNat)
    case atStart => exact ⟨0, 0, _, 0, rfl, Nat.zero_le _, CT0, HBc⟩
    case round =>
      obtain ⟨i, n, a, c, rfl, hi, CT, HRW⟩ := hrel
      have x0 := (HRW.out.cell (p := ⟨w.heap.size, 0, none⟩) (by show w.heap.size < _; omega)).trans HX0.out
      obtain ⟨b1, b2, b3⟩ := cells3_of CT.out.box
      obtain ⟨f1, f2, f3⟩ := free3_of CT.out.box
      have hbl := CT.out.lt
      have hzr := HRW.out.size
      by_cases hlt : i < T
      · have hiP : i < P := by omega
        have hi5 : i < 5 := by omega
        obtain ⟨ad, u, rfl, hadb, hcell, hst⟩ := HSC.out i (by rw [← HP.out]; exact hiP)
        obtain ⟨ua, uc, rfl, _, _⟩ := id hst
        obtain ⟨un, hun⟩ : ∃ un, un = (o.safe.getD i []).length := ⟨_, rfl⟩
        rw [← hun] at hcell hst
        have HAS := hid hst
        have hadw : ad.block < W.heap.size := by omega
        have e0 := HB.out.cell (p := ad.add i) (by rw [add_block]; exact hadb)
        have EW := hid (e0.trans hcell)
        have e1 := (HRW.out.cell (p := ad.add i) (by rw [add_block]; exact hadw)).trans EW.out
        have HLN : Hid ((((o.safe.take i).map cutStrs)).length < 1000000) := by show _ < _; simp; omega
        have HLX : Hid (((o.safe.take i).map cutStrs) ++ [cutStrs (o.safe.getD i [])] = (o.safe.take (i + 1)).map cutStrs) := by
          have hip : i < o.safe.length := by rw [← HP.out]; exact hiP
          show _ = _
          rw [List.take_succ_eq_append_getElem hip, List.map_append, List.getD_eq_getElem?_getD, List.getElem?_eq_getElem hip]; rfl
        have KEEP : Hid (∀ w', Below W.heap.size W w' → w'.cell? ⟨w.heap.size, 0, none⟩ = some (.slice (some ad) P cs) ∧ w'.cell? (ad.add i) = some (.slice ua un uc) ∧ Hid (Below W.heap.size W w')) := fun w' hb => ⟨(hb.cell (p := ⟨_, 0, none⟩) (by show w.heap.size < _; omega)).trans HX0.out, (hb.cell (p := ad.add i) (by rw [add_block]; exact hadw)).trans EW.out, hb⟩
        clear hun hcell hst e0
        go_upto_region 5 with fail
        refine wp_region_held_drew (S := fun w' => w'.cell? ⟨w.heap.size, 0, none⟩ = some (.slice (some ad) P cs) ∧ w'.cell? (ad.add i) = some (.slice ua un uc) ∧ Hid (Below W.heap.size W w')) (by kernel_rfl) (KEEP.out _ HRW.out.drew) (fun hHeld => ?_)
        refine take_at (i := 0) 35 (v := .pointer (some ⟨bx, 0, none⟩)) rfl (by kernel_rfl) (by kernel_rfl) (by kernel_rfl) rfl (fun _ _ _ h => h) (by rfl) (fun w hSw => ?_) hHeld ?_
        · (try dsimp only at hSw); go_simp
        simp only [Act.put, List.setIfInBounds_toArray, List.set_cons_zero, List.set_cons_succ]
        refine take_at (i := 2) 37 (v := .pointer (some ⟨w.heap.size, 0, none⟩)) rfl (by kernel_rfl) (by kernel_rfl) (by kernel_rfl) rfl (fun _ _ _ h => h) (by rfl) (fun w hSw => ?_) hHeld ?_
        · (try dsimp only at hSw); go_simp
        simp only [Act.put, List.setIfInBounds_toArray, List.set_cons_zero, List.set_cons_succ]
        refine take_at (i := 3) 38 (v := .slice (some ad) P cs) rfl (by kernel_rfl) (by kernel_rfl) (by kernel_rfl) rfl (fun _ _ _ h => h) (by rfl) (fun w hSw => ?_) hHeld ?_
        · (try dsimp only at hSw); go_simp
        simp only [Act.put, List.setIfInBounds_toArray, List.set_cons_zero, List.set_cons_succ]
        refine take_at (i := 4) 39 (v := .int .i64 i) rfl (by kernel_rfl) (by kernel_rfl) (by kernel_rfl) rfl (fun _ _ _ h => h) (by rfl) (fun w hSw => ?_) hHeld ?_
        · (try dsimp only at hSw); go_simp
        simp only [Act.put, List.setIfInBounds_toArray, List.set_cons_zero, List.set_cons_succ]
        refine take_at (i := 5) 40 (v := .pointer (some (ad.add i))) rfl (by kernel_rfl) (by kernel_rfl) (by kernel_rfl) rfl (fun _ _ _ h => h) (by rfl) (fun w hSw => ?_) hHeld ?_
        · (try dsimp only at hSw); go_simp
        simp only [Act.put, List.setIfInBounds_toArray, List.set_cons_zero, List.set_cons_succ]
        refine take_at (i := 6) 41 (v := .slice ua un uc) rfl (by kernel_rfl) (by kernel_rfl) (by kernel_rfl) rfl (fun _ _ _ h => h) (by rfl) (fun w hSw => ?_) hHeld ?_
        · (try dsimp only at hSw); go_simp
        simp only [Act.put, List.setIfInBounds_toArray, List.set_cons_zero, List.set_cons_succ]
        have CTx := CT.out.below (w' := wr.drew) ((Below.refl _ _).drew)
        have HBx := HRW.out.drew
        clear hHeld
        refine wpAnyH_ready (rs := [1, 7]) (by kernel_rfl) (by simp) ?_
        refine node_load22 36 35 _ _ rfl rfl rfl rfl rfl (cells3_of CTx.box).1 (KEEP.out _ HBx) ?_ ?_
        · simp only [Act.put, List.setIfInBounds_toArray, List.set_cons_zero, List.set_cons_succ]
          refine wpAnyH_ready (rs := [7]) (by kernel_rfl) (by simp) ?_
          refine node_call43 42 41 _ rfl rfl rfl rfl rfl ((strings_any (.slice ua un uc) (o.safe.getD i []) _ (argStrs_below HAS.out (HB.out.trans (HBx.mono HB.out.size)))).mono ?_) AllReadyH.nil
          · rintro e w7 ⟨v7, rfl, ht7, hb7⟩
            obtain ⟨q1, q2, q3, rfl⟩ := ownT_slice' ht7
            have CTx := CTx.below hb7
            have HTx := ownT_mono ht7 HBx.size
            have HBx := HBx.trans (hb7.mono HBx.size)
            refine ⟨_, rfl, KEEP.out _ HBx, ?_⟩
            clear ht7 hb7
            simp only [Act.put, List.setIfInBounds_toArray, List.set_cons_zero, List.set_cons_succ]
            refine wpAnyH_ready (rs := [8]) (by kernel_rfl) (by simp) ?_
            refine node_build1 43 42 _ _ _ rfl rfl rfl rfl rfl (KEEP.out _ (HBx.alloc HBx.size _)) (fun hHeld => ?_) AllReadyH.nil
            · have hbl := (Below.refl w7.heap.size w7).alloc (Nat.le_refl _) (.cells #[.slice q1 q2 q3] 71)
              have CTx := CTx.below hbl
              have HTx := ownT_below HTx hbl
              have hzx := heap_alloc_new w7 (.cells #[.slice q1 q2 q3] 71)
              have HBx := HBx.alloc HBx.size (.cells #[.slice q1 q2 q3] 71)
              clear hbl
              simp only [Act.put, List.setIfInBounds_toArray, List.set_cons_zero, List.set_cons_succ]
              refine wpAnyH_ready (rs := [9]) (by kernel_rfl) (by simp) ?_
              refine node_app_row 44 (.tmp 36) (.tmp 43) (.slice a n c) W.heap.size ((o.safe.take i).map cutStrs) _ _ (cutStrs (o.safe.getD i [])) rfl rfl rfl rfl rfl rfl hzx CTx.g HTx HLN.out HBx.size ?_ AllReadyH.nil
              · intro sa sn sc w9 ho9 hg9
                have hc9 := Cut.step CTx hg9 ho9
                rw [HLX.out] at hc9
                have box9 := (Cut.grid CTx hg9).1
                have HB9 := HBx.grown hg9 HBx.size (fun k hk => (ownG_lt CTx.g k hk).1)
                refine ⟨KEEP.out _ HB9, ?_⟩
                clear ho9 hg9
                simp only [Act.put, List.setIfInBounds_toArray, List.set_cons_zero, List.set_cons_succ]
                have hHeld := KEEP.out _ HB9
                refine take_at (i := 10) 45 (v := .pointer (some ⟨bx, 0, none⟩)) rfl (by kernel_rfl) (by kernel_rfl) (by kernel_rfl) rfl (fun _ _ _ h => h) (by rfl) (fun w hSw => ?_) hHeld ?_
                · (try dsimp only at hSw); go_simp
                simp only [Act.put, List.setIfInBounds_toArray, List.set_cons_zero, List.set_cons_succ]
                refine wpAnyH_ready (rs := [11]) (by kernel_rfl) (by simp) ?_
                refine node_store22 45 44 _ _ _ _ _ _ _ rfl rfl rfl rfl rfl rfl box9 (KEEP.out _ (HB9.setCell (p := ⟨bx, 0, none⟩) hbB _)) ?_ AllReadyH.nil
                refine wpAnyH_done (by kernel_rfl) ?_ _
                have HC9 := hid hc9
                have HBN := hid (HB9.setCell (p := ⟨bx, 0, none⟩) hbB (.slice sa sn sc))
                clear hc9 box9 HB9 CTx HBx HTx hzx
                go_wp2_with fail
                go_roundw
                case rel => exact ⟨i + 1, sn, sa, sc, by go_num, by omega, HC9, HBN⟩
                case measure => simp [intOf]; omega
        refine node_call43 42 41 _ rfl rfl rfl rfl rfl ((strings_any (.slice ua un uc) (o.safe.getD i []) _ (argStrs_below HAS.out (HB.out.trans (HBx.mono HB.out.size)))).mono ?_) AllReadyH.nil
        · rintro e w7 ⟨v7, rfl, ht7, hb7⟩
          obtain ⟨q1, q2, q3, rfl⟩ := ownT_slice' ht7
          have CTx := CTx.below hb7
          have HTx := ownT_mono ht7 HBx.size
          have HBx := HBx.trans (hb7.mono HBx.size)
          refine ⟨_, rfl, KEEP.out _ HBx, ?_⟩
          clear ht7 hb7
          simp only [Act.put, List.setIfInBounds_toArray, List.set_cons_zero, List.set_cons_succ]
          refine wpAnyH_ready (rs := [1, 8]) (by kernel_rfl) (by simp) ?_
          refine node_load22 36 35 _ _ rfl rfl rfl rfl rfl (cells3_of CTx.box).1 (KEEP.out _ HBx) ?_ ?_
          · simp only [Act.put, List.setIfInBounds_toArray, List.set_cons_zero, List.set_cons_succ]
            refine wpAnyH_ready (rs := [8]) (by kernel_rfl) (by simp) ?_
            refine node_build1 43 42 _ _ _ rfl rfl rfl rfl rfl (KEEP.out _ (HBx.alloc HBx.size _)) (fun hHeld => ?_) AllReadyH.nil
            · have hbl := (Below.refl w7.heap.size w7).alloc (Nat.le_refl _) (.cells #[.slice q1 q2 q3] 71)
              have CTx := CTx.below hbl
              have HTx := ownT_below HTx hbl
              have hzx := heap_alloc_new w7 (.cells #[.slice q1 q2 q3] 71)
              have HBx := HBx.alloc HBx.size (.cells #[.slice q1 q2 q3] 71)
              clear hbl
              simp only [Act.put, List.setIfInBounds_toArray, List.set_cons_zero, List.set_cons_succ]
              refine wpAnyH_ready (rs := [9]) (by kernel_rfl) (by simp) ?_
              refine node_app_row 44 (.tmp 36) (.tmp 43) (.slice a n c) W.heap.size ((o.safe.take i).map cutStrs) _ _ (cutStrs (o.safe.getD i [])) rfl rfl rfl rfl rfl rfl hzx CTx.g HTx HLN.out HBx.size ?_ AllReadyH.nil
              · intro sa sn sc w9 ho9 hg9
                have hc9 := Cut.step CTx hg9 ho9
                rw [HLX.out] at hc9
                have box9 := (Cut.grid CTx hg9).1
                have HB9 := HBx.grown hg9 HBx.size (fun k hk => (ownG_lt CTx.g k hk).1)
                refine ⟨KEEP.out _ HB9, ?_⟩
                clear ho9 hg9
                simp only [Act.put, List.setIfInBounds_toArray, List.set_cons_zero, List.set_cons_succ]
                have hHeld := KEEP.out _ HB9
                refine take_at (i := 10) 45 (v := .pointer (some ⟨bx, 0, none⟩)) rfl (by kernel_rfl) (by kernel_rfl) (by kernel_rfl) rfl (fun _ _ _ h => h) (by rfl) (fun w hSw => ?_) hHeld ?_
                · (try dsimp only at hSw); go_simp
                simp only [Act.put, List.setIfInBounds_toArray, List.set_cons_zero, List.set_cons_succ]
                refine wpAnyH_ready (rs := [11]) (by kernel_rfl) (by simp) ?_
                refine node_store22 45 44 _ _ _ _ _ _ _ rfl rfl rfl rfl rfl rfl box9 (KEEP.out _ (HB9.setCell (p := ⟨bx, 0, none⟩) hbB _)) ?_ AllReadyH.nil
                refine wpAnyH_done (by kernel_rfl) ?_ _
                have HC9 := hid hc9
                have HBN := hid (HB9.setCell (p := ⟨bx, 0, none⟩) hbB (.slice sa sn sc))
                clear hc9 box9 HB9 CTx HBx HTx hzx
                go_wp2_with fail
                go_roundw
                case rel => exact ⟨i + 1, sn, sa, sc, by go_num, by omega, HC9, HBN⟩
                case measure => simp [intOf]; omega
          refine node_build1 43 42 _ _ _ rfl rfl rfl rfl rfl (KEEP.out _ (HBx.alloc HBx.size _)) (fun hHeld => ?_) AllReadyH.nil
          · have hbl := (Below.refl w7.heap.size w7).alloc (Nat.le_refl _) (.cells #[.slice q1 q2 q3] 71)
            have CTx := CTx.below hbl
            have HTx := ownT_below HTx hbl
            have hzx := heap_alloc_new w7 (.cells #[.slice q1 q2 q3] 71)
            have HBx := HBx.alloc HBx.size (.cells #[.slice q1 q2 q3] 71)
            clear hbl
            simp only [Act.put, List.setIfInBounds_toArray, List.set_cons_zero, List.set_cons_succ]
            refine wpAnyH_ready (rs := [1]) (by kernel_rfl) (by simp) ?_
            refine node_load22 36 35 _ _ rfl rfl rfl rfl rfl (cells3_of CTx.box).1 (KEEP.out _ HBx) ?_ AllReadyH.nil
            · simp only [Act.put, List.setIfInBounds_toArray, List.set_cons_zero, List.set_cons_succ]
              refine wpAnyH_ready (rs := [9]) (by kernel_rfl) (by simp) ?_
              refine node_app_row 44 (.tmp 36) (.tmp 43) (.slice a n c) W.heap.size ((o.safe.take i).map cutStrs) _ _ (cutStrs (o.safe.getD i [])) rfl rfl rfl rfl rfl rfl hzx CTx.g HTx HLN.out HBx.size ?_ AllReadyH.nil
              · intro sa sn sc w9 ho9 hg9
                have hc9 := Cut.step CTx hg9 ho9
                rw [HLX.out] at hc9
                have box9 := (Cut.grid CTx hg9).1
                have HB9 := HBx.grown hg9 HBx.size (fun k hk => (ownG_lt CTx.g k hk).1)
                refine ⟨KEEP.out _ HB9, ?_⟩
                clear ho9 hg9
                simp only [Act.put, List.setIfInBounds_toArray, List.set_cons_zero, List.set_cons_succ]
                have hHeld := KEEP.out _ HB9
                refine take_at (i := 10) 45 (v := .pointer (some ⟨bx, 0, none⟩)) rfl (by kernel_rfl) (by kernel_rfl) (by kernel_rfl) rfl (fun _ _ _ h => h) (by rfl) (fun w hSw => ?_) hHeld ?_
                · (try dsimp only at hSw); go_simp
                simp only [Act.put, List.setIfInBounds_toArray, List.set_cons_zero, List.set_cons_succ]
                refine wpAnyH_ready (rs := [11]) (by kernel_rfl) (by simp) ?_
                refine node_store22 45 44 _ _ _ _ _ _ _ rfl rfl rfl rfl rfl rfl box9 (KEEP.out _ (HB9.setCell (p := ⟨bx, 0, none⟩) hbB _)) ?_ AllReadyH.nil
                refine wpAnyH_done (by kernel_rfl) ?_ _
                have HC9 := hid hc9
                have HBN := hid (HB9.setCell (p := ⟨bx, 0, none⟩) hbB (.slice sa sn sc))
                clear hc9 box9 HB9 CTx HBx HTx hzx
                go_wp2_with fail
                go_roundw
                case rel => exact ⟨i + 1, sn, sa, sc, by go_num, by omega, HC9, HBN⟩
                case measure => simp [intOf]; omega
      · obtain rfl : i = T := by omega
        have hk1 := (HRW.out.block (w.heap.size + 1) hlw).trans K1.out
        obtain ⟨g1, g2, g3⟩ := cells3_of hk1
        obtain ⟨l1, l2, l3⟩ := free3_of hk1
        have hkl : w.heap.size + 1 < wr.heap.size := by have := HRW.out.size; omega
        have HTE : Hid (o.safe.take i = o.safe.take 5) := by
          have h1 := HP.out
          show _ = _
          rw [List.take_eq_take_iff]; omega
        by_cases hiP : i < P
        all_goals
          go_wp2_with fail
          obtain ⟨q0, q1, q2⟩ := cells3_of (store3 (x := .slice a n c) (y := .slice a1 n1 c1) (z := .slice a2 n2 c2) hk1)
          refine bodyPost_ret (v := .agg #[.slice a n c, .slice a1 n1 c1, .slice a2 n2 c2]) (by simp [results, Tryd.results14, go_sem, q0, q1, q2]) rfl ?_
          refine ⟨_, _, _, rfl, ?_, ?_⟩
          · have hc3 := (((CT.out.set (a := ⟨w.heap.size + 1, 0, none⟩) hlw (.slice a n c)).set (a := ⟨w.heap.size + 1, 1, none⟩) hlw (.slice a1 n1 c1)).set (a := ⟨w.heap.size + 1, 2, none⟩) hlw (.slice a2 n2 c2))
            rw [HTE.out] at hc3
            exact hc3.own (by omega)
          · exact below_store3 (HB.out.trans (HRW.out.mono HB.out.size)) (by omega)
theorem cut_any (vs vm vj : Value) (o : Ov) (w : World) (ho : ArgOv w vs vm vj o) :
    Calls Tryd.prog 14 #[.agg #[vs, vm, vj]] w fun e w' => ∃ vs' vm' vj', e = .returned (.agg #[vs', vm', vj']) ∧ IsOv w' vs' vm' vj' (cutOv o) ∧ Below w.heap.size w w' := by
  refine (cut_own vs vm vj o w ho).mono ?_
  rintro e w' ⟨a, b, c, h1, h2, h3⟩
  exact ⟨a, b, c, h1, cutOv_isOv h2, h3⟩
end Go.Proofs.YtjonbhimbhidpaaDoor
