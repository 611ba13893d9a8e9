/-
  The speeds (26).
-/
import Derived.Test.YtlhmidecjiihcaaDoorGearC
namespace Go.Proofs.YtlhmidecjiihcaaDoor
open Go.RowKit
theorem none_any (z : Int) (w : World) : Calls Tryd.prog 25 #[.int .i64 z] w fun e w' => e = .returned (.bool false) ∧ w' = w := by
  go_enter Tryd.func25, Tryd.ntmps25
  go_wp2_with fail
  go_ret
  exact ⟨rfl, rfl⟩
theorem putAt_cell {w : World} {G off o : Nat} {cs : Array Value} {b : Bool} {p : Option Addr} {n c : Nat} {e : Bool} {q : Option Addr} {m d : Nat} (h : w.heap[G]? = some (.cells cs 54)) (ho : o < off ∨ off + 4 ≤ o) : (putAt w G off b p n c e q m d).cell? ⟨G, o, none⟩ = w.cell? ⟨G, o, none⟩ := by
  rw [cell_of_heap (putAt_at h), cell_of_heap h]
  simp only [Array.getElem?_setIfInBounds, Array.size_setIfInBounds]
  rw [if_neg (by omega), if_neg (by omega), if_neg (by omega), if_neg (by omega)]
set_option maxRecDepth 100000 in
set_option maxHeartbeats 4000000 in
theorem speeds_any (m b X : Nat) (bs : Option Addr) (bk : Nat) (w : World) (n : Nat) (hn : n = b + 1) (hX : w.heap[X]? = some (.cells #[.int .i64 (n : Int), .slice bs b bk] 83)) (hv : IsB w (.slice bs b bk) m b) (hm : 1 ≤ m) (hm2 : m ≤ 12) (hb1 : 1 ≤ b) (hb : b ≤ 5) :
    Calls Tryd.prog 26 #[.pointer (some ⟨X, 0, none⟩), .func (.func 25) #[] #[]] w fun e w' => ∃ Gs Gp, e = .returned (.tuple #[.slice (some ⟨Gs, 0, none⟩) n n, .slice (some ⟨Gp, 0, none⟩) n n]) ∧ SpL w' Gs n n m ∧ PtL w' Gp n n ∧ Below w.heap.size w w' := by
  have HV : Hid (∀ w', Below w.heap.size w w' → IsB w' (.slice bs b bk) m b) := fun w' h => hv.below h
  have HG := hid hX
  have HXL : Hid (X < w.heap.size) := heap_lt hX
  have hn1 : 1 ≤ n := by omega
  have hn10 : n ≤ 10 := by omega
  have hbn : b < n := by omega
  have HN := hid hn
  obtain ⟨cs, hcs, hc0, hmk⟩ := make_rats n hn1 (by omega)
  have HCS := hid hcs
  have HC0 := hid hc0
  have HMK := hid hmk
  clear hcs hc0 hmk hv hX hn
  go_enter Tryd.func26, Tryd.ntmps26
  go_upto_region 1 with fail
  go_cut [6, 7] (fun v6 v7 wx => ∃ Gs Gp, v6 = .slice (some ⟨Gs, 0, none⟩) n n ∧ v7 = .slice (some ⟨Gp, 0, none⟩) n n ∧ Hid (SpL wx Gs n 0 m) ∧ Hid (PtL wx Gp n 0) ∧ Hid (w.heap.size ≤ Gs) ∧ Hid (w.heap.size ≤ Gp) ∧ Hid (Gp ≠ Gs) ∧ Hid (Below w.heap.size w wx))
  case first =>
    refine wp_region_held_drew (S := fun w' => w'.heap[X]? = some (.cells #[.int .i64 (n : Int), .slice bs b bk] 83)) (by kernel_rfl) (cells_box HG.out ((Below.refl _ w).drew)) (fun hHeld => ?_)
    have HBw : Hid (Below w.heap.size w w.drew) := (Below.refl _ w).drew
    generalize w.drew = u0 at *
    refine take_at (i := 0) 12 (v := .pointer (some ⟨X, 0, none⟩)) rfl (by kernel_rfl) (by kernel_rfl) (by kernel_rfl) rfl (fun _ _ _ h => h) (by rfl) (fun w hSw => ?_) hHeld ?_
    · (try dsimp only at hSw); go_simp
    simp only [Act.put, List.setIfInBounds_toArray, List.set_cons_zero, List.set_cons_succ]
    refine take_at (i := 1) 13 (v := .pointer (some ⟨X, 0, none⟩)) rfl (by kernel_rfl) (by kernel_rfl) (by kernel_rfl) rfl (fun _ _ _ h => h) (by rfl) (fun w hSw => ?_) hHeld ?_
    · (try dsimp only at hSw); go_simp
    simp only [Act.put, List.setIfInBounds_toArray, List.set_cons_zero, List.set_cons_succ]
    refine take_at (i := 2) 14 (v := .pointer (some ⟨X, 0, none⟩)) rfl (by kernel_rfl) (by kernel_rfl) (by kernel_rfl) rfl (fun _ _ _ h => h) (by rfl) (fun w hSw => ?_) hHeld ?_
    · (try dsimp only at hSw); go_simp
    simp only [Act.put, List.setIfInBounds_toArray, List.set_cons_zero, List.set_cons_succ]
    refine take_at (i := 3) 15 (v := .int .i64 (n : Int)) rfl (by kernel_rfl) (by kernel_rfl) (by kernel_rfl) rfl (fun _ _ _ h => h) (by rfl) (fun w hSw => ?_) hHeld ?_
    · (try dsimp only at hSw); (try dsimp only at hSw); obtain ⟨x0, x1⟩ := cells2_of hSw; go_simp
    simp only [Act.put, List.setIfInBounds_toArray, List.set_cons_zero, List.set_cons_succ]
    refine take_at (i := 6) 18 (v := .pointer (some ⟨X, 0, none⟩)) rfl (by kernel_rfl) (by kernel_rfl) (by kernel_rfl) rfl (fun _ _ _ h => h) (by rfl) (fun w hSw => ?_) hHeld ?_
    · (try dsimp only at hSw); go_simp
    simp only [Act.put, List.setIfInBounds_toArray, List.set_cons_zero, List.set_cons_succ]
    refine take_at (i := 7) 19 (v := .pointer (some ⟨X, 0, none⟩)) rfl (by kernel_rfl) (by kernel_rfl) (by kernel_rfl) rfl (fun _ _ _ h => h) (by rfl) (fun w hSw => ?_) hHeld ?_
    · (try dsimp only at hSw); go_simp
    simp only [Act.put, List.setIfInBounds_toArray, List.set_cons_zero, List.set_cons_succ]
    refine take_at (i := 8) 20 (v := .pointer (some ⟨X, 0, none⟩)) rfl (by kernel_rfl) (by kernel_rfl) (by kernel_rfl) rfl (fun _ _ _ h => h) (by rfl) (fun w hSw => ?_) hHeld ?_
    · (try dsimp only at hSw); go_simp
    simp only [Act.put, List.setIfInBounds_toArray, List.set_cons_zero, List.set_cons_succ]
    refine take_at (i := 9) 21 (v := .int .i64 (n : Int)) rfl (by kernel_rfl) (by kernel_rfl) (by kernel_rfl) rfl (fun _ _ _ h => h) (by rfl) (fun w hSw => ?_) hHeld ?_
    · (try dsimp only at hSw); (try dsimp only at hSw); obtain ⟨x0, x1⟩ := cells2_of hSw; go_simp
    simp only [Act.put, List.setIfInBounds_toArray, List.set_cons_zero, List.set_cons_succ]
    refine wpAnyH_ready (rs := [4, 5]) (by kernel_rfl) (by simp) ?_
    refine node_make46 16 15 n cs rfl rfl rfl rfl rfl HMK.out (cells_box hHeld (ba _ _)) ?_ ?_
    · intro _
      have hb := ba u0 (.cells cs 54)
      have HM := hid (heap_alloc_new u0 (.cells cs 54))
      obtain ⟨Gs, hGs⟩ : ∃ G, G = u0.heap.size := ⟨_, rfl⟩
      rw [← hGs] at HM ⊢
      have HGW : Hid (w.heap.size ≤ Gs) := hid (by rw [hGs]; exact HBw.out.size)
      clear hGs
      replace hHeld := cells_box hHeld hb
      replace HBw := hid (below_step HBw.out hb)
      generalize u0.alloc (.cells cs 54) = wm at *
      clear hb
      simp only [Act.put, List.setIfInBounds_toArray, List.set_cons_zero, List.set_cons_succ]
      refine wpAnyH_ready (rs := [5]) (by kernel_rfl) (by simp) ?_
      refine node_bs30 17 rfl rfl rfl rfl (cells_box hHeld (ba _ _)) ?_ AllReadyH.nil
      · intro _
        have hb := ba wm (.cells #[.int .i64 (-1)] 3)
        have HS := hid (heap_alloc_new wm (.cells #[.int .i64 (-1)] 3))
        obtain ⟨sb, hsb⟩ : ∃ G, G = wm.heap.size := ⟨_, rfl⟩
        rw [← hsb] at HS ⊢
        clear hsb
        replace hHeld := cells_box hHeld hb
        replace HBw := hid (below_step HBw.out hb)
        replace HM := hid (cells_box HM.out hb)
        generalize wm.alloc (.cells #[.int .i64 (-1)] 3) = ws at *
        clear hb
        simp only [Act.put, List.setIfInBounds_toArray, List.set_cons_zero, List.set_cons_succ]
        refine wpAnyH_ready (rs := [10]) (by kernel_rfl) (by simp) ?_
        refine node_f41 22 17 21 _ _ rfl rfl rfl rfl rfl rfl ?_ AllReadyH.nil
        · refine (repeat_any n sb _ ⟨hn1, by omega⟩ (box1 HS.out)).mono ?_
          rintro e wp ⟨Gp, rfl, HP, hgb, hb⟩
          have HPW : Hid (w.heap.size ≤ Gp) := hid (Nat.le_trans HBw.out.size hgb.out)
          have HNE : Hid (Gp ≠ Gs) := hid (by have := heap_lt HM.out; have := hgb.out; omega)
          clear hgb
          replace hHeld := cells_box hHeld hb
          replace HBw := hid (below_step HBw.out hb)
          replace HM := hid (cells_box HM.out hb)
          replace HS := hid (cells_box HS.out hb)
          clear hb
          refine ⟨_, rfl, hHeld, ?_⟩
          simp only [Act.put, List.setIfInBounds_toArray, List.set_cons_zero, List.set_cons_succ]
          refine take_at (i := 11) 6 (v := .slice (some ⟨Gs, 0, none⟩) n n) rfl (by kernel_rfl) (by kernel_rfl) (by kernel_rfl) rfl (fun _ _ _ h => h) (by rfl) (fun w hSw => ?_) hHeld ?_
          · (try dsimp only at hSw); go_simp
          simp only [Act.put, List.setIfInBounds_toArray, List.set_cons_zero, List.set_cons_succ]
          refine take_at (i := 12) 7 (v := .slice (some ⟨Gp, 0, none⟩) n n) rfl (by kernel_rfl) (by kernel_rfl) (by kernel_rfl) rfl (fun _ _ _ h => h) (by rfl) (fun w hSw => ?_) hHeld ?_
          · (try dsimp only at hSw); go_simp
          simp only [Act.put, List.setIfInBounds_toArray, List.set_cons_zero, List.set_cons_succ]
          refine wpAnyH_done (by kernel_rfl) ?_ _
          clear hHeld
          go_wp2_with fail
          go_meet
          exact ⟨Gs, Gp, rfl, rfl, ⟨cs, HM.out, HCS.out, HC0.out, fun j hj => absurd hj (Nat.not_lt_zero _)⟩, PtL.init HP.out, HGW, HPW, HNE, HBw⟩
    refine node_bs30 17 rfl rfl rfl rfl (cells_box hHeld (ba _ _)) ?_ AllReadyH.nil
    · intro _
      have hb := ba u0 (.cells #[.int .i64 (-1)] 3)
      have HS := hid (heap_alloc_new u0 (.cells #[.int .i64 (-1)] 3))
      obtain ⟨sb, hsb⟩ : ∃ G, G = u0.heap.size := ⟨_, rfl⟩
      rw [← hsb] at HS ⊢
      clear hsb
      replace hHeld := cells_box hHeld hb
      replace HBw := hid (below_step HBw.out hb)
      generalize u0.alloc (.cells #[.int .i64 (-1)] 3) = ws at *
      clear hb
      simp only [Act.put, List.setIfInBounds_toArray, List.set_cons_zero, List.set_cons_succ]
      refine wpAnyH_ready (rs := [4, 10]) (by kernel_rfl) (by simp) ?_
      refine node_make46 16 15 n cs rfl rfl rfl rfl rfl HMK.out (cells_box hHeld (ba _ _)) ?_ ?_
      · intro _
        have hb := ba ws (.cells cs 54)
        have HM := hid (heap_alloc_new ws (.cells cs 54))
        obtain ⟨Gs, hGs⟩ : ∃ G, G = ws.heap.size := ⟨_, rfl⟩
        rw [← hGs] at HM ⊢
        have HGW : Hid (w.heap.size ≤ Gs) := hid (by rw [hGs]; exact HBw.out.size)
        clear hGs
        replace hHeld := cells_box hHeld hb
        replace HBw := hid (below_step HBw.out hb)
        replace HS := hid (cells_box HS.out hb)
        generalize ws.alloc (.cells cs 54) = wm at *
        clear hb
        simp only [Act.put, List.setIfInBounds_toArray, List.set_cons_zero, List.set_cons_succ]
        refine wpAnyH_ready (rs := [10]) (by kernel_rfl) (by simp) ?_
        refine node_f41 22 17 21 _ _ rfl rfl rfl rfl rfl rfl ?_ AllReadyH.nil
        · refine (repeat_any n sb _ ⟨hn1, by omega⟩ (box1 HS.out)).mono ?_
          rintro e wp ⟨Gp, rfl, HP, hgb, hb⟩
          have HPW : Hid (w.heap.size ≤ Gp) := hid (Nat.le_trans HBw.out.size hgb.out)
          have HNE : Hid (Gp ≠ Gs) := hid (by have := heap_lt HM.out; have := hgb.out; omega)
          clear hgb
          replace hHeld := cells_box hHeld hb
          replace HBw := hid (below_step HBw.out hb)
          replace HS := hid (cells_box HS.out hb)
          replace HM := hid (cells_box HM.out hb)
          clear hb
          refine ⟨_, rfl, hHeld, ?_⟩
          simp only [Act.put, List.setIfInBounds_toArray, List.set_cons_zero, List.set_cons_succ]
          refine take_at (i := 11) 6 (v := .slice (some ⟨Gs, 0, none⟩) n n) rfl (by kernel_rfl) (by kernel_rfl) (by kernel_rfl) rfl (fun _ _ _ h => h) (by rfl) (fun w hSw => ?_) hHeld ?_
          · (try dsimp only at hSw); go_simp
          simp only [Act.put, List.setIfInBounds_toArray, List.set_cons_zero, List.set_cons_succ]
          refine take_at (i := 12) 7 (v := .slice (some ⟨Gp, 0, none⟩) n n) rfl (by kernel_rfl) (by kernel_rfl) (by kernel_rfl) rfl (fun _ _ _ h => h) (by rfl) (fun w hSw => ?_) hHeld ?_
          · (try dsimp only at hSw); go_simp
          simp only [Act.put, List.setIfInBounds_toArray, List.set_cons_zero, List.set_cons_succ]
          refine wpAnyH_done (by kernel_rfl) ?_ _
          clear hHeld
          go_wp2_with fail
          go_meet
          exact ⟨Gs, Gp, rfl, rfl, ⟨cs, HM.out, HCS.out, HC0.out, fun j hj => absurd hj (Nat.not_lt_zero _)⟩, PtL.init HP.out, HGW, HPW, HNE, HBw⟩
      refine node_f41 22 17 21 _ _ rfl rfl rfl rfl rfl rfl ?_ AllReadyH.nil
      · refine (repeat_any n sb _ ⟨hn1, by omega⟩ (box1 HS.out)).mono ?_
        rintro e wp ⟨Gp, rfl, HP, hgb, hb⟩
        have HPW : Hid (w.heap.size ≤ Gp) := hid (Nat.le_trans HBw.out.size hgb.out)
        clear hgb
        replace hHeld := cells_box hHeld hb
        replace HBw := hid (below_step HBw.out hb)
        replace HS := hid (cells_box HS.out hb)
        clear hb
        refine ⟨_, rfl, hHeld, ?_⟩
        simp only [Act.put, List.setIfInBounds_toArray, List.set_cons_zero, List.set_cons_succ]
        refine wpAnyH_ready (rs := [4]) (by kernel_rfl) (by simp) ?_
        refine node_make46 16 15 n cs rfl rfl rfl rfl rfl HMK.out (cells_box hHeld (ba _ _)) ?_ AllReadyH.nil
        · intro _
          have hb := ba wp (.cells cs 54)
          have HM := hid (heap_alloc_new wp (.cells cs 54))
          obtain ⟨Gs, hGs⟩ : ∃ G, G = wp.heap.size := ⟨_, rfl⟩
          rw [← hGs] at HM ⊢
          have HGW : Hid (w.heap.size ≤ Gs) := hid (by rw [hGs]; exact HBw.out.size)
          have HNE : Hid (Gp ≠ Gs) := hid (by have := heap_lt HP.out; omega)
          clear hGs
          replace hHeld := cells_box hHeld hb
          replace HBw := hid (below_step HBw.out hb)
          replace HS := hid (cells_box HS.out hb)
          replace HP := hid (cells_box HP.out hb)
          generalize wp.alloc (.cells cs 54) = wm at *
          clear hb
          simp only [Act.put, List.setIfInBounds_toArray, List.set_cons_zero, List.set_cons_succ]
          refine take_at (i := 11) 6 (v := .slice (some ⟨Gs, 0, none⟩) n n) rfl (by kernel_rfl) (by kernel_rfl) (by kernel_rfl) rfl (fun _ _ _ h => h) (by rfl) (fun w hSw => ?_) hHeld ?_
          · (try dsimp only at hSw); go_simp
          simp only [Act.put, List.setIfInBounds_toArray, List.set_cons_zero, List.set_cons_succ]
          refine take_at (i := 12) 7 (v := .slice (some ⟨Gp, 0, none⟩) n n) rfl (by kernel_rfl) (by kernel_rfl) (by kernel_rfl) rfl (fun _ _ _ h => h) (by rfl) (fun w hSw => ?_) hHeld ?_
          · (try dsimp only at hSw); go_simp
          simp only [Act.put, List.setIfInBounds_toArray, List.set_cons_zero, List.set_cons_succ]
          refine wpAnyH_done (by kernel_rfl) ?_ _
          clear hHeld
          go_wp2_with fail
          go_meet
          exact ⟨Gs, Gp, rfl, rfl, ⟨cs, HM.out, HCS.out, HC0.out, fun j hj => absurd hj (Nat.not_lt_zero _)⟩, PtL.init HP.out, HGW, HPW, HNE, HBw⟩
  case rest =>
    obtain ⟨Gs, Gp, rfl, rfl, HSP, HPT, HGW, HPW, HNE, HBC⟩ := hcut
    rename World => wc
    have HGc := hid (cells_box HG.out HBC.out)
    obtain ⟨x0, x1⟩ := cells2_of HGc.out
    go_wp2_with fail
    clear x0 x1
    go_loopw [27] (fun iv wr => ∃ i K : Nat, iv = .int .i64 (i : Int) ∧ i ≤ n ∧ Hid (K = if i = 0 then 0 else n) ∧ Hid (Below w.heap.size w wr) ∧ Hid (SpL wr Gs n K m) ∧ Hid (PtL wr Gp n K)) (fun iv _ => n - (intOf iv).toNat)
    case atStart => exact ⟨0, 0, rfl, Nat.zero_le _, rfl, HBC, HSP, HPT⟩
    case round =>
      obtain ⟨i, K, rfl, hi, HK, HBr, HSr, HPr⟩ := hrel
      rename World => wr
      by_cases hlt : i < n
      · by_cases hi0 : i = 0
        · subst hi0
          obtain rfl : K = 0 := HK.out
          have p0 := HPr.out.hi 0 (Nat.le_refl _) (by omega)
          go_upto_region 6 with fail
          clear p0
          go_wp2_with fail
          go_at_call 13
          refine (whole_any 1 1 wr rfl (by decide)).mono ?_
          rintro e w2 ⟨x2, rfl, hz2, hb2⟩
          have HBr2 := hid (below_step HBr.out hb2)
          have HS2 := hid (HSr.out.below hb2)
          have HP2 := hid (HPr.out.below hb2)
          have HZ2 : Hid (RatZ w2 x2 ((m ^ 0 : Nat) : Int)) := hz2
          obtain ⟨a2, n2, c2, g2, d2, rfl, _, _⟩ := hz2
          obtain ⟨b2, hb2e⟩ : ∃ b2 : Bool, b2 = decide (((1 : Nat) : Int) < 0) := ⟨_, rfl⟩
          rw [← hb2e] at HZ2 ⊢
          clear hb2 hb2e
          obtain ⟨x0, x1, x2, x3, c0, c1, c2', c3, hf⟩ := HS2.out.has 0 (by omega)
          simp only [Nat.zero_mul, Nat.zero_add] at c0 c1 c2' c3
          have f0 := hf 0
          have f1 := hf 1
          have f2 := hf 2
          have f3 := hf 3
          clear hf
          have p0 : (putAt w2 Gs (0 * 4) b2 a2 n2 c2 false (some ⟨g2, 0, none⟩) 1 d2).cell? ⟨Gp, 0, none⟩ = some (.int .i64 (-1)) := (cell_same (putAt_off _ HNE.out)).trans (HP2.out.hi 0 (Nat.le_refl _) (by omega))
          have pf : (putAt w2 Gs (0 * 4) b2 a2 n2 c2 false (some ⟨g2, 0, none⟩) 1 d2).frozen? ⟨Gp, 0, none⟩ = false := free_box ((putAt_off _ HNE.out).trans HP2.out) 0
          have pn : Gp ≠ Gs := HNE.out
          have pn' : Gs ≠ Gp := fun e => HNE.out e.symm
          unfold putAt at p0 pf
          simp only [Nat.zero_mul, Nat.zero_add] at p0 pf
          go_wp2_with fail
          have hW : (putAt w2 Gs (0 * 4) b2 a2 n2 c2 false (some ⟨g2, 0, none⟩) 1 d2).setCell ⟨Gp, 0, none⟩ (.int .i64 0) = (putAt w2 Gs (0 * 4) b2 a2 n2 c2 false (some ⟨g2, 0, none⟩) 1 d2).setCell ⟨Gp, 0, none⟩ (.int .i64 0) := rfl
          change Code.wp _ _ _ _ ((putAt w2 Gs (0 * 4) b2 a2 n2 c2 false (some ⟨g2, 0, none⟩) 1 d2).setCell ⟨Gp, 0, none⟩ (.int .i64 0))
          have HPa : Hid (PtL (putAt w2 Gs (0 * 4) b2 a2 n2 c2 false (some ⟨g2, 0, none⟩) 1 d2) Gp n 0) := hid ((putAt_off _ HNE.out).trans HP2.out)
          have HSa : Hid (SpL (putAt w2 Gs (0 * 4) b2 a2 n2 c2 false (some ⟨g2, 0, none⟩) 1 d2) Gs n 1 m) := hid (HS2.out.set (by omega) HZ2.out)
          have HBa : Hid (Below w.heap.size w (putAt w2 Gs (0 * 4) b2 a2 n2 c2 false (some ⟨g2, 0, none⟩) 1 d2)) := hid (putAt_below HBr2.out HGW.out)
          clear hW p0 pf c0 c1 c2' c3 f0 f1 f2 f3 HS2 HP2 HBr2 HZ2 HBr HSr HPr
          generalize putAt w2 Gs (0 * 4) b2 a2 n2 c2 false (some ⟨g2, 0, none⟩) 1 d2 = w3 at *
          have HP3 : Hid (PtL (w3.setCell ⟨Gp, 0, none⟩ (.int .i64 0)) Gp n 1) := hid (HPa.out.set (by omega))
          have HS3 : Hid (SpL (w3.setCell ⟨Gp, 0, none⟩ (.int .i64 0)) Gs n 1 m) := hid (HSa.out.off HNE.out HPa.out.free (fun k hk => set_other hk))
          have HB3 : Hid (Below w.heap.size w (w3.setCell ⟨Gp, 0, none⟩ (.int .i64 0))) := hid (below_set HBa.out HPW.out)
          clear HPa HSa HBa
          generalize w3.setCell ⟨Gp, 0, none⟩ (.int .i64 0) = w4 at *
          go_loopg [9] 2 (fun g v wr2 => ∃ K more, v = .bool more ∧ Hid (Below w.heap.size w wr2) ∧ Hid (SpL wr2 Gs n K m) ∧ Hid (PtL wr2 Gp n K) ∧ ((K = 1 ∧ more = true ∧ g = 2) ∨ (K = n ∧ more = true ∧ g = 1) ∨ (K = n ∧ more = false ∧ g = 0)))
          case atStart => exact ⟨1, true, rfl, HB3, HS3, HP3, .inl ⟨rfl, rfl, rfl⟩⟩
          case round =>
            obtain ⟨K, more, rfl, HBz, HSz, HPz, hcase⟩ := hrel
            rename World => wz
            rcases hcase with ⟨rfl, rfl, hg2⟩ | ⟨rfl, rfl, hg2⟩ | ⟨rfl, rfl, hg2⟩
            · have HGz := hid (cells_box HG.out HBz.out)
              obtain ⟨x0, x1⟩ := cells2_of HGz.out
              have HG2 := hid hg2
              clear hg2
              go_wp2_with fail
              clear x0 x1
              go_loopw [9, 49] (fun mv iv wq => ∃ (j : Nat) (mo : Bool), iv = .int .i64 (j : Int) ∧ mv = .bool mo ∧ j ≤ b ∧ Hid (mo = decide (0 < j)) ∧ Hid (Below w.heap.size w wq) ∧ Hid (SpL wq Gs n (j + 1) m) ∧ Hid (PtL wq Gp n (j + 1))) (fun _ iv _ => b - (intOf iv).toNat)
              case atStart => exact ⟨0, false, rfl, rfl, Nat.zero_le _, rfl, HBz, HSz, HPz⟩
              case round =>
                obtain ⟨j, mo, rfl, rfl, hj, HMO, HBq, HSq, HPq⟩ := hrel
                rename World => wq
                by_cases hjb : j < b
                · have hj1 : j < n := by omega
                  have hj2 : j + 1 < n := by have := HN.out; omega
                  obtain ⟨Gb, rfl, e0, e1, e2, e3⟩ := (HV.out wq HBq.out).at j hjb
                  obtain ⟨Y, hY⟩ : ∃ Y, Y = wq.heap.size := ⟨_, rfl⟩
                  have HYS : Hid (Gs ≠ Y) := hid (by have := HSq.out.lt; omega)
                  have HYP : Hid (Y ≠ Gp) := hid (by have := heap_lt HPq.out; omega)
                  have HYB := hid (heap_alloc_new wq (.cells #[.int .i64 (j : Int), .int .i64 ((j : Int) + 1), .int .i64 (m : Int), .int .i64 1] 39))
                  have hb5 := ba wq (.cells #[.int .i64 (j : Int), .int .i64 ((j : Int) + 1), .int .i64 (m : Int), .int .i64 1] 39)
                  rw [← hY] at HYB
                  go_upto_region 13 with fail
                  rw [← hY]
                  clear hY e0 e1 e2 e3
                  replace HBq := hid (below_step HBq.out hb5)
                  replace HSq := hid (HSq.out.below hb5)
                  replace HPq := hid (HPq.out.below hb5)
                  clear hb5
                  generalize wq.alloc (.cells #[.int .i64 (j : Int), .int .i64 ((j : Int) + 1), .int .i64 (m : Int), .int .i64 1] 39) = w5 at *
                  obtain ⟨b6, a6, n6, c6, g6, d6, s0, s1, s2, s3, hz6⟩ := HSq.out.at j (by omega)
                  have HZ6 := hid hz6
                  have H15 : Hid (w5.heap[Y]? = some (.cells #[.int .i64 (j : Int), .int .i64 ((j : Int) + 1), .int .i64 (m : Int), .int .i64 1] 39) ∧ w5.cell? ⟨Gs, j * 4, none⟩ = some (.bool b6) ∧ w5.cell? ⟨Gs, j * 4 + 1, none⟩ = some (.slice a6 n6 c6) ∧ w5.cell? ⟨Gs, j * 4 + 2, none⟩ = some (.bool false) ∧ w5.cell? ⟨Gs, j * 4 + 3, none⟩ = some (.slice (some ⟨g6, 0, none⟩) 1 d6)) := hid ⟨HYB.out, s0, s1, s2, s3⟩
                  have HMB : Hid (((m ^ j : Nat) : Int).natAbs * ((m : Int)).natAbs < 4294967296) := hid (by
                    rw [Int.natAbs_natCast, Int.natAbs_natCast, ← Nat.pow_succ]
                    have h1 : m ^ (j + 1) ≤ 12 ^ (j + 1) := Nat.pow_le_pow_left hm2 _
                    have h2 : 12 ^ (j + 1) ≤ 12 ^ 5 := Nat.pow_le_pow_right (by decide) (by omega)
                    have h3 : (12 : Nat) ^ 5 < 4294967296 := by decide
                    exact Nat.lt_of_le_of_lt (Nat.le_trans h1 h2) h3)
                  have HPW2 : Hid (((m ^ (j + 1) : Nat) : Int) = ((m ^ j : Nat) : Int) * (m : Int)) := hid (by rw [Nat.pow_succ, Int.natCast_mul])
                  clear hz6 s0 s1 s2 s3 HYB
                  obtain ⟨y0, y1, y2, y3⟩ := belt_of H15.out.1
                  have p0 := HPq.out.lo j (by omega)
                  have p1 := HPq.out.hi (j + 1) (Nat.le_refl _) (by omega)
                  go_upto_region 15 with (first | (go_at_call 25; refine (none_any _ _).mono ?_; rintro e w6 ⟨rfl, rfl⟩) | fail)
                  clear p0 p1 y0 y1 y2 y3
                  refine wp_region_held_drew (S := fun w' => w'.heap[Y]? = some (.cells #[.int .i64 (j : Int), .int .i64 ((j : Int) + 1), .int .i64 (m : Int), .int .i64 1] 39) ∧ w'.cell? ⟨Gs, j * 4, none⟩ = some (.bool b6) ∧ w'.cell? ⟨Gs, j * 4 + 1, none⟩ = some (.slice a6 n6 c6) ∧ w'.cell? ⟨Gs, j * 4 + 2, none⟩ = some (.bool false) ∧ w'.cell? ⟨Gs, j * 4 + 3, none⟩ = some (.slice (some ⟨g6, 0, none⟩) 1 d6)) (by kernel_rfl) (by exact H15.out) (fun hHeld => ?_)
                  replace HBq : Hid (Below w.heap.size w w6.drew) := HBq.out.drew
                  replace HSq := hid (HSq.out.below ((Below.refl _ w6).drew))
                  replace HPq := hid (HPq.out.below ((Below.refl _ w6).drew))
                  replace HZ6 := hid (HZ6.out.below ((Below.refl _ w6).drew))
                  generalize w6.drew = u0 at *
                  refine take_at (i := 0) 74 (v := .slice (some ⟨Gs, 0, none⟩) n n) rfl (by kernel_rfl) (by kernel_rfl) (by kernel_rfl) rfl (fun _ _ _ h => h) (by rfl) (fun w hSw => ?_) hHeld ?_
                  · (try dsimp only at hSw); go_simp
                  simp only [Act.put, List.setIfInBounds_toArray, List.set_cons_zero, List.set_cons_succ]
                  refine take_at (i := 1) 75 (v := .pointer (some ⟨Y, 1, none⟩)) rfl (by kernel_rfl) (by kernel_rfl) (by kernel_rfl) rfl (fun _ _ _ h => h) (by rfl) (fun w hSw => ?_) hHeld ?_
                  · (try dsimp only at hSw); go_simp
                  simp only [Act.put, List.setIfInBounds_toArray, List.set_cons_zero, List.set_cons_succ]
                  refine take_at (i := 2) 76 (v := .int .i64 ((j : Int) + 1)) rfl (by kernel_rfl) (by kernel_rfl) (by kernel_rfl) rfl (fun _ _ _ h => h) (by rfl) (fun w hSw => ?_) hHeld ?_
                  · (try dsimp only at hSw); (try dsimp only at hSw); obtain ⟨sx, z0, z1, z2, z3⟩ := hSw; obtain ⟨y0, y1, y2, y3⟩ := belt_of sx; go_simp
                  simp only [Act.put, List.setIfInBounds_toArray, List.set_cons_zero, List.set_cons_succ]
                  refine take_at (i := 3) 77 (v := .slice (some ⟨Gp, 0, none⟩) n n) rfl (by kernel_rfl) (by kernel_rfl) (by kernel_rfl) rfl (fun _ _ _ h => h) (by rfl) (fun w hSw => ?_) hHeld ?_
                  · (try dsimp only at hSw); go_simp
                  simp only [Act.put, List.setIfInBounds_toArray, List.set_cons_zero, List.set_cons_succ]
                  refine take_at (i := 4) 78 (v := .pointer (some ⟨Y, 1, none⟩)) rfl (by kernel_rfl) (by kernel_rfl) (by kernel_rfl) rfl (fun _ _ _ h => h) (by rfl) (fun w hSw => ?_) hHeld ?_
                  · (try dsimp only at hSw); go_simp
                  simp only [Act.put, List.setIfInBounds_toArray, List.set_cons_zero, List.set_cons_succ]
                  refine take_at (i := 5) 79 (v := .int .i64 ((j : Int) + 1)) rfl (by kernel_rfl) (by kernel_rfl) (by kernel_rfl) rfl (fun _ _ _ h => h) (by rfl) (fun w hSw => ?_) hHeld ?_
                  · (try dsimp only at hSw); (try dsimp only at hSw); obtain ⟨sx, z0, z1, z2, z3⟩ := hSw; obtain ⟨y0, y1, y2, y3⟩ := belt_of sx; go_simp
                  simp only [Act.put, List.setIfInBounds_toArray, List.set_cons_zero, List.set_cons_succ]
                  refine take_at (i := 6) 80 (v := .slice (some ⟨Gs, 0, none⟩) n n) rfl (by kernel_rfl) (by kernel_rfl) (by kernel_rfl) rfl (fun _ _ _ h => h) (by rfl) (fun w hSw => ?_) hHeld ?_
                  · (try dsimp only at hSw); go_simp
                  simp only [Act.put, List.setIfInBounds_toArray, List.set_cons_zero, List.set_cons_succ]
                  refine take_at (i := 7) 81 (v := .pointer (some ⟨Y, 0, none⟩)) rfl (by kernel_rfl) (by kernel_rfl) (by kernel_rfl) rfl (fun _ _ _ h => h) (by rfl) (fun w hSw => ?_) hHeld ?_
                  · (try dsimp only at hSw); go_simp
                  simp only [Act.put, List.setIfInBounds_toArray, List.set_cons_zero, List.set_cons_succ]
                  refine take_at (i := 8) 82 (v := .int .i64 (j : Int)) rfl (by kernel_rfl) (by kernel_rfl) (by kernel_rfl) rfl (fun _ _ _ h => h) (by rfl) (fun w hSw => ?_) hHeld ?_
                  · (try dsimp only at hSw); (try dsimp only at hSw); obtain ⟨sx, z0, z1, z2, z3⟩ := hSw; obtain ⟨y0, y1, y2, y3⟩ := belt_of sx; go_simp
                  simp only [Act.put, List.setIfInBounds_toArray, List.set_cons_zero, List.set_cons_succ]
                  refine take_at (i := 9) 83 (v := .pointer (some ⟨Gs, j * 4, none⟩)) rfl (by kernel_rfl) (by kernel_rfl) (by kernel_rfl) rfl (fun _ _ _ h => h) (by rfl) (fun w hSw => ?_) hHeld ?_
                  · (try dsimp only at hSw); go_simp; first | done | (intro h; exact absurd (h (by omega)) (by omega))
                  simp only [Act.put, List.setIfInBounds_toArray, List.set_cons_zero, List.set_cons_succ]
                  refine take_at (i := 10) 84 (v := .agg #[.bool b6, .slice a6 n6 c6, .bool false, .slice (some ⟨g6, 0, none⟩) 1 d6]) rfl (by kernel_rfl) (by kernel_rfl) (by kernel_rfl) rfl (fun _ _ _ h => h) (by rfl) (fun w hSw => ?_) hHeld ?_
                  · (try dsimp only at hSw); (try dsimp only at hSw); obtain ⟨sx, z0, z1, z2, z3⟩ := hSw; obtain ⟨y0, y1, y2, y3⟩ := belt_of sx; go_simp
                  simp only [Act.put, List.setIfInBounds_toArray, List.set_cons_zero, List.set_cons_succ]
                  refine take_at (i := 11) 85 (v := .agg #[.int .i64 (j : Int), .int .i64 ((j : Int) + 1), .int .i64 (m : Int), .int .i64 1]) rfl (by kernel_rfl) (by kernel_rfl) (by kernel_rfl) rfl (fun _ _ _ h => h) (by rfl) (fun w hSw => ?_) hHeld ?_
                  · (try dsimp only at hSw); (try dsimp only at hSw); obtain ⟨sx, z0, z1, z2, z3⟩ := hSw; obtain ⟨y0, y1, y2, y3⟩ := belt_of sx; go_simp
                  simp only [Act.put, List.setIfInBounds_toArray, List.set_cons_zero, List.set_cons_succ]
                  refine take_at (i := 14) 88 (v := .int .i64 0) rfl (by kernel_rfl) (by kernel_rfl) (by kernel_rfl) rfl (fun _ _ _ h => h) (by rfl) (fun w hSw => ?_) hHeld ?_
                  · (try dsimp only at hSw); go_simp
                  simp only [Act.put, List.setIfInBounds_toArray, List.set_cons_zero, List.set_cons_succ]
                  refine wpAnyH_ready (rs := [12]) (by kernel_rfl) (by simp) ?_
                  refine node_f40 86 85 (.agg #[.int .i64 (j : Int), .int .i64 ((j : Int) + 1), .int .i64 (m : Int), .int .i64 1]) rfl rfl rfl rfl rfl ?_ AllReadyH.nil
                  · refine (gratio_any _ _ m _ hm (by omega)).mono ?_
                    rintro e w7 ⟨x7, rfl, hz7, hb7⟩
                    replace hHeld : w7.heap[Y]? = some (.cells #[.int .i64 (j : Int), .int .i64 ((j : Int) + 1), .int .i64 (m : Int), .int .i64 1] 39) ∧ w7.cell? ⟨Gs, j * 4, none⟩ = some (.bool b6) ∧ w7.cell? ⟨Gs, j * 4 + 1, none⟩ = some (.slice a6 n6 c6) ∧ w7.cell? ⟨Gs, j * 4 + 2, none⟩ = some (.bool false) ∧ w7.cell? ⟨Gs, j * 4 + 3, none⟩ = some (.slice (some ⟨g6, 0, none⟩) 1 d6) := ⟨cells_box hHeld.1 hb7, (hb7.cell (World.block_lt_of_cell? _ _ hHeld.2.1)).trans hHeld.2.1, (hb7.cell (World.block_lt_of_cell? _ _ hHeld.2.2.1)).trans hHeld.2.2.1, (hb7.cell (World.block_lt_of_cell? _ _ hHeld.2.2.2.1)).trans hHeld.2.2.2.1, (hb7.cell (World.block_lt_of_cell? _ _ hHeld.2.2.2.2)).trans hHeld.2.2.2.2⟩
                    replace HBq := hid (below_step HBq.out hb7)
                    replace HSq := hid (HSq.out.below hb7)
                    replace HPq := hid (HPq.out.below hb7)
                    replace HZ6 := hid (HZ6.out.below hb7)
                    have HZ7 := hid hz7
                    obtain ⟨a7, n7, c7, g7, d7, hx7, _, _⟩ := hz7
                    obtain ⟨b7, hb7e⟩ : ∃ b7 : Bool, b7 = decide ((m : Int) < 0) := ⟨_, rfl⟩
                    rw [← hb7e] at hx7
                    subst hx7
                    clear hb7 hb7e
                    refine ⟨_, rfl, hHeld, ?_⟩
                    simp only [Act.put, List.setIfInBounds_toArray, List.set_cons_zero, List.set_cons_succ]
                    refine wpAnyH_ready (rs := [13]) (by kernel_rfl) (by simp) ?_
                    refine node_f39 87 84 86 (.agg #[.bool b6, .slice a6 n6 c6, .bool false, .slice (some ⟨g6, 0, none⟩) 1 d6]) (.agg #[.bool b7, .slice a7 n7 c7, .bool false, .slice (some ⟨g7, 0, none⟩) 1 d7]) rfl rfl rfl rfl rfl rfl ?_ AllReadyH.nil
                    · refine (rmul_any _ _ _ _ _ HZ6.out HZ7.out HMB.out).mono ?_
                      rintro e w8 ⟨x8, rfl, hz8, hb8⟩
                      replace hHeld : w8.heap[Y]? = some (.cells #[.int .i64 (j : Int), .int .i64 ((j : Int) + 1), .int .i64 (m : Int), .int .i64 1] 39) ∧ w8.cell? ⟨Gs, j * 4, none⟩ = some (.bool b6) ∧ w8.cell? ⟨Gs, j * 4 + 1, none⟩ = some (.slice a6 n6 c6) ∧ w8.cell? ⟨Gs, j * 4 + 2, none⟩ = some (.bool false) ∧ w8.cell? ⟨Gs, j * 4 + 3, none⟩ = some (.slice (some ⟨g6, 0, none⟩) 1 d6) := ⟨cells_box hHeld.1 hb8, (hb8.cell (World.block_lt_of_cell? _ _ hHeld.2.1)).trans hHeld.2.1, (hb8.cell (World.block_lt_of_cell? _ _ hHeld.2.2.1)).trans hHeld.2.2.1, (hb8.cell (World.block_lt_of_cell? _ _ hHeld.2.2.2.1)).trans hHeld.2.2.2.1, (hb8.cell (World.block_lt_of_cell? _ _ hHeld.2.2.2.2)).trans hHeld.2.2.2.2⟩
                      replace HBq := hid (below_step HBq.out hb8)
                      replace HSq := hid (HSq.out.below hb8)
                      replace HPq := hid (HPq.out.below hb8)
                      replace HZ6 := hid (HZ6.out.below hb8)
                      have HZ8 : Hid (RatZ w8 x8 ((m ^ (j + 1) : Nat) : Int)) := hid (by rw [HPW2.out]; exact hz8)
                      obtain ⟨a8, n8, c8, g8, d8, hx8, _, _⟩ := hz8
                      obtain ⟨b8, hb8e⟩ : ∃ b8 : Bool, b8 = decide (((m ^ j : Nat) : Int) * (m : Int) < 0) := ⟨_, rfl⟩
                      rw [← hb8e] at hx8
                      subst hx8
                      clear hb8 hb8e
                      refine ⟨_, rfl, hHeld, ?_⟩
                      simp only [Act.put, List.setIfInBounds_toArray, List.set_cons_zero, List.set_cons_succ]
                      refine take_at (i := 15) 89 (v := .pointer (some ⟨Gs, (j + 1) * 4, none⟩)) rfl (by kernel_rfl) (by kernel_rfl) (by kernel_rfl) rfl (fun _ _ _ h => h) (by rfl) (fun w hSw => ?_) hHeld ?_
                      · (try dsimp only at hSw); go_simp; first | done | (intro h; exact absurd (h (by omega)) (by omega))
                      simp only [Act.put, List.setIfInBounds_toArray, List.set_cons_zero, List.set_cons_succ]
                      refine wpAnyH_ready (rs := [16]) (by kernel_rfl) (by simp) ?_
                      obtain ⟨X0, X1, X2, X3, k0, k1, k2, k3, hf⟩ := HSq.out.has (j + 1) (by omega)
                      obtain ⟨cs8, hcs8, _⟩ := id HSq.out
                      have hS8 : (putAt w8 Gs ((j + 1) * 4) b8 a8 n8 c8 false (some ⟨g8, 0, none⟩) 1 d8).heap[Y]? = some (.cells #[.int .i64 (j : Int), .int .i64 ((j : Int) + 1), .int .i64 (m : Int), .int .i64 1] 39) ∧ (putAt w8 Gs ((j + 1) * 4) b8 a8 n8 c8 false (some ⟨g8, 0, none⟩) 1 d8).cell? ⟨Gs, j * 4, none⟩ = some (.bool b6) ∧ (putAt w8 Gs ((j + 1) * 4) b8 a8 n8 c8 false (some ⟨g8, 0, none⟩) 1 d8).cell? ⟨Gs, j * 4 + 1, none⟩ = some (.slice a6 n6 c6) ∧ (putAt w8 Gs ((j + 1) * 4) b8 a8 n8 c8 false (some ⟨g8, 0, none⟩) 1 d8).cell? ⟨Gs, j * 4 + 2, none⟩ = some (.bool false) ∧ (putAt w8 Gs ((j + 1) * 4) b8 a8 n8 c8 false (some ⟨g8, 0, none⟩) 1 d8).cell? ⟨Gs, j * 4 + 3, none⟩ = some (.slice (some ⟨g6, 0, none⟩) 1 d6) := ⟨(putAt_off _ (Ne.symm HYS.out)).trans hHeld.1, (putAt_cell hcs8 (.inl (by omega))).trans hHeld.2.1, (putAt_cell hcs8 (.inl (by omega))).trans hHeld.2.2.1, (putAt_cell hcs8 (.inl (by omega))).trans hHeld.2.2.2.1, (putAt_cell hcs8 (.inl (by omega))).trans hHeld.2.2.2.2⟩
                      refine node_storeAt 89 87 Gs ((j + 1) * 4) X0 X1 X2 X3 b8 false a8 (some ⟨g8, 0, none⟩) n8 c8 1 d8 rfl rfl rfl rfl rfl rfl k0 k1 k2 k3 hf hS8 ?_ AllReadyH.nil
                      · have HSp : Hid (SpL (putAt w8 Gs ((j + 1) * 4) b8 a8 n8 c8 false (some ⟨g8, 0, none⟩) 1 d8) Gs n (j + 2) m) := hid (HSq.out.set (by omega) HZ8.out)
                        have HPp : Hid (PtL (putAt w8 Gs ((j + 1) * 4) b8 a8 n8 c8 false (some ⟨g8, 0, none⟩) 1 d8) Gp n (j + 1)) := hid ((putAt_off _ HNE.out).trans HPq.out)
                        have HBp : Hid (Below w.heap.size w (putAt w8 Gs ((j + 1) * 4) b8 a8 n8 c8 false (some ⟨g8, 0, none⟩) 1 d8)) := hid (putAt_below HBq.out HGW.out)
                        have HYp : Hid (Y ≠ Gp) := HYP
                        clear hHeld k0 k1 k2 k3 hf hcs8
                        have hHeld := hS8
                        clear hS8 HSq HPq HBq HZ6 HZ7 HZ8
                        generalize putAt w8 Gs ((j + 1) * 4) b8 a8 n8 c8 false (some ⟨g8, 0, none⟩) 1 d8 = w9 at *
                        refine take_at (i := 17) 90 (v := .pointer (some ⟨Gp, j + 1, none⟩)) rfl (by kernel_rfl) (by kernel_rfl) (by kernel_rfl) rfl (fun _ _ _ h => h) (by rfl) (fun w hSw => ?_) hHeld ?_
                        · (try dsimp only at hSw); go_simp; first | done | (intro h; exact absurd (h (by omega)) (by omega))
                        simp only [Act.put, List.setIfInBounds_toArray, List.set_cons_zero, List.set_cons_succ]
                        refine wpAnyH_ready (rs := [18]) (by kernel_rfl) (by simp) ?_
                        have hS9 : (w9.setCell ⟨Gp, j + 1, none⟩ (.int .i64 0)).heap[Y]? = some (.cells #[.int .i64 (j : Int), .int .i64 ((j : Int) + 1), .int .i64 (m : Int), .int .i64 1] 39) ∧ (w9.setCell ⟨Gp, j + 1, none⟩ (.int .i64 0)).cell? ⟨Gs, j * 4, none⟩ = some (.bool b6) ∧ (w9.setCell ⟨Gp, j + 1, none⟩ (.int .i64 0)).cell? ⟨Gs, j * 4 + 1, none⟩ = some (.slice a6 n6 c6) ∧ (w9.setCell ⟨Gp, j + 1, none⟩ (.int .i64 0)).cell? ⟨Gs, j * 4 + 2, none⟩ = some (.bool false) ∧ (w9.setCell ⟨Gp, j + 1, none⟩ (.int .i64 0)).cell? ⟨Gs, j * 4 + 3, none⟩ = some (.slice (some ⟨g6, 0, none⟩) 1 d6) := ⟨(set_other HYp.out).trans hHeld.1, (cell_same (set_other (Ne.symm HNE.out))).trans hHeld.2.1, (cell_same (set_other (Ne.symm HNE.out))).trans hHeld.2.2.1, (cell_same (set_other (Ne.symm HNE.out))).trans hHeld.2.2.2.1, (cell_same (set_other (Ne.symm HNE.out))).trans hHeld.2.2.2.2⟩
                        refine node_store3 90 88 Gp (j + 1) _ _ rfl rfl rfl rfl rfl rfl (HPp.out.hi (j + 1) (Nat.le_refl _) (by omega)) (free_box HPp.out _) hS9 ?_ AllReadyH.nil
                        · clear hHeld
                          have hHeld := hS9
                          clear hS9
                          refine take_at (i := 19) 9 (v := .bool true) rfl (by kernel_rfl) (by kernel_rfl) (by kernel_rfl) rfl (fun _ _ _ h => h) (by rfl) (fun w hSw => ?_) hHeld ?_
                          · (try dsimp only at hSw); go_simp
                          simp only [Act.put, List.setIfInBounds_toArray, List.set_cons_zero, List.set_cons_succ]
                          refine wpAnyH_done (by kernel_rfl) ?_ _
                          clear hHeld
                          go_wp2_with fail
                          go_roundw
                          case rel => exact ⟨j + 1, true, by go_num, rfl, by omega, by show _ = _; simp, below_set HBp.out HPW.out, HSp.out.off HNE.out HPp.out.free (fun k hk => set_other hk), HPp.out.set (by omega)⟩
                          case measure => simp [intOf]; omega
                · obtain rfl : j = b := by omega
                  obtain rfl : mo = true := by rw [HMO.out]; exact decide_eq_true (by omega)
                  go_wp2_with fail
                  go_roundg 1
                  case measure => have := HG2.out; omega
                  case rel => exact ⟨n, true, rfl, HBq, by rw [HN.out]; rw [HN.out] at HSq; exact HSq, by rw [HN.out]; rw [HN.out] at HPq; exact HPq, .inr (.inl ⟨rfl, rfl, rfl⟩)⟩
            · have HGz := hid (cells_box HG.out HBz.out)
              obtain ⟨x0, x1⟩ := cells2_of HGz.out
              have HG2 := hid hg2
              clear hg2
              go_wp2_with fail
              clear x0 x1
              go_loopw [9, 49] (fun mv iv wq => ∃ (j : Nat), iv = .int .i64 (j : Int) ∧ mv = .bool false ∧ j ≤ b ∧ Hid (Below w.heap.size w wq) ∧ Hid (SpL wq Gs K K m) ∧ Hid (PtL wq Gp K K)) (fun _ iv _ => b - (intOf iv).toNat)
              case atStart => exact ⟨0, rfl, rfl, Nat.zero_le _, HBz, HSz, HPz⟩
              case round =>
                obtain ⟨j, rfl, rfl, hj, HBq, HSq, HPq⟩ := hrel
                rename World => wq
                by_cases hjb : j < b
                · have hj1 : j < K := by omega
                  have hj2 : j + 1 < K := by have := HN.out; omega
                  obtain ⟨Gb, rfl, e0, e1, e2, e3⟩ := (HV.out wq HBq.out).at j hjb
                  obtain ⟨Y, hY⟩ : ∃ Y, Y = wq.heap.size := ⟨_, rfl⟩
                  have HYB := hid (heap_alloc_new wq (.cells #[.int .i64 (j : Int), .int .i64 ((j : Int) + 1), .int .i64 (m : Int), .int .i64 1] 39))
                  have hb5 := ba wq (.cells #[.int .i64 (j : Int), .int .i64 ((j : Int) + 1), .int .i64 (m : Int), .int .i64 1] 39)
                  rw [← hY] at HYB
                  go_upto_region 13 with fail
                  rw [← hY]
                  clear hY e0 e1 e2 e3
                  replace HBq := hid (below_step HBq.out hb5)
                  replace HSq := hid (HSq.out.below hb5)
                  replace HPq := hid (HPq.out.below hb5)
                  clear hb5
                  generalize wq.alloc (.cells #[.int .i64 (j : Int), .int .i64 ((j : Int) + 1), .int .i64 (m : Int), .int .i64 1] 39) = w5 at *
                  obtain ⟨y0, y1, y2, y3⟩ := belt_of HYB.out
                  have p0 := HPq.out.lo j (by omega)
                  have p1 := HPq.out.lo (j + 1) (by omega)
                  go_wp2_with (first | (go_at_call 25; refine (none_any _ _).mono ?_; rintro e w6 ⟨rfl, rfl⟩) | fail)
                  go_roundw
                  case rel => exact ⟨j + 1, by go_num, rfl, by omega, HBq, HSq, HPq⟩
                  case measure => simp [intOf]; omega
                · obtain rfl : j = b := by omega
                  go_wp2_with fail
                  go_roundg 0
                  case measure => have := HG2.out; omega
                  case rel => exact ⟨K, false, rfl, HBq, HSq, HPq, .inr (.inr ⟨rfl, rfl, rfl⟩)⟩
            · go_wp2_with fail
              go_roundw
              case rel => exact ⟨1, K, by go_num, by omega, by show _ = _; rw [if_neg (by decide)], HBz, HSz, HPz⟩
              case measure => simp [intOf]; omega
        · obtain rfl : K = n := by have h := HK.out; rwa [if_neg hi0] at h
          have p0 := HPr.out.lo i hlt
          go_wp2_with fail
          go_roundw
          case rel => exact ⟨i + 1, K, by go_num, by omega, by show _ = _; rw [if_neg (by omega)], HBr, HSr, HPr⟩
          case measure => simp [intOf]; omega
      · obtain rfl : i = n := by omega
        obtain rfl : K = i := by have h := HK.out; rwa [if_neg (by omega)] at h
        go_wp2_with fail
        go_ret2
        exact ⟨Gs, Gp, rfl, HSr.out, HPr.out, HBr.out⟩
end Go.Proofs.YtlhmidecjiihcaaDoor
