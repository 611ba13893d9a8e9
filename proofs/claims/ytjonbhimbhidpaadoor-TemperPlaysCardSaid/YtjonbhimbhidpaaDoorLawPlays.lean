/-
  The law TemperPlays of chapter 6: its contract.
-/
import Derived.Test.YtjonbhimbhidpaaDoorBaseO
import Derived.Test.YtjonbhimbhidpaaDoorWalkAC
import Derived.Test.YtjonbhimbhidpaaDoorWalkAB
namespace Go.Proofs.YtjonbhimbhidpaaDoor
open Go.RowKit

theorem mv_at {w : World} {a : Option Addr} {n c : Nat} {xs : List Mv} (h : IsMv w (.slice a n c) xs) (i : Nat) (hi : i < xs.length) : ∃ g, a = some ⟨g, 0, none⟩ ∧ n = xs.length ∧ w.cell? ⟨g, i * 4, none⟩ = some (.int .i64 (mvAt xs i).1) ∧ w.cell? ⟨g, i * 4 + 1, none⟩ = some (.int .i64 (mvAt xs i).2.1) ∧ w.cell? ⟨g, i * 4 + 2, none⟩ = some (.int .i64 (mvAt xs i).2.2.1) ∧ w.cell? ⟨g, i * 4 + 3, none⟩ = some (.int .i64 (mvAt xs i).2.2.2) := by
  obtain ⟨a', c', hv, _, hc⟩ := h
  cases hv
  obtain ⟨g, h1, h2⟩ := hc i hi
  exact ⟨g, h1, rfl, h2⟩
theorem jl_at {w : World} {a : Option Addr} {n c : Nat} {xs : List (Int × Int)} (h : IsJl w (.slice a n c) xs) (i : Nat) (hi : i < xs.length) : ∃ g, a = some ⟨g, 0, none⟩ ∧ n = xs.length ∧ w.cell? ⟨g, i * 2, none⟩ = some (.int .i64 (jlAt xs i).1) ∧ w.cell? ⟨g, i * 2 + 1, none⟩ = some (.int .i64 (jlAt xs i).2) := by
  obtain ⟨a', c', hv, _, hc⟩ := h
  cases hv
  obtain ⟨g, h1, h2⟩ := hc i hi
  exact ⟨g, h1, rfl, h2⟩
theorem sp_at {w : World} {B : Nat} {e : TypeId} {a : Option Addr} {n c : Nat} {xs : List Sp} (h : OwnS w B e (.slice a n c) xs) (i : Nat) (hi : i < xs.length) : ∃ g, a = some ⟨g, 0, none⟩ ∧ w.cell? ⟨g, i * 3, none⟩ = some (.int .i64 (sAt xs i).1) ∧ w.cell? ⟨g, i * 3 + 1, none⟩ = some (.int .i64 (sAt xs i).2.1) ∧ w.cell? ⟨g, i * 3 + 2, none⟩ = some (.int .i64 (sAt xs i).2.2) := by
  obtain ⟨a', c', hv, _, hc⟩ := ownS_isSp h
  cases hv
  exact hc i hi
theorem sAt_play (o : Ov) (s : Sp) (js : List Int) (i : Nat) (h : i < js.length) : sAt (o.play s js) i = o.walk s js (i + 1) := by
  unfold sAt
  rw [List.getD_eq_getElem?_getD, List.getElem?_eq_getElem (by rw [play_len]; exact h)]
  simp [Ov.play]
theorem mv5 {P : Nat} {m : Mv} (h : mvOk P m = true) : (-5 ≤ m.2.2.1 ∧ m.2.2.1 ≤ 5) ∧ (-5 ≤ m.2.2.2 ∧ m.2.2.2 ≤ 5) := by
  unfold mvOk within5 at h
  simp only [Bool.and_eq_true, decide_eq_true_eq] at h
  exact ⟨h.1.2, h.2⟩
theorem jl5 {j : Int × Int} (h : jlOk j = true) : (-5 ≤ j.1 ∧ j.1 ≤ 5) ∧ (-5 ≤ j.2 ∧ j.2 ≤ 5) := by
  unfold jlOk within5 at h
  simp only [Bool.and_eq_true, decide_eq_true_eq] at h
  exact h
theorem ints_at {w : World} {a : Option Addr} {n c : Nat} {xs : List Int} (h : IsInts w (.slice a n c) xs) (i : Nat) (hi : i < xs.length) : ∃ g, a = some ⟨g, 0, none⟩ ∧ w.cell? ⟨g, i, none⟩ = some (.int .i64 (xs.getD i 0)) := by
  obtain ⟨a', c', hv, _, hc⟩ := h
  cases hv
  exact hc i hi
theorem all_at {α : Type} {f : α → Bool} {xs : List α} {d : α} (h : xs.all f = true) {i : Nat} (hi : i < xs.length) : f (xs.getD i d) = true := by
  rw [List.all_eq_true] at h
  refine h _ ?_
  rw [List.getD_eq_getElem?_getD, List.getElem?_eq_getElem hi]
  exact List.getElem_mem hi
theorem all_snoc {f : Int → Bool} {xs : List Int} {i : Nat} (hi : i < xs.length) (h : (xs.take i).all f = true) (h2 : f (xs.getD i 0) = true) : (xs.take (i + 1)).all f = true := by
  rw [List.take_succ_eq_append_getElem hi, List.all_append, h, List.all_cons, List.all_nil, Bool.and_true, Bool.true_and]
  rw [List.getD_eq_getElem?_getD, List.getElem?_eq_getElem hi] at h2
  exact h2

set_option maxHeartbeats 8000000 in
set_option maxRecDepth 100000 in
theorem TemperPlays_ok (vs vm vj : Value) (o : Ov) (c : Sp) (v : Value) (xs : List Int) (w : World) (ho : ArgOv w vs vm vj o) (hbig : o.Big) (hx : ArgInts w v xs) :
    Calls Tryd.prog 10 #[.agg #[vs, vm, vj], spv c, v] w fun e w' => e = .returned (.bool true) ∧ Below w.heap.size w w' := by
  obtain ⟨q, hq⟩ : ∃ q, q = cutOv o := ⟨_, rfl⟩
  have HQN : Hid q.Num := by rw [hq]; exact num_cut hbig
  obtain ⟨js, hjs⟩ : ∃ js, js = xs.take 201 := ⟨_, rfl⟩
  obtain ⟨k, hk⟩ : ∃ k, k = min xs.length 201 := ⟨_, rfl⟩
  have hkl : js.length = k := by rw [hjs, List.length_take, hk, Nat.min_comm]
  obtain ⟨a, cc, rfl, hc1, hc2, hc3, hrd⟩ := rd_ints hx k 201 hk
  rw [← hjs] at hrd
  obtain ⟨L, hL⟩ : ∃ L, L = xs.length := ⟨_, rfl⟩
  rw [← hL] at hk hc1 ⊢
  have mn : min ((L : Nat) : Int) 201 = (k : Int) := by omega
  have hk1 : k ≤ L := by omega
  have hk2 : k ≤ 201 := by omega
  have hsl := slice_to Tryd.underlying36 (sz := 1) (fun w => by kernel_rfl) a L cc k hk1 hc1 hc3
  have HRD := hid hrd
  have HKL := hid hkl
  unfold maxLen at hc2
  have q1 : (0 : Int) ≤ (k : Int) := by omega
  have q2 : (k : Int) ≤ (cc : Int) := by omega
  obtain ⟨p, x, y⟩ := c
  obtain ⟨hb2, hz2, k0, k1⟩ := alloc2 w (.cells #[vs, vm, vj] 26) (.cells #[.int .i64 p, .int .i64 x, .int .i64 y] 28)
  obtain ⟨W, hW⟩ : ∃ W, W = ((w.alloc (.cells #[vs, vm, vj] 26)).alloc (.cells #[.int .i64 p, .int .i64 x, .int .i64 y] 28)) := ⟨_, rfl⟩
  rw [← hW] at hb2 hz2 k0 k1
  have HB := hid hb2
  have HW := hid hW
  have HZ := hid hz2
  have HK1 := hid k1
  obtain ⟨u0, u1, u2⟩ := cells3_of k0
  have KEEP : Hid (∀ w', Below W.heap.size W w' → w'.cell? ⟨w.heap.size, 0, none⟩ = some vs ∧ w'.cell? ⟨w.heap.size, 1, none⟩ = some vm ∧ w'.cell? ⟨w.heap.size, 2, none⟩ = some vj ∧ Hid (Below W.heap.size W w')) := fun w' hb => ⟨(hb.cell (p := ⟨_, 0, none⟩) (by show w.heap.size < _; omega)).trans u0, (hb.cell (p := ⟨_, 1, none⟩) (by show w.heap.size < _; omega)).trans u1, (hb.cell (p := ⟨_, 2, none⟩) (by show w.heap.size < _; omega)).trans u2, hb⟩
  have CUT : Hid (∀ w', Below W.heap.size W w' → Calls Tryd.prog 14 #[.agg #[vs, vm, vj]] w' fun e w'' => ∃ vs' vm' vj', e = .returned (.agg #[vs', vm', vj']) ∧ OwnOv w'' w'.heap.size vs' vm' vj' q ∧ Below w'.heap.size w' w'') := fun w' hb => by
    rw [hq]; exact cut_own vs vm vj o w' (argOv_below ho (hb2.trans (hb.mono hb2.size)))
  have HQE : Hid (∀ (w' : World) B a b c, OwnOv w' B a b c q → IsOv w' a b c q) := fun w' B a b c h => by rw [hq] at h ⊢; exact cutOv_isOv h
  unfold spv
  simp only
  clear hx hrd hc1 hc2 hc3 hk hL hjs hq ho hbig hb2 hz2 k0 k1 hW u0 u1 u2 hk1 hkl
  go_enter Tryd.func10, Tryd.ntmps10
  go_upto_region 1 with fail
  rw [← HW.out]
  go_cut [7, 8] (fun v7 v8 wx => ∃ X a1 n1 c1 a2 n2 c2 a3 n3 c3 a4 n4 c4, v7 = .pointer (some ⟨X, 0, none⟩) ∧ v8 = .slice a4 n4 c4 ∧ W.heap.size ≤ X ∧ wx.heap[X]? = some (.cells #[.slice a1 n1 c1, .slice a2 n2 c2, .slice a3 n3 c3] 26) ∧ Hid (OwnOv wx W.heap.size (.slice a1 n1 c1) (.slice a2 n2 c2) (.slice a3 n3 c3) q) ∧ Hid (wx.ownsRow W.heap.size 3 1 (.slice a4 n4 c4) js.length (ints js)) ∧ Hid (Below W.heap.size W wx))
  case first =>
    refine wp_region_held_drew (S := fun w' => w'.cell? ⟨w.heap.size, 0, none⟩ = some vs ∧ w'.cell? ⟨w.heap.size, 1, none⟩ = some vm ∧ w'.cell? ⟨w.heap.size, 2, none⟩ = some vj ∧ Hid (Below W.heap.size W w')) (by kernel_rfl) (KEEP.out _ ((Below.refl _ _).drew)) (fun hHeld => ?_)
    refine take_at (i := 0) 15 (v := .agg #[vs, vm, vj]) rfl (by kernel_rfl) (by kernel_rfl) (by kernel_rfl) rfl (fun _ _ _ h => h) (by rfl) (fun w hSw => ?_) hHeld ?_
    · (try dsimp only at hSw); go_simp
    simp only [Act.put, List.setIfInBounds_toArray, List.set_cons_zero, List.set_cons_succ]
    refine take_at (i := 3) 18 (v := .slice a L cc) rfl (by kernel_rfl) (by kernel_rfl) (by kernel_rfl) rfl (fun _ _ _ h => h) (by rfl) (fun w hSw => ?_) hHeld ?_
    · (try dsimp only at hSw); go_simp
    simp only [Act.put, List.setIfInBounds_toArray, List.set_cons_zero, List.set_cons_succ]
    refine take_at (i := 4) 19 (v := .slice a L cc) rfl (by kernel_rfl) (by kernel_rfl) (by kernel_rfl) rfl (fun _ _ _ h => h) (by rfl) (fun w hSw => ?_) hHeld ?_
    · (try dsimp only at hSw); go_simp
    simp only [Act.put, List.setIfInBounds_toArray, List.set_cons_zero, List.set_cons_succ]
    refine take_at (i := 5) 20 (v := .int .i64 L) rfl (by kernel_rfl) (by kernel_rfl) (by kernel_rfl) rfl (fun _ _ _ h => h) (by rfl) (fun w hSw => ?_) hHeld ?_
    · (try dsimp only at hSw); go_simp
    simp only [Act.put, List.setIfInBounds_toArray, List.set_cons_zero, List.set_cons_succ]
    refine take_at (i := 6) 21 (v := .int .i64 k) rfl (by kernel_rfl) (by kernel_rfl) (by kernel_rfl) rfl (fun _ _ _ h => h) (by rfl) (fun w hSw => ?_) hHeld ?_
    · (try dsimp only at hSw); go_simp
    simp only [Act.put, List.setIfInBounds_toArray, List.set_cons_zero, List.set_cons_succ]
    refine take_at (i := 7) 22 (v := .slice a k cc) rfl (by kernel_rfl) (by kernel_rfl) (by kernel_rfl) rfl (fun _ _ _ h => h) (by rfl) (fun w hSw => ?_) hHeld ?_
    · (try dsimp only at hSw); go_simp
    simp only [Act.put, List.setIfInBounds_toArray, List.set_cons_zero, List.set_cons_succ]
    have R0 := R3.start W q js
    refine wpAnyH_ready (rs := [1, 2, 9]) (by kernel_rfl) (by simp) ?_
    refine node_call14 16 15 _ rfl rfl rfl rfl rfl ((CUT.out _ R0.below).mono ?_) ?_
    · rintro e w6 ⟨us, um, uj, rfl, ho6, hb6⟩
      obtain ⟨b1, d1, rfl⟩ := ownG_slice ho6.g
      obtain ⟨b2, d2, rfl⟩ := row_slice ho6.mv
      obtain ⟨b3, d3, rfl⟩ := row_slice ho6.jl
      have R1 := R0.cut hb6 ho6
      refine ⟨_, rfl, KEEP.out _ R1.below, ?_⟩
      clear hb6 ho6 R0
      simp only [Act.put, List.setIfInBounds_toArray, List.set_cons_zero, List.set_cons_succ]
      refine wpAnyH_ready (rs := [2, 9]) (by kernel_rfl) (by simp) ?_
      refine node_build0 36 3 1 17 Tryd.underlying36 (fun w => by kernel_rfl) rfl rfl rfl rfl (KEEP.out _ R1.build.below) (fun hHeld => ?_) ?_
      · have R2 := R1.build
        clear R1
        simp only [Act.put, List.setIfInBounds_toArray, List.set_cons_zero, List.set_cons_succ]
        refine wpAnyH_ready (rs := [8, 9]) (by kernel_rfl) (by simp) ?_
        refine node_app 23 W.heap.size (.tmp 17) (.tmp 22) 36 3 _ 1 8 info3 rfl (by decide) Tryd.underlying36 _ k (ints js) _ rfl rfl rfl rfl rfl rfl (rd_below HRD.out (HB.out.trans (R2.below.mono HB.out.size))) (R2.h2 _ rfl).2 (R2.h2 _ rfl).1 (by omega) ?_ ?_
        · intro sa sn sc w7 ho7 hg7
          have R3 := R2.app hg7.out (by rw [HKL.out]; exact ho7.out)
          refine ⟨KEEP.out _ R3.below, ?_⟩
          clear ho7 hg7 R2
          simp only [Act.put, List.setIfInBounds_toArray, List.set_cons_zero, List.set_cons_succ]
          refine wpAnyH_ready (rs := [9]) (by kernel_rfl) (by simp) ?_
          refine node_alloc26 7 rfl rfl rfl rfl (KEEP.out _ R3.box.below) (fun hHeld => ?_) AllReadyH.nil
          · have R4 := R3.box
            clear R3
            simp only [Act.put, List.setIfInBounds_toArray, List.set_cons_zero, List.set_cons_succ]
            have hf := R4.fin
            refine wpAnyH_ready (rs := [10]) (by kernel_rfl) (by simp) ?_
            refine node_store26 7 16 _ _ _ _ _ _ _ _ _ _ _ _ _ rfl rfl rfl rfl rfl rfl (R4.h9 _ rfl).2 (KEEP.out _ hf.2.2.2.2) ?_ AllReadyH.nil
            have hHeld := KEEP.out _ hf.2.2.2.2
            refine take_at (i := 11) 8 (v := .slice sa sn sc) rfl (by kernel_rfl) (by kernel_rfl) (by kernel_rfl) rfl (fun _ _ _ h => h) (by rfl) (fun w hSw => ?_) hHeld ?_
            · (try dsimp only at hSw); go_simp
            simp only [Act.put, List.setIfInBounds_toArray, List.set_cons_zero, List.set_cons_succ]
            refine wpAnyH_done (by kernel_rfl) ?_ _
            go_wp2_with fail
            go_meet
            exact ⟨_, _, _, _, _, _, _, _, _, _, _, _, _, rfl, rfl, hf.1, hf.2.1, hf.2.2.1, hf.2.2.2.1, hf.2.2.2.2⟩
        refine node_alloc26 7 rfl rfl rfl rfl (KEEP.out _ R2.box.below) (fun hHeld => ?_) AllReadyH.nil
        · have R3 := R2.box
          clear R2
          simp only [Act.put, List.setIfInBounds_toArray, List.set_cons_zero, List.set_cons_succ]
          refine wpAnyH_ready (rs := [8]) (by kernel_rfl) (by simp) ?_
          refine node_app 23 W.heap.size (.tmp 17) (.tmp 22) 36 3 _ 1 8 info3 rfl (by decide) Tryd.underlying36 _ k (ints js) _ rfl rfl rfl rfl rfl rfl (rd_below HRD.out (HB.out.trans (R3.below.mono HB.out.size))) (R3.h2 _ rfl).2 (R3.h2 _ rfl).1 (by omega) ?_ AllReadyH.nil
          · intro sa sn sc w7 ho7 hg7
            have R4 := R3.app hg7.out (by rw [HKL.out]; exact ho7.out)
            refine ⟨KEEP.out _ R4.below, ?_⟩
            clear ho7 hg7 R3
            simp only [Act.put, List.setIfInBounds_toArray, List.set_cons_zero, List.set_cons_succ]
            have hf := R4.fin
            refine wpAnyH_ready (rs := [10]) (by kernel_rfl) (by simp) ?_
            refine node_store26 7 16 _ _ _ _ _ _ _ _ _ _ _ _ _ rfl rfl rfl rfl rfl rfl (R4.h9 _ rfl).2 (KEEP.out _ hf.2.2.2.2) ?_ AllReadyH.nil
            have hHeld := KEEP.out _ hf.2.2.2.2
            refine take_at (i := 11) 8 (v := .slice sa sn sc) rfl (by kernel_rfl) (by kernel_rfl) (by kernel_rfl) rfl (fun _ _ _ h => h) (by rfl) (fun w hSw => ?_) hHeld ?_
            · (try dsimp only at hSw); go_simp
            simp only [Act.put, List.setIfInBounds_toArray, List.set_cons_zero, List.set_cons_succ]
            refine wpAnyH_done (by kernel_rfl) ?_ _
            go_wp2_with fail
            go_meet
            exact ⟨_, _, _, _, _, _, _, _, _, _, _, _, _, rfl, rfl, hf.1, hf.2.1, hf.2.2.1, hf.2.2.2.1, hf.2.2.2.2⟩
      refine node_alloc26 7 rfl rfl rfl rfl (KEEP.out _ R1.box.below) (fun hHeld => ?_) AllReadyH.nil
      · have R2 := R1.box
        clear R1
        simp only [Act.put, List.setIfInBounds_toArray, List.set_cons_zero, List.set_cons_succ]
        refine wpAnyH_ready (rs := [2]) (by kernel_rfl) (by simp) ?_
        refine node_build0 36 3 1 17 Tryd.underlying36 (fun w => by kernel_rfl) rfl rfl rfl rfl (KEEP.out _ R2.build.below) (fun hHeld => ?_) AllReadyH.nil
        · have R3 := R2.build
          clear R2
          simp only [Act.put, List.setIfInBounds_toArray, List.set_cons_zero, List.set_cons_succ]
          refine wpAnyH_ready (rs := [8]) (by kernel_rfl) (by simp) ?_
          refine node_app 23 W.heap.size (.tmp 17) (.tmp 22) 36 3 _ 1 8 info3 rfl (by decide) Tryd.underlying36 _ k (ints js) _ rfl rfl rfl rfl rfl rfl (rd_below HRD.out (HB.out.trans (R3.below.mono HB.out.size))) (R3.h2 _ rfl).2 (R3.h2 _ rfl).1 (by omega) ?_ AllReadyH.nil
          · intro sa sn sc w7 ho7 hg7
            have R4 := R3.app hg7.out (by rw [HKL.out]; exact ho7.out)
            refine ⟨KEEP.out _ R4.below, ?_⟩
            clear ho7 hg7 R3
            simp only [Act.put, List.setIfInBounds_toArray, List.set_cons_zero, List.set_cons_succ]
            have hf := R4.fin
            refine wpAnyH_ready (rs := [10]) (by kernel_rfl) (by simp) ?_
            refine node_store26 7 16 _ _ _ _ _ _ _ _ _ _ _ _ _ rfl rfl rfl rfl rfl rfl (R4.h9 _ rfl).2 (KEEP.out _ hf.2.2.2.2) ?_ AllReadyH.nil
            have hHeld := KEEP.out _ hf.2.2.2.2
            refine take_at (i := 11) 8 (v := .slice sa sn sc) rfl (by kernel_rfl) (by kernel_rfl) (by kernel_rfl) rfl (fun _ _ _ h => h) (by rfl) (fun w hSw => ?_) hHeld ?_
            · (try dsimp only at hSw); go_simp
            simp only [Act.put, List.setIfInBounds_toArray, List.set_cons_zero, List.set_cons_succ]
            refine wpAnyH_done (by kernel_rfl) ?_ _
            go_wp2_with fail
            go_meet
            exact ⟨_, _, _, _, _, _, _, _, _, _, _, _, _, rfl, rfl, hf.1, hf.2.1, hf.2.2.1, hf.2.2.2.1, hf.2.2.2.2⟩
    refine node_build0 36 3 1 17 Tryd.underlying36 (fun w => by kernel_rfl) rfl rfl rfl rfl (KEEP.out _ R0.build.below) (fun hHeld => ?_) ?_
    · have R1 := R0.build
      clear R0
      simp only [Act.put, List.setIfInBounds_toArray, List.set_cons_zero, List.set_cons_succ]
      refine wpAnyH_ready (rs := [1, 9]) (by kernel_rfl) (by simp) ?_
      refine node_call14 16 15 _ rfl rfl rfl rfl rfl ((CUT.out _ R1.below).mono ?_) ?_
      · rintro e w6 ⟨us, um, uj, rfl, ho6, hb6⟩
        obtain ⟨b1, d1, rfl⟩ := ownG_slice ho6.g
        obtain ⟨b2, d2, rfl⟩ := row_slice ho6.mv
        obtain ⟨b3, d3, rfl⟩ := row_slice ho6.jl
        have R2 := R1.cut hb6 ho6
        refine ⟨_, rfl, KEEP.out _ R2.below, ?_⟩
        clear hb6 ho6 R1
        simp only [Act.put, List.setIfInBounds_toArray, List.set_cons_zero, List.set_cons_succ]
        refine wpAnyH_ready (rs := [8, 9]) (by kernel_rfl) (by simp) ?_
        refine node_app 23 W.heap.size (.tmp 17) (.tmp 22) 36 3 _ 1 8 info3 rfl (by decide) Tryd.underlying36 _ k (ints js) _ rfl rfl rfl rfl rfl rfl (rd_below HRD.out (HB.out.trans (R2.below.mono HB.out.size))) (R2.h2 _ rfl).2 (R2.h2 _ rfl).1 (by omega) ?_ ?_
        · intro sa sn sc w7 ho7 hg7
          have R3 := R2.app hg7.out (by rw [HKL.out]; exact ho7.out)
          refine ⟨KEEP.out _ R3.below, ?_⟩
          clear ho7 hg7 R2
          simp only [Act.put, List.setIfInBounds_toArray, List.set_cons_zero, List.set_cons_succ]
          refine wpAnyH_ready (rs := [9]) (by kernel_rfl) (by simp) ?_
          refine node_alloc26 7 rfl rfl rfl rfl (KEEP.out _ R3.box.below) (fun hHeld => ?_) AllReadyH.nil
          · have R4 := R3.box
            clear R3
            simp only [Act.put, List.setIfInBounds_toArray, List.set_cons_zero, List.set_cons_succ]
            have hf := R4.fin
            refine wpAnyH_ready (rs := [10]) (by kernel_rfl) (by simp) ?_
            refine node_store26 7 16 _ _ _ _ _ _ _ _ _ _ _ _ _ rfl rfl rfl rfl rfl rfl (R4.h9 _ rfl).2 (KEEP.out _ hf.2.2.2.2) ?_ AllReadyH.nil
            have hHeld := KEEP.out _ hf.2.2.2.2
            refine take_at (i := 11) 8 (v := .slice sa sn sc) rfl (by kernel_rfl) (by kernel_rfl) (by kernel_rfl) rfl (fun _ _ _ h => h) (by rfl) (fun w hSw => ?_) hHeld ?_
            · (try dsimp only at hSw); go_simp
            simp only [Act.put, List.setIfInBounds_toArray, List.set_cons_zero, List.set_cons_succ]
            refine wpAnyH_done (by kernel_rfl) ?_ _
            go_wp2_with fail
            go_meet
            exact ⟨_, _, _, _, _, _, _, _, _, _, _, _, _, rfl, rfl, hf.1, hf.2.1, hf.2.2.1, hf.2.2.2.1, hf.2.2.2.2⟩
        refine node_alloc26 7 rfl rfl rfl rfl (KEEP.out _ R2.box.below) (fun hHeld => ?_) AllReadyH.nil
        · have R3 := R2.box
          clear R2
          simp only [Act.put, List.setIfInBounds_toArray, List.set_cons_zero, List.set_cons_succ]
          refine wpAnyH_ready (rs := [8]) (by kernel_rfl) (by simp) ?_
          refine node_app 23 W.heap.size (.tmp 17) (.tmp 22) 36 3 _ 1 8 info3 rfl (by decide) Tryd.underlying36 _ k (ints js) _ rfl rfl rfl rfl rfl rfl (rd_below HRD.out (HB.out.trans (R3.below.mono HB.out.size))) (R3.h2 _ rfl).2 (R3.h2 _ rfl).1 (by omega) ?_ AllReadyH.nil
          · intro sa sn sc w7 ho7 hg7
            have R4 := R3.app hg7.out (by rw [HKL.out]; exact ho7.out)
            refine ⟨KEEP.out _ R4.below, ?_⟩
            clear ho7 hg7 R3
            simp only [Act.put, List.setIfInBounds_toArray, List.set_cons_zero, List.set_cons_succ]
            have hf := R4.fin
            refine wpAnyH_ready (rs := [10]) (by kernel_rfl) (by simp) ?_
            refine node_store26 7 16 _ _ _ _ _ _ _ _ _ _ _ _ _ rfl rfl rfl rfl rfl rfl (R4.h9 _ rfl).2 (KEEP.out _ hf.2.2.2.2) ?_ AllReadyH.nil
            have hHeld := KEEP.out _ hf.2.2.2.2
            refine take_at (i := 11) 8 (v := .slice sa sn sc) rfl (by kernel_rfl) (by kernel_rfl) (by kernel_rfl) rfl (fun _ _ _ h => h) (by rfl) (fun w hSw => ?_) hHeld ?_
            · (try dsimp only at hSw); go_simp
            simp only [Act.put, List.setIfInBounds_toArray, List.set_cons_zero, List.set_cons_succ]
            refine wpAnyH_done (by kernel_rfl) ?_ _
            go_wp2_with fail
            go_meet
            exact ⟨_, _, _, _, _, _, _, _, _, _, _, _, _, rfl, rfl, hf.1, hf.2.1, hf.2.2.1, hf.2.2.2.1, hf.2.2.2.2⟩
      refine node_alloc26 7 rfl rfl rfl rfl (KEEP.out _ R1.box.below) (fun hHeld => ?_) AllReadyH.nil
      · have R2 := R1.box
        clear R1
        simp only [Act.put, List.setIfInBounds_toArray, List.set_cons_zero, List.set_cons_succ]
        refine wpAnyH_ready (rs := [1]) (by kernel_rfl) (by simp) ?_
        refine node_call14 16 15 _ rfl rfl rfl rfl rfl ((CUT.out _ R2.below).mono ?_) AllReadyH.nil
        · rintro e w6 ⟨us, um, uj, rfl, ho6, hb6⟩
          obtain ⟨b1, d1, rfl⟩ := ownG_slice ho6.g
          obtain ⟨b2, d2, rfl⟩ := row_slice ho6.mv
          obtain ⟨b3, d3, rfl⟩ := row_slice ho6.jl
          have R3 := R2.cut hb6 ho6
          refine ⟨_, rfl, KEEP.out _ R3.below, ?_⟩
          clear hb6 ho6 R2
          simp only [Act.put, List.setIfInBounds_toArray, List.set_cons_zero, List.set_cons_succ]
          refine wpAnyH_ready (rs := [8]) (by kernel_rfl) (by simp) ?_
          refine node_app 23 W.heap.size (.tmp 17) (.tmp 22) 36 3 _ 1 8 info3 rfl (by decide) Tryd.underlying36 _ k (ints js) _ rfl rfl rfl rfl rfl rfl (rd_below HRD.out (HB.out.trans (R3.below.mono HB.out.size))) (R3.h2 _ rfl).2 (R3.h2 _ rfl).1 (by omega) ?_ AllReadyH.nil
          · intro sa sn sc w7 ho7 hg7
            have R4 := R3.app hg7.out (by rw [HKL.out]; exact ho7.out)
            refine ⟨KEEP.out _ R4.below, ?_⟩
            clear ho7 hg7 R3
            simp only [Act.put, List.setIfInBounds_toArray, List.set_cons_zero, List.set_cons_succ]
            have hf := R4.fin
            refine wpAnyH_ready (rs := [10]) (by kernel_rfl) (by simp) ?_
            refine node_store26 7 16 _ _ _ _ _ _ _ _ _ _ _ _ _ rfl rfl rfl rfl rfl rfl (R4.h9 _ rfl).2 (KEEP.out _ hf.2.2.2.2) ?_ AllReadyH.nil
            have hHeld := KEEP.out _ hf.2.2.2.2
            refine take_at (i := 11) 8 (v := .slice sa sn sc) rfl (by kernel_rfl) (by kernel_rfl) (by kernel_rfl) rfl (fun _ _ _ h => h) (by rfl) (fun w hSw => ?_) hHeld ?_
            · (try dsimp only at hSw); go_simp
            simp only [Act.put, List.setIfInBounds_toArray, List.set_cons_zero, List.set_cons_succ]
            refine wpAnyH_done (by kernel_rfl) ?_ _
            go_wp2_with fail
            go_meet
            exact ⟨_, _, _, _, _, _, _, _, _, _, _, _, _, rfl, rfl, hf.1, hf.2.1, hf.2.2.1, hf.2.2.2.1, hf.2.2.2.2⟩
    refine node_alloc26 7 rfl rfl rfl rfl (KEEP.out _ R0.box.below) (fun hHeld => ?_) AllReadyH.nil
    · have R1 := R0.box
      clear R0
      simp only [Act.put, List.setIfInBounds_toArray, List.set_cons_zero, List.set_cons_succ]
      refine wpAnyH_ready (rs := [1, 2]) (by kernel_rfl) (by simp) ?_
      refine node_call14 16 15 _ rfl rfl rfl rfl rfl ((CUT.out _ R1.below).mono ?_) ?_
      · rintro e w6 ⟨us, um, uj, rfl, ho6, hb6⟩
        obtain ⟨b1, d1, rfl⟩ := ownG_slice ho6.g
        obtain ⟨b2, d2, rfl⟩ := row_slice ho6.mv
        obtain ⟨b3, d3, rfl⟩ := row_slice ho6.jl
        have R2 := R1.cut hb6 ho6
        refine ⟨_, rfl, KEEP.out _ R2.below, ?_⟩
        clear hb6 ho6 R1
        simp only [Act.put, List.setIfInBounds_toArray, List.set_cons_zero, List.set_cons_succ]
        refine wpAnyH_ready (rs := [2]) (by kernel_rfl) (by simp) ?_
        refine node_build0 36 3 1 17 Tryd.underlying36 (fun w => by kernel_rfl) rfl rfl rfl rfl (KEEP.out _ R2.build.below) (fun hHeld => ?_) AllReadyH.nil
        · have R3 := R2.build
          clear R2
          simp only [Act.put, List.setIfInBounds_toArray, List.set_cons_zero, List.set_cons_succ]
          refine wpAnyH_ready (rs := [8]) (by kernel_rfl) (by simp) ?_
          refine node_app 23 W.heap.size (.tmp 17) (.tmp 22) 36 3 _ 1 8 info3 rfl (by decide) Tryd.underlying36 _ k (ints js) _ rfl rfl rfl rfl rfl rfl (rd_below HRD.out (HB.out.trans (R3.below.mono HB.out.size))) (R3.h2 _ rfl).2 (R3.h2 _ rfl).1 (by omega) ?_ AllReadyH.nil
          · intro sa sn sc w7 ho7 hg7
            have R4 := R3.app hg7.out (by rw [HKL.out]; exact ho7.out)
            refine ⟨KEEP.out _ R4.below, ?_⟩
            clear ho7 hg7 R3
            simp only [Act.put, List.setIfInBounds_toArray, List.set_cons_zero, List.set_cons_succ]
            have hf := R4.fin
            refine wpAnyH_ready (rs := [10]) (by kernel_rfl) (by simp) ?_
            refine node_store26 7 16 _ _ _ _ _ _ _ _ _ _ _ _ _ rfl rfl rfl rfl rfl rfl (R4.h9 _ rfl).2 (KEEP.out _ hf.2.2.2.2) ?_ AllReadyH.nil
            have hHeld := KEEP.out _ hf.2.2.2.2
            refine take_at (i := 11) 8 (v := .slice sa sn sc) rfl (by kernel_rfl) (by kernel_rfl) (by kernel_rfl) rfl (fun _ _ _ h => h) (by rfl) (fun w hSw => ?_) hHeld ?_
            · (try dsimp only at hSw); go_simp
            simp only [Act.put, List.setIfInBounds_toArray, List.set_cons_zero, List.set_cons_succ]
            refine wpAnyH_done (by kernel_rfl) ?_ _
            go_wp2_with fail
            go_meet
            exact ⟨_, _, _, _, _, _, _, _, _, _, _, _, _, rfl, rfl, hf.1, hf.2.1, hf.2.2.1, hf.2.2.2.1, hf.2.2.2.2⟩
      refine node_build0 36 3 1 17 Tryd.underlying36 (fun w => by kernel_rfl) rfl rfl rfl rfl (KEEP.out _ R1.build.below) (fun hHeld => ?_) AllReadyH.nil
      · have R2 := R1.build
        clear R1
        simp only [Act.put, List.setIfInBounds_toArray, List.set_cons_zero, List.set_cons_succ]
        refine wpAnyH_ready (rs := [1]) (by kernel_rfl) (by simp) ?_
        refine node_call14 16 15 _ rfl rfl rfl rfl rfl ((CUT.out _ R2.below).mono ?_) AllReadyH.nil
        · rintro e w6 ⟨us, um, uj, rfl, ho6, hb6⟩
          obtain ⟨b1, d1, rfl⟩ := ownG_slice ho6.g
          obtain ⟨b2, d2, rfl⟩ := row_slice ho6.mv
          obtain ⟨b3, d3, rfl⟩ := row_slice ho6.jl
          have R3 := R2.cut hb6 ho6
          refine ⟨_, rfl, KEEP.out _ R3.below, ?_⟩
          clear hb6 ho6 R2
          simp only [Act.put, List.setIfInBounds_toArray, List.set_cons_zero, List.set_cons_succ]
          refine wpAnyH_ready (rs := [8]) (by kernel_rfl) (by simp) ?_
          refine node_app 23 W.heap.size (.tmp 17) (.tmp 22) 36 3 _ 1 8 info3 rfl (by decide) Tryd.underlying36 _ k (ints js) _ rfl rfl rfl rfl rfl rfl (rd_below HRD.out (HB.out.trans (R3.below.mono HB.out.size))) (R3.h2 _ rfl).2 (R3.h2 _ rfl).1 (by omega) ?_ AllReadyH.nil
          · intro sa sn sc w7 ho7 hg7
            have R4 := R3.app hg7.out (by rw [HKL.out]; exact ho7.out)
            refine ⟨KEEP.out _ R4.below, ?_⟩
            clear ho7 hg7 R3
            simp only [Act.put, List.setIfInBounds_toArray, List.set_cons_zero, List.set_cons_succ]
            have hf := R4.fin
            refine wpAnyH_ready (rs := [10]) (by kernel_rfl) (by simp) ?_
            refine node_store26 7 16 _ _ _ _ _ _ _ _ _ _ _ _ _ rfl rfl rfl rfl rfl rfl (R4.h9 _ rfl).2 (KEEP.out _ hf.2.2.2.2) ?_ AllReadyH.nil
            have hHeld := KEEP.out _ hf.2.2.2.2
            refine take_at (i := 11) 8 (v := .slice sa sn sc) rfl (by kernel_rfl) (by kernel_rfl) (by kernel_rfl) rfl (fun _ _ _ h => h) (by rfl) (fun w hSw => ?_) hHeld ?_
            · (try dsimp only at hSw); go_simp
            simp only [Act.put, List.setIfInBounds_toArray, List.set_cons_zero, List.set_cons_succ]
            refine wpAnyH_done (by kernel_rfl) ?_ _
            go_wp2_with fail
            go_meet
            exact ⟨_, _, _, _, _, _, _, _, _, _, _, _, _, rfl, rfl, hf.1, hf.2.1, hf.2.2.1, hf.2.2.2.1, hf.2.2.2.2⟩
  case rest =>
    obtain ⟨X, a1, n1, c1, a2, n2, c2, a3, n3, c3, a4, n4, c4, rfl, rfl, hX, hXb, HOW, HJS, HBx⟩ := hcut
    obtain ⟨z1, z2, hv4⟩ := row_slice HJS.out
    obtain ⟨rfl, rfl, rfl⟩ : a4 = z1 ∧ n4 = k ∧ c4 = z2 := by rw [HKL.out] at hv4; cases hv4; exact ⟨rfl, rfl, rfl⟩
    obtain ⟨z3, z4, hv3⟩ := row_slice HOW.out.jl
    obtain ⟨rfl, rfl, rfl⟩ : a3 = z3 ∧ n3 = q.jolts.length ∧ c3 = z4 := by cases hv3; exact ⟨rfl, rfl, rfl⟩
    have HOV : Hid _ := HQE.out _ _ _ _ _ HOW.out
    have HJI : Hid (IsInts wc (.slice a4 n4 c4) js) := ownI_ints HJS.out (by rw [HKL.out]; omega)
    have KP : Hid (∀ w', Below wc.heap.size wc w' → w'.cell? ⟨X, 0, none⟩ = some (.slice a1 n1 c1) ∧ w'.cell? ⟨X, 1, none⟩ = some (.slice a2 n2 c2) ∧ w'.cell? ⟨X, 2, none⟩ = some (.slice a3 q.jolts.length c3) ∧ w'.cell? ⟨w.heap.size + 1, 0, none⟩ = some (.int .i64 p) ∧ w'.cell? ⟨w.heap.size + 1, 1, none⟩ = some (.int .i64 x) ∧ w'.cell? ⟨w.heap.size + 1, 2, none⟩ = some (.int .i64 y)) := by
      intro w' hb
      obtain ⟨e0, e1, e2⟩ := cells3_of ((hb.block X (heap_lt hXb)).trans hXb)
      have hl : w.heap.size + 1 < W.heap.size := by have := HZ.out; omega
      obtain ⟨e3, e4, e5⟩ := cells3_of ((hb.block (w.heap.size + 1) (by have := HBx.out.size; omega)).trans ((HBx.out.block _ hl).trans HK1.out))
      exact ⟨e0, e1, e2, e3, e4, e5⟩
    have HO4 : Hid (∀ w', Below wc.heap.size wc w' → IsOv w' (.slice a1 n1 c1) (.slice a2 n2 c2) (.slice a3 q.jolts.length c3) q) := fun w' hb => isOv_below HOV.out hb
    have HJ4 : Hid (∀ w', Below wc.heap.size wc w' → IsInts w' (.slice a4 n4 c4) js) := fun w' hb => isInts_below HJI.out hb
    have FIN : Hid (∀ w', Below wc.heap.size wc w' → Below w.heap.size w w') := fun w' hb => (HB.out.trans (HBx.out.mono HB.out.size)).trans (hb.mono (HB.out.trans (HBx.out.mono HB.out.size)).size)
    obtain ⟨y0, y1, y2, y3, y4, y5⟩ := KP.out wc (Below.refl _ _)
    have HB4 : Hid (Below wc.heap.size wc wc) := Below.refl _ _
    have HXB := hid hXb
    have HX := hid hX
    clear hv4 hv3 hX hXb hsl mn q1 q2 KEEP CUT
    cases hve : (q.valid && q.ex (p, x, y))
    · have HVE := hid hve
      cases hva : q.valid
      · have VA : Hid (q.valid = false) := hva
        clear hva hve
        go_wp2_with (first
          | (go_at_call 39; refine (play_any _ _ _ _ q (p, x, y) js _ (HO4.out _ (by repeat (first | exact Below.refl _ _ | (apply Hid.out; assumption) | refine Below.drew ?_ | refine below_drewN_r ?_ _))) HQN.out (HJ4.out _ (by repeat (first | exact Below.refl _ _ | (apply Hid.out; assumption) | refine Below.drew ?_ | refine below_drewN_r ?_ _)))).mono ?_; rintro e w5 ⟨hb5, h5⟩; rw [if_neg (by rw [HVE.out]; decide)] at h5; subst h5; have HB5 : Hid (Below wc.heap.size wc w5) := Below.trans (b := _) (by repeat (first | exact Below.refl _ _ | (apply Hid.out; assumption) | refine Below.drew ?_ | refine below_drewN_r ?_ _)) (hb5.mono HB4.out.size); obtain ⟨y0, y1, y2, y3, y4, y5⟩ := KP.out w5 HB5.out; clear hb5)
          | (go_at_call 17; refine (valid_any _ _ _ q _ (HO4.out _ (by repeat (first | exact Below.refl _ _ | (apply Hid.out; assumption) | refine Below.drew ?_ | refine below_drewN_r ?_ _))) HQN.out).mono ?_; rw [VA.out]; rintro e w6 ⟨rfl, hb6⟩; have HB6 : Hid (Below wc.heap.size wc w6) := Below.trans (b := _) (by repeat (first | exact Below.refl _ _ | (apply Hid.out; assumption) | refine Below.drew ?_ | refine below_drewN_r ?_ _)) (hb6.mono HB5.out.size); obtain ⟨y0, y1, y2, y3, y4, y5⟩ := KP.out w6 HB6.out; clear hb6)
          | fail)
        go_loopw [11, 12] (fun bv iv wr => bv = .int .i64 1 ∧ iv = .int .i64 0 ∧ wr = w6) (fun _ _ _ => 0)
        case atStart => exact ⟨rfl, rfl, rfl⟩
        case round =>
          obtain ⟨rfl, rfl, rfl⟩ := hrel
          by_cases hk0 : 0 < n4
          all_goals
            go_wp2_with (first
              | (go_at_call 19; refine (lives_any _).mono ?_; rintro e w9 ⟨rfl, hb9⟩; have HB9 : Hid (Below wc.heap.size wc w9) := Below.trans (b := _) (by repeat (first | exact Below.refl _ _ | (apply Hid.out; assumption) | refine Below.drew ?_ | refine below_drewN_r ?_ _)) (hb9.mono HB6.out.size); obtain ⟨y0, y1, y2, y3, y4, y5⟩ := KP.out w9 HB9.out; clear hb9)
              | fail)
            go_ret
            exact ⟨rfl, FIN.out _ HB9.out⟩
      · have VA : Hid (q.valid = true) := hva
        have HOK : Hid q.Ok := ok_of_valid hva
        have EX : Hid (q.ex (p, x, y) = false) := by rw [hva] at hve; exact hve
        clear hva hve
        go_wp2_with (first
          | (go_at_call 39; refine (play_any _ _ _ _ q (p, x, y) js _ (HO4.out _ (by repeat (first | exact Below.refl _ _ | (apply Hid.out; assumption) | refine Below.drew ?_ | refine below_drewN_r ?_ _))) HQN.out (HJ4.out _ (by repeat (first | exact Below.refl _ _ | (apply Hid.out; assumption) | refine Below.drew ?_ | refine below_drewN_r ?_ _)))).mono ?_; rintro e w5 ⟨hb5, h5⟩; rw [if_neg (by rw [HVE.out]; decide)] at h5; subst h5; have HB5 : Hid (Below wc.heap.size wc w5) := Below.trans (b := _) (by repeat (first | exact Below.refl _ _ | (apply Hid.out; assumption) | refine Below.drew ?_ | refine below_drewN_r ?_ _)) (hb5.mono HB4.out.size); obtain ⟨y0, y1, y2, y3, y4, y5⟩ := KP.out w5 HB5.out; clear hb5)
          | (go_at_call 17; refine (valid_any _ _ _ q _ (HO4.out _ (by repeat (first | exact Below.refl _ _ | (apply Hid.out; assumption) | refine Below.drew ?_ | refine below_drewN_r ?_ _))) HQN.out).mono ?_; rw [VA.out]; rintro e w6 ⟨rfl, hb6⟩; have HB6 : Hid (Below wc.heap.size wc w6) := Below.trans (b := _) (by repeat (first | exact Below.refl _ _ | (apply Hid.out; assumption) | refine Below.drew ?_ | refine below_drewN_r ?_ _)) (hb6.mono HB5.out.size); obtain ⟨y0, y1, y2, y3, y4, y5⟩ := KP.out w6 HB6.out; clear hb6)
          | (go_at_call 18; refine (exists_any _ _ _ q (p, x, y) _ (HO4.out _ (by repeat (first | exact Below.refl _ _ | (apply Hid.out; assumption) | refine Below.drew ?_ | refine below_drewN_r ?_ _))) (dim_of_ok HOK.out)).mono ?_; rw [EX.out]; rintro e w7 ⟨rfl, hb7⟩; have HB7 : Hid (Below wc.heap.size wc w7) := Below.trans (b := _) (by repeat (first | exact Below.refl _ _ | (apply Hid.out; assumption) | refine Below.drew ?_ | refine below_drewN_r ?_ _)) (hb7.mono HB6.out.size); obtain ⟨y0, y1, y2, y3, y4, y5⟩ := KP.out w7 HB7.out; clear hb7)
          | fail)
        go_loopw [11, 12] (fun bv iv wr => bv = .int .i64 1 ∧ iv = .int .i64 0 ∧ wr = w7) (fun _ _ _ => 0)
        case atStart => exact ⟨rfl, rfl, rfl⟩
        case round =>
          obtain ⟨rfl, rfl, rfl⟩ := hrel
          by_cases hk0 : 0 < n4
          all_goals
            go_wp2_with (first
              | (go_at_call 19; refine (lives_any _).mono ?_; rintro e w9 ⟨rfl, hb9⟩; have HB9 : Hid (Below wc.heap.size wc w9) := Below.trans (b := _) (by repeat (first | exact Below.refl _ _ | (apply Hid.out; assumption) | refine Below.drew ?_ | refine below_drewN_r ?_ _)) (hb9.mono HB7.out.size); obtain ⟨y0, y1, y2, y3, y4, y5⟩ := KP.out w9 HB9.out; clear hb9)
              | fail)
            go_ret
            exact ⟨rfl, FIN.out _ HB9.out⟩
    · have HVE := hid hve
      have VA : Hid (q.valid = true) := by rw [Bool.and_eq_true] at hve; exact hve.1
      have EX : Hid (q.ex (p, x, y) = true) := by rw [Bool.and_eq_true] at hve; exact hve.2
      have HOK : Hid q.Ok := ok_of_valid VA.out
      clear hve
      by_cases h200 : 200 < n4
      · have HR : Hid (200 < js.length) := by rw [HKL.out]; exact h200
        go_wp2_with (first
          | (go_at_call 39; refine (play_any _ _ _ _ q (p, x, y) js _ (HO4.out _ (by repeat (first | exact Below.refl _ _ | (apply Hid.out; assumption) | refine Below.drew ?_ | refine below_drewN_r ?_ _))) HQN.out (HJ4.out _ (by repeat (first | exact Below.refl _ _ | (apply Hid.out; assumption) | refine Below.drew ?_ | refine below_drewN_r ?_ _)))).mono ?_; rintro e w5 ⟨hb5, h5⟩; rw [if_pos HVE.out, if_pos HR.out] at h5; subst h5; have HB5 : Hid (Below wc.heap.size wc w5) := Below.trans (b := _) (by repeat (first | exact Below.refl _ _ | (apply Hid.out; assumption) | refine Below.drew ?_ | refine below_drewN_r ?_ _)) (hb5.mono HB4.out.size); obtain ⟨y0, y1, y2, y3, y4, y5⟩ := KP.out w5 HB5.out; clear hb5)
          | (go_at_call 17; refine (valid_any _ _ _ q _ (HO4.out _ (by repeat (first | exact Below.refl _ _ | (apply Hid.out; assumption) | refine Below.drew ?_ | refine below_drewN_r ?_ _))) HQN.out).mono ?_; rw [VA.out]; rintro e w6 ⟨rfl, hb6⟩; have HB6 : Hid (Below wc.heap.size wc w6) := Below.trans (b := _) (by repeat (first | exact Below.refl _ _ | (apply Hid.out; assumption) | refine Below.drew ?_ | refine below_drewN_r ?_ _)) (hb6.mono HB5.out.size); obtain ⟨y0, y1, y2, y3, y4, y5⟩ := KP.out w6 HB6.out; clear hb6)
          | (go_at_call 18; refine (exists_any _ _ _ q (p, x, y) _ (HO4.out _ (by repeat (first | exact Below.refl _ _ | (apply Hid.out; assumption) | refine Below.drew ?_ | refine below_drewN_r ?_ _))) (dim_of_ok HOK.out)).mono ?_; rw [EX.out]; rintro e w7 ⟨rfl, hb7⟩; have HB7 : Hid (Below wc.heap.size wc w7) := Below.trans (b := _) (by repeat (first | exact Below.refl _ _ | (apply Hid.out; assumption) | refine Below.drew ?_ | refine below_drewN_r ?_ _)) (hb7.mono HB6.out.size); obtain ⟨y0, y1, y2, y3, y4, y5⟩ := KP.out w7 HB7.out; clear hb7)
          | fail)
        go_loopw [11, 12] (fun bv iv wr => bv = .int .i64 3 ∧ iv = .int .i64 0 ∧ wr = w7) (fun _ _ _ => 0)
        case atStart => exact ⟨rfl, rfl, rfl⟩
        case round =>
          obtain ⟨rfl, rfl, rfl⟩ := hrel
          by_cases hk0 : 0 < n4
          all_goals
            go_wp2_with (first
              | (go_at_call 19; refine (lives_any _).mono ?_; rintro e w9 ⟨rfl, hb9⟩; have HB9 : Hid (Below wc.heap.size wc w9) := Below.trans (b := _) (by repeat (first | exact Below.refl _ _ | (apply Hid.out; assumption) | refine Below.drew ?_ | refine below_drewN_r ?_ _)) (hb9.mono HB7.out.size); obtain ⟨y0, y1, y2, y3, y4, y5⟩ := KP.out w9 HB9.out; clear hb9)
              | fail)
            go_ret
            exact ⟨rfl, FIN.out _ HB9.out⟩
      · have HR : Hid (¬ 200 < js.length) := by rw [HKL.out]; exact h200
        cases hall : js.all q.jok
        · have HALL := hid hall
          clear hall
          go_wp2_with (first
            | (go_at_call 39; refine (play_any _ _ _ _ q (p, x, y) js _ (HO4.out _ (by repeat (first | exact Below.refl _ _ | (apply Hid.out; assumption) | refine Below.drew ?_ | refine below_drewN_r ?_ _))) HQN.out (HJ4.out _ (by repeat (first | exact Below.refl _ _ | (apply Hid.out; assumption) | refine Below.drew ?_ | refine below_drewN_r ?_ _)))).mono ?_; rintro e w5 ⟨hb5, h5⟩; rw [if_pos HVE.out, if_neg HR.out, if_neg (by rw [HALL.out]; decide)] at h5; subst h5; have HB5 : Hid (Below wc.heap.size wc w5) := Below.trans (b := _) (by repeat (first | exact Below.refl _ _ | (apply Hid.out; assumption) | refine Below.drew ?_ | refine below_drewN_r ?_ _)) (hb5.mono HB4.out.size); obtain ⟨y0, y1, y2, y3, y4, y5⟩ := KP.out w5 HB5.out; clear hb5)
            | (go_at_call 17; refine (valid_any _ _ _ q _ (HO4.out _ (by repeat (first | exact Below.refl _ _ | (apply Hid.out; assumption) | refine Below.drew ?_ | refine below_drewN_r ?_ _))) HQN.out).mono ?_; rw [VA.out]; rintro e w6 ⟨rfl, hb6⟩; have HB6 : Hid (Below wc.heap.size wc w6) := Below.trans (b := _) (by repeat (first | exact Below.refl _ _ | (apply Hid.out; assumption) | refine Below.drew ?_ | refine below_drewN_r ?_ _)) (hb6.mono HB5.out.size); obtain ⟨y0, y1, y2, y3, y4, y5⟩ := KP.out w6 HB6.out; clear hb6)
            | (go_at_call 18; refine (exists_any _ _ _ q (p, x, y) _ (HO4.out _ (by repeat (first | exact Below.refl _ _ | (apply Hid.out; assumption) | refine Below.drew ?_ | refine below_drewN_r ?_ _))) (dim_of_ok HOK.out)).mono ?_; rw [EX.out]; rintro e w7 ⟨rfl, hb7⟩; have HB7 : Hid (Below wc.heap.size wc w7) := Below.trans (b := _) (by repeat (first | exact Below.refl _ _ | (apply Hid.out; assumption) | refine Below.drew ?_ | refine below_drewN_r ?_ _)) (hb7.mono HB6.out.size); obtain ⟨y0, y1, y2, y3, y4, y5⟩ := KP.out w7 HB7.out; clear hb7)
            | fail)
          go_loopw [11, 12] (fun bv iv wr => Hid (Below wc.heap.size wc wr) ∧ ∃ i : Nat, iv = .int .i64 i ∧ i ≤ n4 ∧ ((bv = .int .i64 0 ∧ Hid ((js.take i).all q.jok = true)) ∨ bv = .int .i64 2)) (fun _ iv _ => n4 - (intOf iv).toNat)
          case atStart => exact ⟨HB7, 0, rfl, Nat.zero_le _, .inl ⟨rfl, by rw [List.take_zero]; rfl⟩⟩
          case round =>
            clear HB7 y0 y1 y2 y3 y4 y5
            obtain ⟨HB7, i, rfl, hi, ⟨rfl, HA⟩ | rfl⟩ := hrel
            all_goals obtain ⟨y0, y1, y2, y3, y4, y5⟩ := KP.out wr HB7.out
            · by_cases hlt : i < n4
              · have hlo : i < js.length := by rw [HKL.out]; exact hlt
                obtain ⟨g, rfl, e1⟩ := ints_at (HJ4.out _ HB7.out) i hlo
                have HNX : Hid (q.jok (js.getD i 0) = true → (js.take (i + 1)).all q.jok = true) := all_snoc hlo HA.out
                have HJK : Hid (∀ j : Int, q.jok j = decide (0 ≤ j ∧ j < (q.jolts.length : Int))) := fun j => rfl
                rw [HJK.out] at HNX
                generalize js.getD i 0 = j at *
                clear hlo HA
                by_cases hj0 : j < 0
                · clear HNX
                  go_upto_region 11 with fail
                  refine wp_region_held_drew (S := fun w' => w'.cell? ⟨X, 2, none⟩ = some (.slice a3 q.jolts.length c3) ∧ w'.cell? ⟨g, i, none⟩ = some (.int .i64 j)) (by kernel_rfl) ⟨y2, e1⟩ (fun hHeld => ?_)
                  refine take_at (i := 0) 53 (v := .slice (some ⟨g, 0, none⟩) n4 c4) rfl (by kernel_rfl) (by kernel_rfl) (by kernel_rfl) rfl (fun _ _ _ h => h) (by rfl) (fun w hSw => ?_) hHeld ?_
                  · (try dsimp only at hSw); go_simp
                  simp only [Act.put, List.setIfInBounds_toArray, List.set_cons_zero, List.set_cons_succ]
                  refine take_at (i := 1) 54 (v := .int .i64 i) rfl (by kernel_rfl) (by kernel_rfl) (by kernel_rfl) rfl (fun _ _ _ h => h) (by rfl) (fun w hSw => ?_) hHeld ?_
                  · (try dsimp only at hSw); go_simp
                  simp only [Act.put, List.setIfInBounds_toArray, List.set_cons_zero, List.set_cons_succ]
                  refine take_at (i := 2) 55 (v := .pointer (some ⟨g, i, none⟩)) rfl (by kernel_rfl) (by kernel_rfl) (by kernel_rfl) rfl (fun _ _ _ h => h) (by rfl) (fun w hSw => ?_) hHeld ?_
                  · (try dsimp only at hSw); go_simp
                  simp only [Act.put, List.setIfInBounds_toArray, List.set_cons_zero, List.set_cons_succ]
                  refine take_at (i := 3) 56 (v := .int .i64 j) rfl (by kernel_rfl) (by kernel_rfl) (by kernel_rfl) rfl (fun _ _ _ h => h) (by rfl) (fun w hSw => ?_) hHeld ?_
                  · (try dsimp only at hSw); go_simp
                  simp only [Act.put, List.setIfInBounds_toArray, List.set_cons_zero, List.set_cons_succ]
                  refine take_at (i := 4) 57 (v := .bool true) rfl (by kernel_rfl) (by kernel_rfl) (by kernel_rfl) rfl (fun _ _ _ h => h) (by rfl) (fun w hSw => ?_) hHeld ?_
                  · (try dsimp only at hSw); go_simp
                  simp only [Act.put, List.setIfInBounds_toArray, List.set_cons_zero, List.set_cons_succ]
                  refine take_at (i := 5) 58 (v := .bool true) rfl (by kernel_rfl) (by kernel_rfl) (by kernel_rfl) rfl (fun _ _ _ h => h) (by rfl) (fun w hSw => ?_) hHeld ?_
                  · (try dsimp only at hSw); go_simp
                  simp only [Act.put, List.setIfInBounds_toArray, List.set_cons_zero, List.set_cons_succ]
                  refine skip_at (i := 6) 59 rfl (by kernel_rfl) (by kernel_rfl) (by kernel_rfl) rfl (fun _ _ _ h => h) (by rfl) hHeld ?_
                  simp only [Act.put, List.setIfInBounds_toArray, List.set_cons_zero, List.set_cons_succ]
                  refine skip_at (i := 7) 60 rfl (by kernel_rfl) (by kernel_rfl) (by kernel_rfl) rfl (fun _ _ _ h => h) (by rfl) hHeld ?_
                  simp only [Act.put, List.setIfInBounds_toArray, List.set_cons_zero, List.set_cons_succ]
                  refine skip_at (i := 8) 61 rfl (by kernel_rfl) (by kernel_rfl) (by kernel_rfl) rfl (fun _ _ _ h => h) (by rfl) hHeld ?_
                  simp only [Act.put, List.setIfInBounds_toArray, List.set_cons_zero, List.set_cons_succ]
                  refine skip_at (i := 9) 62 rfl (by kernel_rfl) (by kernel_rfl) (by kernel_rfl) rfl (fun _ _ _ h => h) (by rfl) hHeld ?_
                  simp only [Act.put, List.setIfInBounds_toArray, List.set_cons_zero, List.set_cons_succ]
                  refine skip_at (i := 10) 63 rfl (by kernel_rfl) (by kernel_rfl) (by kernel_rfl) rfl (fun _ _ _ h => h) (by rfl) hHeld ?_
                  simp only [Act.put, List.setIfInBounds_toArray, List.set_cons_zero, List.set_cons_succ]
                  refine skip_at (i := 11) 64 rfl (by kernel_rfl) (by kernel_rfl) (by kernel_rfl) rfl (fun _ _ _ h => h) (by rfl) hHeld ?_
                  simp only [Act.put, List.setIfInBounds_toArray, List.set_cons_zero, List.set_cons_succ]
                  refine skip_at (i := 12) 65 rfl (by kernel_rfl) (by kernel_rfl) (by kernel_rfl) rfl (fun _ _ _ h => h) (by rfl) hHeld ?_
                  simp only [Act.put, List.setIfInBounds_toArray, List.set_cons_zero, List.set_cons_succ]
                  refine skip_at (i := 13) 66 rfl (by kernel_rfl) (by kernel_rfl) (by kernel_rfl) rfl (fun _ _ _ h => h) (by rfl) hHeld ?_
                  simp only [Act.put, List.setIfInBounds_toArray, List.set_cons_zero, List.set_cons_succ]
                  refine take_at (i := 14) 67 (v := .bool true) rfl (by kernel_rfl) (by kernel_rfl) (by kernel_rfl) rfl (fun _ _ _ h => h) (by rfl) (fun w hSw => ?_) hHeld ?_
                  · (try dsimp only at hSw); go_simp
                  simp only [Act.put, List.setIfInBounds_toArray, List.set_cons_zero, List.set_cons_succ]
                  refine wpAnyH_done (by kernel_rfl) ?_ _
                  clear hHeld
                  go_wp2_with fail
                  go_roundw
                  case rel => exact ⟨HB7.out.drew, i + 1, by go_num, by omega, .inr rfl⟩
                  case measure => simp [intOf]; omega
                · by_cases hj1 : j < (q.jolts.length : Int)
                  · have HAX := hid (HNX.out (decide_eq_true (by omega)))
                    have hj2 : ¬ (q.jolts.length : Int) ≤ j := by omega
                    clear HNX
                    go_upto_region 11 with fail
                    refine wp_region_held_drew (S := fun w' => w'.cell? ⟨X, 2, none⟩ = some (.slice a3 q.jolts.length c3) ∧ w'.cell? ⟨g, i, none⟩ = some (.int .i64 j)) (by kernel_rfl) ⟨y2, e1⟩ (fun hHeld => ?_)
                    refine take_at (i := 0) 53 (v := .slice (some ⟨g, 0, none⟩) n4 c4) rfl (by kernel_rfl) (by kernel_rfl) (by kernel_rfl) rfl (fun _ _ _ h => h) (by rfl) (fun w hSw => ?_) hHeld ?_
                    · (try dsimp only at hSw); go_simp
                    simp only [Act.put, List.setIfInBounds_toArray, List.set_cons_zero, List.set_cons_succ]
                    refine take_at (i := 1) 54 (v := .int .i64 i) rfl (by kernel_rfl) (by kernel_rfl) (by kernel_rfl) rfl (fun _ _ _ h => h) (by rfl) (fun w hSw => ?_) hHeld ?_
                    · (try dsimp only at hSw); go_simp
                    simp only [Act.put, List.setIfInBounds_toArray, List.set_cons_zero, List.set_cons_succ]
                    refine take_at (i := 2) 55 (v := .pointer (some ⟨g, i, none⟩)) rfl (by kernel_rfl) (by kernel_rfl) (by kernel_rfl) rfl (fun _ _ _ h => h) (by rfl) (fun w hSw => ?_) hHeld ?_
                    · (try dsimp only at hSw); go_simp
                    simp only [Act.put, List.setIfInBounds_toArray, List.set_cons_zero, List.set_cons_succ]
                    refine take_at (i := 3) 56 (v := .int .i64 j) rfl (by kernel_rfl) (by kernel_rfl) (by kernel_rfl) rfl (fun _ _ _ h => h) (by rfl) (fun w hSw => ?_) hHeld ?_
                    · (try dsimp only at hSw); go_simp
                    simp only [Act.put, List.setIfInBounds_toArray, List.set_cons_zero, List.set_cons_succ]
                    refine take_at (i := 4) 57 (v := .bool false) rfl (by kernel_rfl) (by kernel_rfl) (by kernel_rfl) rfl (fun _ _ _ h => h) (by rfl) (fun w hSw => ?_) hHeld ?_
                    · (try dsimp only at hSw); go_simp
                    simp only [Act.put, List.setIfInBounds_toArray, List.set_cons_zero, List.set_cons_succ]
                    refine take_at (i := 5) 58 (v := .bool false) rfl (by kernel_rfl) (by kernel_rfl) (by kernel_rfl) rfl (fun _ _ _ h => h) (by rfl) (fun w hSw => ?_) hHeld ?_
                    · (try dsimp only at hSw); go_simp
                    simp only [Act.put, List.setIfInBounds_toArray, List.set_cons_zero, List.set_cons_succ]
                    refine take_at (i := 6) 59 (v := .slice (some ⟨g, 0, none⟩) n4 c4) rfl (by kernel_rfl) (by kernel_rfl) (by kernel_rfl) rfl (fun _ _ _ h => h) (by rfl) (fun w hSw => ?_) hHeld ?_
                    · (try dsimp only at hSw); go_simp
                    simp only [Act.put, List.setIfInBounds_toArray, List.set_cons_zero, List.set_cons_succ]
                    refine take_at (i := 7) 60 (v := .int .i64 i) rfl (by kernel_rfl) (by kernel_rfl) (by kernel_rfl) rfl (fun _ _ _ h => h) (by rfl) (fun w hSw => ?_) hHeld ?_
                    · (try dsimp only at hSw); go_simp
                    simp only [Act.put, List.setIfInBounds_toArray, List.set_cons_zero, List.set_cons_succ]
                    refine take_at (i := 8) 61 (v := .pointer (some ⟨g, i, none⟩)) rfl (by kernel_rfl) (by kernel_rfl) (by kernel_rfl) rfl (fun _ _ _ h => h) (by rfl) (fun w hSw => ?_) hHeld ?_
                    · (try dsimp only at hSw); go_simp
                    simp only [Act.put, List.setIfInBounds_toArray, List.set_cons_zero, List.set_cons_succ]
                    refine take_at (i := 9) 62 (v := .int .i64 j) rfl (by kernel_rfl) (by kernel_rfl) (by kernel_rfl) rfl (fun _ _ _ h => h) (by rfl) (fun w hSw => ?_) hHeld ?_
                    · (try dsimp only at hSw); go_simp
                    simp only [Act.put, List.setIfInBounds_toArray, List.set_cons_zero, List.set_cons_succ]
                    refine take_at (i := 10) 63 (v := .pointer (some ⟨X, 2, none⟩)) rfl (by kernel_rfl) (by kernel_rfl) (by kernel_rfl) rfl (fun _ _ _ h => h) (by rfl) (fun w hSw => ?_) hHeld ?_
                    · (try dsimp only at hSw); go_simp
                    simp only [Act.put, List.setIfInBounds_toArray, List.set_cons_zero, List.set_cons_succ]
                    refine take_at (i := 11) 64 (v := .slice a3 q.jolts.length c3) rfl (by kernel_rfl) (by kernel_rfl) (by kernel_rfl) rfl (fun _ _ _ h => h) (by rfl) (fun w hSw => ?_) hHeld ?_
                    · (try dsimp only at hSw); go_simp
                    simp only [Act.put, List.setIfInBounds_toArray, List.set_cons_zero, List.set_cons_succ]
                    refine take_at (i := 12) 65 (v := .int .i64 q.jolts.length) rfl (by kernel_rfl) (by kernel_rfl) (by kernel_rfl) rfl (fun _ _ _ h => h) (by rfl) (fun w hSw => ?_) hHeld ?_
                    · (try dsimp only at hSw); go_simp
                    simp only [Act.put, List.setIfInBounds_toArray, List.set_cons_zero, List.set_cons_succ]
                    refine take_at (i := 13) 66 (v := .bool false) rfl (by kernel_rfl) (by kernel_rfl) (by kernel_rfl) rfl (fun _ _ _ h => h) (by rfl) (fun w hSw => ?_) hHeld ?_
                    · (try dsimp only at hSw); go_simp
                    simp only [Act.put, List.setIfInBounds_toArray, List.set_cons_zero, List.set_cons_succ]
                    refine take_at (i := 14) 67 (v := .bool false) rfl (by kernel_rfl) (by kernel_rfl) (by kernel_rfl) rfl (fun _ _ _ h => h) (by rfl) (fun w hSw => ?_) hHeld ?_
                    · (try dsimp only at hSw); go_simp
                    simp only [Act.put, List.setIfInBounds_toArray, List.set_cons_zero, List.set_cons_succ]
                    refine wpAnyH_done (by kernel_rfl) ?_ _
                    clear hHeld
                    go_wp2_with fail
                    go_roundw
                    case rel => exact ⟨HB7.out.drew, i + 1, by go_num, by omega, .inl ⟨rfl, HAX⟩⟩
                    case measure => simp [intOf]; omega
                  · clear HNX
                    have hj2 : (q.jolts.length : Int) ≤ j := by omega
                    go_upto_region 11 with fail
                    refine wp_region_held_drew (S := fun w' => w'.cell? ⟨X, 2, none⟩ = some (.slice a3 q.jolts.length c3) ∧ w'.cell? ⟨g, i, none⟩ = some (.int .i64 j)) (by kernel_rfl) ⟨y2, e1⟩ (fun hHeld => ?_)
                    refine take_at (i := 0) 53 (v := .slice (some ⟨g, 0, none⟩) n4 c4) rfl (by kernel_rfl) (by kernel_rfl) (by kernel_rfl) rfl (fun _ _ _ h => h) (by rfl) (fun w hSw => ?_) hHeld ?_
                    · (try dsimp only at hSw); go_simp
                    simp only [Act.put, List.setIfInBounds_toArray, List.set_cons_zero, List.set_cons_succ]
                    refine take_at (i := 1) 54 (v := .int .i64 i) rfl (by kernel_rfl) (by kernel_rfl) (by kernel_rfl) rfl (fun _ _ _ h => h) (by rfl) (fun w hSw => ?_) hHeld ?_
                    · (try dsimp only at hSw); go_simp
                    simp only [Act.put, List.setIfInBounds_toArray, List.set_cons_zero, List.set_cons_succ]
                    refine take_at (i := 2) 55 (v := .pointer (some ⟨g, i, none⟩)) rfl (by kernel_rfl) (by kernel_rfl) (by kernel_rfl) rfl (fun _ _ _ h => h) (by rfl) (fun w hSw => ?_) hHeld ?_
                    · (try dsimp only at hSw); go_simp
                    simp only [Act.put, List.setIfInBounds_toArray, List.set_cons_zero, List.set_cons_succ]
                    refine take_at (i := 3) 56 (v := .int .i64 j) rfl (by kernel_rfl) (by kernel_rfl) (by kernel_rfl) rfl (fun _ _ _ h => h) (by rfl) (fun w hSw => ?_) hHeld ?_
                    · (try dsimp only at hSw); go_simp
                    simp only [Act.put, List.setIfInBounds_toArray, List.set_cons_zero, List.set_cons_succ]
                    refine take_at (i := 4) 57 (v := .bool false) rfl (by kernel_rfl) (by kernel_rfl) (by kernel_rfl) rfl (fun _ _ _ h => h) (by rfl) (fun w hSw => ?_) hHeld ?_
                    · (try dsimp only at hSw); go_simp
                    simp only [Act.put, List.setIfInBounds_toArray, List.set_cons_zero, List.set_cons_succ]
                    refine take_at (i := 5) 58 (v := .bool false) rfl (by kernel_rfl) (by kernel_rfl) (by kernel_rfl) rfl (fun _ _ _ h => h) (by rfl) (fun w hSw => ?_) hHeld ?_
                    · (try dsimp only at hSw); go_simp
                    simp only [Act.put, List.setIfInBounds_toArray, List.set_cons_zero, List.set_cons_succ]
                    refine take_at (i := 6) 59 (v := .slice (some ⟨g, 0, none⟩) n4 c4) rfl (by kernel_rfl) (by kernel_rfl) (by kernel_rfl) rfl (fun _ _ _ h => h) (by rfl) (fun w hSw => ?_) hHeld ?_
                    · (try dsimp only at hSw); go_simp
                    simp only [Act.put, List.setIfInBounds_toArray, List.set_cons_zero, List.set_cons_succ]
                    refine take_at (i := 7) 60 (v := .int .i64 i) rfl (by kernel_rfl) (by kernel_rfl) (by kernel_rfl) rfl (fun _ _ _ h => h) (by rfl) (fun w hSw => ?_) hHeld ?_
                    · (try dsimp only at hSw); go_simp
                    simp only [Act.put, List.setIfInBounds_toArray, List.set_cons_zero, List.set_cons_succ]
                    refine take_at (i := 8) 61 (v := .pointer (some ⟨g, i, none⟩)) rfl (by kernel_rfl) (by kernel_rfl) (by kernel_rfl) rfl (fun _ _ _ h => h) (by rfl) (fun w hSw => ?_) hHeld ?_
                    · (try dsimp only at hSw); go_simp
                    simp only [Act.put, List.setIfInBounds_toArray, List.set_cons_zero, List.set_cons_succ]
                    refine take_at (i := 9) 62 (v := .int .i64 j) rfl (by kernel_rfl) (by kernel_rfl) (by kernel_rfl) rfl (fun _ _ _ h => h) (by rfl) (fun w hSw => ?_) hHeld ?_
                    · (try dsimp only at hSw); go_simp
                    simp only [Act.put, List.setIfInBounds_toArray, List.set_cons_zero, List.set_cons_succ]
                    refine take_at (i := 10) 63 (v := .pointer (some ⟨X, 2, none⟩)) rfl (by kernel_rfl) (by kernel_rfl) (by kernel_rfl) rfl (fun _ _ _ h => h) (by rfl) (fun w hSw => ?_) hHeld ?_
                    · (try dsimp only at hSw); go_simp
                    simp only [Act.put, List.setIfInBounds_toArray, List.set_cons_zero, List.set_cons_succ]
                    refine take_at (i := 11) 64 (v := .slice a3 q.jolts.length c3) rfl (by kernel_rfl) (by kernel_rfl) (by kernel_rfl) rfl (fun _ _ _ h => h) (by rfl) (fun w hSw => ?_) hHeld ?_
                    · (try dsimp only at hSw); go_simp
                    simp only [Act.put, List.setIfInBounds_toArray, List.set_cons_zero, List.set_cons_succ]
                    refine take_at (i := 12) 65 (v := .int .i64 q.jolts.length) rfl (by kernel_rfl) (by kernel_rfl) (by kernel_rfl) rfl (fun _ _ _ h => h) (by rfl) (fun w hSw => ?_) hHeld ?_
                    · (try dsimp only at hSw); go_simp
                    simp only [Act.put, List.setIfInBounds_toArray, List.set_cons_zero, List.set_cons_succ]
                    refine take_at (i := 13) 66 (v := .bool true) rfl (by kernel_rfl) (by kernel_rfl) (by kernel_rfl) rfl (fun _ _ _ h => h) (by rfl) (fun w hSw => ?_) hHeld ?_
                    · (try dsimp only at hSw); go_simp
                    simp only [Act.put, List.setIfInBounds_toArray, List.set_cons_zero, List.set_cons_succ]
                    refine take_at (i := 14) 67 (v := .bool true) rfl (by kernel_rfl) (by kernel_rfl) (by kernel_rfl) rfl (fun _ _ _ h => h) (by rfl) (fun w hSw => ?_) hHeld ?_
                    · (try dsimp only at hSw); go_simp
                    simp only [Act.put, List.setIfInBounds_toArray, List.set_cons_zero, List.set_cons_succ]
                    refine wpAnyH_done (by kernel_rfl) ?_ _
                    clear hHeld
                    go_wp2_with fail
                    go_roundw
                    case rel => exact ⟨HB7.out.drew, i + 1, by go_num, by omega, .inr rfl⟩
                    case measure => simp [intOf]; omega
              · exfalso
                obtain rfl : n4 = i := by omega
                have h1 := HA.out
                rw [List.take_of_length_le (by rw [HKL.out]; exact Nat.le_refl _), HALL.out] at h1
                cases h1
            · by_cases hk0 : i < n4
              all_goals
                go_wp2_with (first
                  | (go_at_call 19; refine (lives_any _).mono ?_; rintro e w9 ⟨rfl, hb9⟩; have HB9 : Hid (Below wc.heap.size wc w9) := Below.trans (b := _) (by repeat (first | exact Below.refl _ _ | (apply Hid.out; assumption) | refine Below.drew ?_ | refine below_drewN_r ?_ _)) (hb9.mono HB7.out.size); obtain ⟨y0, y1, y2, y3, y4, y5⟩ := KP.out w9 HB9.out; clear hb9)
                  | fail)
                go_ret
                exact ⟨rfl, FIN.out _ HB9.out⟩
        · have HALL := hid hall
          clear hall
          cases hk : q.KK (p, x, y)
          · have HKK := hid hk
            clear hk
            go_wp2_with (first
              | (go_at_call 39; refine (play_any _ _ _ _ q (p, x, y) js _ (HO4.out _ (by repeat (first | exact Below.refl _ _ | (apply Hid.out; assumption) | refine Below.drew ?_ | refine below_drewN_r ?_ _))) HQN.out (HJ4.out _ (by repeat (first | exact Below.refl _ _ | (apply Hid.out; assumption) | refine Below.drew ?_ | refine below_drewN_r ?_ _)))).mono ?_; rintro e w5 ⟨hb5, h5⟩; rw [if_pos HVE.out, if_neg HR.out, if_pos HALL.out, if_neg (by rw [HKK.out]; decide)] at h5; subst h5; have HB5 : Hid (Below wc.heap.size wc w5) := Below.trans (b := _) (by repeat (first | exact Below.refl _ _ | (apply Hid.out; assumption) | refine Below.drew ?_ | refine below_drewN_r ?_ _)) (hb5.mono HB4.out.size); obtain ⟨y0, y1, y2, y3, y4, y5⟩ := KP.out w5 HB5.out; clear hb5)
              | (go_at_call 17; refine (valid_any _ _ _ q _ (HO4.out _ (by repeat (first | exact Below.refl _ _ | (apply Hid.out; assumption) | refine Below.drew ?_ | refine below_drewN_r ?_ _))) HQN.out).mono ?_; rw [VA.out]; rintro e w6 ⟨rfl, hb6⟩; have HB6 : Hid (Below wc.heap.size wc w6) := Below.trans (b := _) (by repeat (first | exact Below.refl _ _ | (apply Hid.out; assumption) | refine Below.drew ?_ | refine below_drewN_r ?_ _)) (hb6.mono HB5.out.size); obtain ⟨y0, y1, y2, y3, y4, y5⟩ := KP.out w6 HB6.out; clear hb6)
              | (go_at_call 18; refine (exists_any _ _ _ q (p, x, y) _ (HO4.out _ (by repeat (first | exact Below.refl _ _ | (apply Hid.out; assumption) | refine Below.drew ?_ | refine below_drewN_r ?_ _))) (dim_of_ok HOK.out)).mono ?_; rw [EX.out]; rintro e w7 ⟨rfl, hb7⟩; have HB7 : Hid (Below wc.heap.size wc w7) := Below.trans (b := _) (by repeat (first | exact Below.refl _ _ | (apply Hid.out; assumption) | refine Below.drew ?_ | refine below_drewN_r ?_ _)) (hb7.mono HB6.out.size); obtain ⟨y0, y1, y2, y3, y4, y5⟩ := KP.out w7 HB7.out; clear hb7)
              | fail)
            go_loopw [11, 12] (fun bv iv wr => bv = .int .i64 0 ∧ Hid (Below wc.heap.size wc wr) ∧ ∃ i : Nat, iv = .int .i64 i ∧ i ≤ n4) (fun _ iv _ => n4 - (intOf iv).toNat)
            case atStart => exact ⟨rfl, HB7, 0, rfl, Nat.zero_le _⟩
            case round =>
              clear HB7 y0 y1 y2 y3 y4 y5
              obtain ⟨rfl, HB7, i, rfl, hi⟩ := hrel
              obtain ⟨y0, y1, y2, y3, y4, y5⟩ := KP.out wr HB7.out
              by_cases hlt : i < n4
              · have hlo : i < js.length := by rw [HKL.out]; exact hlt
                obtain ⟨g, rfl, e1⟩ := ints_at (HJ4.out _ HB7.out) i hlo
                have hjk : q.jok (js.getD i 0) = true := all_at HALL.out hlo
                rw [show q.jok (js.getD i 0) = decide (0 ≤ js.getD i 0 ∧ js.getD i 0 < (q.jolts.length : Int)) from rfl, decide_eq_true_eq] at hjk
                generalize js.getD i 0 = j at *
                obtain ⟨hj0', hj1⟩ := hjk
                have hj0 : ¬ j < 0 := by omega
                have hj2 : ¬ (q.jolts.length : Int) ≤ j := by omega
                clear hlo
                go_upto_region 11 with fail
                refine wp_region_held_drew (S := fun w' => w'.cell? ⟨X, 2, none⟩ = some (.slice a3 q.jolts.length c3) ∧ w'.cell? ⟨g, i, none⟩ = some (.int .i64 j)) (by kernel_rfl) ⟨y2, e1⟩ (fun hHeld => ?_)
                refine take_at (i := 0) 53 (v := .slice (some ⟨g, 0, none⟩) n4 c4) rfl (by kernel_rfl) (by kernel_rfl) (by kernel_rfl) rfl (fun _ _ _ h => h) (by rfl) (fun w hSw => ?_) hHeld ?_
                · (try dsimp only at hSw); go_simp
                simp only [Act.put, List.setIfInBounds_toArray, List.set_cons_zero, List.set_cons_succ]
                refine take_at (i := 1) 54 (v := .int .i64 i) rfl (by kernel_rfl) (by kernel_rfl) (by kernel_rfl) rfl (fun _ _ _ h => h) (by rfl) (fun w hSw => ?_) hHeld ?_
                · (try dsimp only at hSw); go_simp
                simp only [Act.put, List.setIfInBounds_toArray, List.set_cons_zero, List.set_cons_succ]
                refine take_at (i := 2) 55 (v := .pointer (some ⟨g, i, none⟩)) rfl (by kernel_rfl) (by kernel_rfl) (by kernel_rfl) rfl (fun _ _ _ h => h) (by rfl) (fun w hSw => ?_) hHeld ?_
                · (try dsimp only at hSw); go_simp
                simp only [Act.put, List.setIfInBounds_toArray, List.set_cons_zero, List.set_cons_succ]
                refine take_at (i := 3) 56 (v := .int .i64 j) rfl (by kernel_rfl) (by kernel_rfl) (by kernel_rfl) rfl (fun _ _ _ h => h) (by rfl) (fun w hSw => ?_) hHeld ?_
                · (try dsimp only at hSw); go_simp
                simp only [Act.put, List.setIfInBounds_toArray, List.set_cons_zero, List.set_cons_succ]
                refine take_at (i := 4) 57 (v := .bool false) rfl (by kernel_rfl) (by kernel_rfl) (by kernel_rfl) rfl (fun _ _ _ h => h) (by rfl) (fun w hSw => ?_) hHeld ?_
                · (try dsimp only at hSw); go_simp
                simp only [Act.put, List.setIfInBounds_toArray, List.set_cons_zero, List.set_cons_succ]
                refine take_at (i := 5) 58 (v := .bool false) rfl (by kernel_rfl) (by kernel_rfl) (by kernel_rfl) rfl (fun _ _ _ h => h) (by rfl) (fun w hSw => ?_) hHeld ?_
                · (try dsimp only at hSw); go_simp
                simp only [Act.put, List.setIfInBounds_toArray, List.set_cons_zero, List.set_cons_succ]
                refine take_at (i := 6) 59 (v := .slice (some ⟨g, 0, none⟩) n4 c4) rfl (by kernel_rfl) (by kernel_rfl) (by kernel_rfl) rfl (fun _ _ _ h => h) (by rfl) (fun w hSw => ?_) hHeld ?_
                · (try dsimp only at hSw); go_simp
                simp only [Act.put, List.setIfInBounds_toArray, List.set_cons_zero, List.set_cons_succ]
                refine take_at (i := 7) 60 (v := .int .i64 i) rfl (by kernel_rfl) (by kernel_rfl) (by kernel_rfl) rfl (fun _ _ _ h => h) (by rfl) (fun w hSw => ?_) hHeld ?_
                · (try dsimp only at hSw); go_simp
                simp only [Act.put, List.setIfInBounds_toArray, List.set_cons_zero, List.set_cons_succ]
                refine take_at (i := 8) 61 (v := .pointer (some ⟨g, i, none⟩)) rfl (by kernel_rfl) (by kernel_rfl) (by kernel_rfl) rfl (fun _ _ _ h => h) (by rfl) (fun w hSw => ?_) hHeld ?_
                · (try dsimp only at hSw); go_simp
                simp only [Act.put, List.setIfInBounds_toArray, List.set_cons_zero, List.set_cons_succ]
                refine take_at (i := 9) 62 (v := .int .i64 j) rfl (by kernel_rfl) (by kernel_rfl) (by kernel_rfl) rfl (fun _ _ _ h => h) (by rfl) (fun w hSw => ?_) hHeld ?_
                · (try dsimp only at hSw); go_simp
                simp only [Act.put, List.setIfInBounds_toArray, List.set_cons_zero, List.set_cons_succ]
                refine take_at (i := 10) 63 (v := .pointer (some ⟨X, 2, none⟩)) rfl (by kernel_rfl) (by kernel_rfl) (by kernel_rfl) rfl (fun _ _ _ h => h) (by rfl) (fun w hSw => ?_) hHeld ?_
                · (try dsimp only at hSw); go_simp
                simp only [Act.put, List.setIfInBounds_toArray, List.set_cons_zero, List.set_cons_succ]
                refine take_at (i := 11) 64 (v := .slice a3 q.jolts.length c3) rfl (by kernel_rfl) (by kernel_rfl) (by kernel_rfl) rfl (fun _ _ _ h => h) (by rfl) (fun w hSw => ?_) hHeld ?_
                · (try dsimp only at hSw); go_simp
                simp only [Act.put, List.setIfInBounds_toArray, List.set_cons_zero, List.set_cons_succ]
                refine take_at (i := 12) 65 (v := .int .i64 q.jolts.length) rfl (by kernel_rfl) (by kernel_rfl) (by kernel_rfl) rfl (fun _ _ _ h => h) (by rfl) (fun w hSw => ?_) hHeld ?_
                · (try dsimp only at hSw); go_simp
                simp only [Act.put, List.setIfInBounds_toArray, List.set_cons_zero, List.set_cons_succ]
                refine take_at (i := 13) 66 (v := .bool false) rfl (by kernel_rfl) (by kernel_rfl) (by kernel_rfl) rfl (fun _ _ _ h => h) (by rfl) (fun w hSw => ?_) hHeld ?_
                · (try dsimp only at hSw); go_simp
                simp only [Act.put, List.setIfInBounds_toArray, List.set_cons_zero, List.set_cons_succ]
                refine take_at (i := 14) 67 (v := .bool false) rfl (by kernel_rfl) (by kernel_rfl) (by kernel_rfl) rfl (fun _ _ _ h => h) (by rfl) (fun w hSw => ?_) hHeld ?_
                · (try dsimp only at hSw); go_simp
                simp only [Act.put, List.setIfInBounds_toArray, List.set_cons_zero, List.set_cons_succ]
                refine wpAnyH_done (by kernel_rfl) ?_ _
                clear hHeld
                go_wp2_with fail
                go_roundw
                case rel => exact ⟨rfl, HB7.out.drew, i + 1, by go_num, by omega⟩
                case measure => simp [intOf]; omega
              · go_wp2_with (first
                  | (go_at_call 23; refine (rKernel_any _ _ _ q _ (HO4.out _ (by repeat (first | exact Below.refl _ _ | (apply Hid.out; assumption) | refine Below.drew ?_ | refine below_drewN_r ?_ _))) HOK.out).mono ?_; rintro e w8 ⟨v8, rfl, hg8, hb8⟩; have HG8 := hid hg8; have HB8 : Hid (Below wc.heap.size wc w8) := Below.trans (b := _) (by repeat (first | exact Below.refl _ _ | (apply Hid.out; assumption) | refine Below.drew ?_ | refine below_drewN_r ?_ _)) (hb8.mono HB7.out.size); obtain ⟨y0, y1, y2, y3, y4, y5⟩ := KP.out w8 HB8.out; clear hb8; clear hg8)
                  | (go_at_call 29; refine (rIn_any _ (q.gridOf q.KK) q (p, x, y) _ (gridOf_isGrid HOK.out HG8.out) HOK.out (form_gridOf q q.KK) EX.out).mono ?_; rw [inG_gridOf q q.KK (p, x, y) EX.out, HKK.out]; rintro e w10 ⟨rfl, hb10⟩; have HB10 : Hid (Below wc.heap.size wc w10) := Below.trans (b := _) (by repeat (first | exact Below.refl _ _ | (apply Hid.out; assumption) | refine Below.drew ?_ | refine below_drewN_r ?_ _)) (hb10.mono HB8.out.size); obtain ⟨y0, y1, y2, y3, y4, y5⟩ := KP.out w10 HB10.out; clear hb10)
                  | (go_at_call 19; refine (lives_any _).mono ?_; rintro e w9 ⟨rfl, hb9⟩; have HB9 : Hid (Below wc.heap.size wc w9) := Below.trans (b := _) (by repeat (first | exact Below.refl _ _ | (apply Hid.out; assumption) | refine Below.drew ?_ | refine below_drewN_r ?_ _)) (hb9.mono HB10.out.size); obtain ⟨y0, y1, y2, y3, y4, y5⟩ := KP.out w9 HB9.out; clear hb9)
                  | fail)
                go_ret
                exact ⟨rfl, FIN.out _ HB9.out⟩
          · have HKK := hid hk
            clear hk
            go_wp2_with (first
              | (go_at_call 39; refine (play_any _ _ _ _ q (p, x, y) js _ (HO4.out _ (by repeat (first | exact Below.refl _ _ | (apply Hid.out; assumption) | refine Below.drew ?_ | refine below_drewN_r ?_ _))) HQN.out (HJ4.out _ (by repeat (first | exact Below.refl _ _ | (apply Hid.out; assumption) | refine Below.drew ?_ | refine below_drewN_r ?_ _)))).mono ?_; rintro e w5 ⟨hb5, h5⟩; rw [if_pos HVE.out, if_neg HR.out, if_pos HALL.out, if_pos HKK.out] at h5; obtain ⟨v5, rfl, ho5⟩ := h5; obtain ⟨l1, ln, l2, rfl⟩ := ownS_slice' ho5; obtain rfl : n4 = ln := (by have hle := ownS_empty ho5; rw [play_len] at hle; exact HKL.out.symm.trans hle.symm); have HL5 : Hid (OwnS w5 wc.heap.size 28 (.slice l1 n4 l2) (q.play (p, x, y) js)) := ho5; clear ho5; have HB5 : Hid (Below wc.heap.size wc w5) := Below.trans (b := _) (by repeat (first | exact Below.refl _ _ | (apply Hid.out; assumption) | refine Below.drew ?_ | refine below_drewN_r ?_ _)) (hb5.mono HB4.out.size); obtain ⟨y0, y1, y2, y3, y4, y5⟩ := KP.out w5 HB5.out; clear hb5)
              | (go_at_call 17; refine (valid_any _ _ _ q _ (HO4.out _ (by repeat (first | exact Below.refl _ _ | (apply Hid.out; assumption) | refine Below.drew ?_ | refine below_drewN_r ?_ _))) HQN.out).mono ?_; rw [VA.out]; rintro e w6 ⟨rfl, hb6⟩; have HL6 := hid (row_below HL5.out hb6); have HB6 : Hid (Below wc.heap.size wc w6) := Below.trans (b := _) (by repeat (first | exact Below.refl _ _ | (apply Hid.out; assumption) | refine Below.drew ?_ | refine below_drewN_r ?_ _)) (hb6.mono HB5.out.size); obtain ⟨y0, y1, y2, y3, y4, y5⟩ := KP.out w6 HB6.out; clear hb6)
              | (go_at_call 18; refine (exists_any _ _ _ q (p, x, y) _ (HO4.out _ (by repeat (first | exact Below.refl _ _ | (apply Hid.out; assumption) | refine Below.drew ?_ | refine below_drewN_r ?_ _))) (dim_of_ok HOK.out)).mono ?_; rw [EX.out]; rintro e w7 ⟨rfl, hb7⟩; have HL7 := hid (row_below HL6.out hb7); have HB7 : Hid (Below wc.heap.size wc w7) := Below.trans (b := _) (by repeat (first | exact Below.refl _ _ | (apply Hid.out; assumption) | refine Below.drew ?_ | refine below_drewN_r ?_ _)) (hb7.mono HB6.out.size); obtain ⟨y0, y1, y2, y3, y4, y5⟩ := KP.out w7 HB7.out; clear hb7)
              | fail)
            go_loopw [11, 12] (fun bv iv wr => bv = .int .i64 0 ∧ Hid (Below wc.heap.size wc wr) ∧ Hid (wr.ownsRow wc.heap.size 28 3 (.slice l1 n4 l2) (q.play (p, x, y) js).length (scells (q.play (p, x, y) js))) ∧ ∃ i : Nat, iv = .int .i64 i ∧ i ≤ n4) (fun _ iv _ => n4 - (intOf iv).toNat)
            case atStart => exact ⟨rfl, HB7, HL7, 0, rfl, Nat.zero_le _⟩
            case round =>
              clear HB7 HL7 y0 y1 y2 y3 y4 y5
              obtain ⟨rfl, HB7, HL7, i, rfl, hi⟩ := hrel
              obtain ⟨y0, y1, y2, y3, y4, y5⟩ := KP.out wr HB7.out
              by_cases hlt : i < n4
              · have hlo : i < js.length := by rw [HKL.out]; exact hlt
                obtain ⟨g, rfl, e1⟩ := ints_at (HJ4.out _ HB7.out) i hlo
                have hjk : q.jok (js.getD i 0) = true := all_at HALL.out hlo
                rw [show q.jok (js.getD i 0) = decide (0 ≤ js.getD i 0 ∧ js.getD i 0 < (q.jolts.length : Int)) from rfl, decide_eq_true_eq] at hjk
                generalize js.getD i 0 = j at *
                obtain ⟨hj0', hj1⟩ := hjk
                have hj0 : ¬ j < 0 := by omega
                have hj2 : ¬ (q.jolts.length : Int) ≤ j := by omega
                clear hlo
                go_upto_region 11 with fail
                refine wp_region_held_drew (S := fun w' => w'.cell? ⟨X, 2, none⟩ = some (.slice a3 q.jolts.length c3) ∧ w'.cell? ⟨g, i, none⟩ = some (.int .i64 j)) (by kernel_rfl) ⟨y2, e1⟩ (fun hHeld => ?_)
                refine take_at (i := 0) 53 (v := .slice (some ⟨g, 0, none⟩) n4 c4) rfl (by kernel_rfl) (by kernel_rfl) (by kernel_rfl) rfl (fun _ _ _ h => h) (by rfl) (fun w hSw => ?_) hHeld ?_
                · (try dsimp only at hSw); go_simp
                simp only [Act.put, List.setIfInBounds_toArray, List.set_cons_zero, List.set_cons_succ]
                refine take_at (i := 1) 54 (v := .int .i64 i) rfl (by kernel_rfl) (by kernel_rfl) (by kernel_rfl) rfl (fun _ _ _ h => h) (by rfl) (fun w hSw => ?_) hHeld ?_
                · (try dsimp only at hSw); go_simp
                simp only [Act.put, List.setIfInBounds_toArray, List.set_cons_zero, List.set_cons_succ]
                refine take_at (i := 2) 55 (v := .pointer (some ⟨g, i, none⟩)) rfl (by kernel_rfl) (by kernel_rfl) (by kernel_rfl) rfl (fun _ _ _ h => h) (by rfl) (fun w hSw => ?_) hHeld ?_
                · (try dsimp only at hSw); go_simp
                simp only [Act.put, List.setIfInBounds_toArray, List.set_cons_zero, List.set_cons_succ]
                refine take_at (i := 3) 56 (v := .int .i64 j) rfl (by kernel_rfl) (by kernel_rfl) (by kernel_rfl) rfl (fun _ _ _ h => h) (by rfl) (fun w hSw => ?_) hHeld ?_
                · (try dsimp only at hSw); go_simp
                simp only [Act.put, List.setIfInBounds_toArray, List.set_cons_zero, List.set_cons_succ]
                refine take_at (i := 4) 57 (v := .bool false) rfl (by kernel_rfl) (by kernel_rfl) (by kernel_rfl) rfl (fun _ _ _ h => h) (by rfl) (fun w hSw => ?_) hHeld ?_
                · (try dsimp only at hSw); go_simp
                simp only [Act.put, List.setIfInBounds_toArray, List.set_cons_zero, List.set_cons_succ]
                refine take_at (i := 5) 58 (v := .bool false) rfl (by kernel_rfl) (by kernel_rfl) (by kernel_rfl) rfl (fun _ _ _ h => h) (by rfl) (fun w hSw => ?_) hHeld ?_
                · (try dsimp only at hSw); go_simp
                simp only [Act.put, List.setIfInBounds_toArray, List.set_cons_zero, List.set_cons_succ]
                refine take_at (i := 6) 59 (v := .slice (some ⟨g, 0, none⟩) n4 c4) rfl (by kernel_rfl) (by kernel_rfl) (by kernel_rfl) rfl (fun _ _ _ h => h) (by rfl) (fun w hSw => ?_) hHeld ?_
                · (try dsimp only at hSw); go_simp
                simp only [Act.put, List.setIfInBounds_toArray, List.set_cons_zero, List.set_cons_succ]
                refine take_at (i := 7) 60 (v := .int .i64 i) rfl (by kernel_rfl) (by kernel_rfl) (by kernel_rfl) rfl (fun _ _ _ h => h) (by rfl) (fun w hSw => ?_) hHeld ?_
                · (try dsimp only at hSw); go_simp
                simp only [Act.put, List.setIfInBounds_toArray, List.set_cons_zero, List.set_cons_succ]
                refine take_at (i := 8) 61 (v := .pointer (some ⟨g, i, none⟩)) rfl (by kernel_rfl) (by kernel_rfl) (by kernel_rfl) rfl (fun _ _ _ h => h) (by rfl) (fun w hSw => ?_) hHeld ?_
                · (try dsimp only at hSw); go_simp
                simp only [Act.put, List.setIfInBounds_toArray, List.set_cons_zero, List.set_cons_succ]
                refine take_at (i := 9) 62 (v := .int .i64 j) rfl (by kernel_rfl) (by kernel_rfl) (by kernel_rfl) rfl (fun _ _ _ h => h) (by rfl) (fun w hSw => ?_) hHeld ?_
                · (try dsimp only at hSw); go_simp
                simp only [Act.put, List.setIfInBounds_toArray, List.set_cons_zero, List.set_cons_succ]
                refine take_at (i := 10) 63 (v := .pointer (some ⟨X, 2, none⟩)) rfl (by kernel_rfl) (by kernel_rfl) (by kernel_rfl) rfl (fun _ _ _ h => h) (by rfl) (fun w hSw => ?_) hHeld ?_
                · (try dsimp only at hSw); go_simp
                simp only [Act.put, List.setIfInBounds_toArray, List.set_cons_zero, List.set_cons_succ]
                refine take_at (i := 11) 64 (v := .slice a3 q.jolts.length c3) rfl (by kernel_rfl) (by kernel_rfl) (by kernel_rfl) rfl (fun _ _ _ h => h) (by rfl) (fun w hSw => ?_) hHeld ?_
                · (try dsimp only at hSw); go_simp
                simp only [Act.put, List.setIfInBounds_toArray, List.set_cons_zero, List.set_cons_succ]
                refine take_at (i := 12) 65 (v := .int .i64 q.jolts.length) rfl (by kernel_rfl) (by kernel_rfl) (by kernel_rfl) rfl (fun _ _ _ h => h) (by rfl) (fun w hSw => ?_) hHeld ?_
                · (try dsimp only at hSw); go_simp
                simp only [Act.put, List.setIfInBounds_toArray, List.set_cons_zero, List.set_cons_succ]
                refine take_at (i := 13) 66 (v := .bool false) rfl (by kernel_rfl) (by kernel_rfl) (by kernel_rfl) rfl (fun _ _ _ h => h) (by rfl) (fun w hSw => ?_) hHeld ?_
                · (try dsimp only at hSw); go_simp
                simp only [Act.put, List.setIfInBounds_toArray, List.set_cons_zero, List.set_cons_succ]
                refine take_at (i := 14) 67 (v := .bool false) rfl (by kernel_rfl) (by kernel_rfl) (by kernel_rfl) rfl (fun _ _ _ h => h) (by rfl) (fun w hSw => ?_) hHeld ?_
                · (try dsimp only at hSw); go_simp
                simp only [Act.put, List.setIfInBounds_toArray, List.set_cons_zero, List.set_cons_succ]
                refine wpAnyH_done (by kernel_rfl) ?_ _
                clear hHeld
                go_wp2_with fail
                go_roundw
                case rel => exact ⟨rfl, HB7.out.drew, HL7, i + 1, by go_num, by omega⟩
                case measure => simp [intOf]; omega
              · go_wp2_with (first
                  | (go_at_call 23; refine (rKernel_any _ _ _ q _ (HO4.out _ (by repeat (first | exact Below.refl _ _ | (apply Hid.out; assumption) | refine Below.drew ?_ | refine below_drewN_r ?_ _))) HOK.out).mono ?_; rintro e w8 ⟨v8, rfl, hg8, hb8⟩; have HG8 : Hid (OwnG w8 wc.heap.size v8 (q.gridOf q.KK)) := ownG_mono hg8 (by first | exact HB7.out.size | exact HB7.out.drew.size); have HL8 := hid (row_below HL7.out hb8); have HB8 : Hid (Below wc.heap.size wc w8) := Below.trans (b := _) (by repeat (first | exact Below.refl _ _ | (apply Hid.out; assumption) | refine Below.drew ?_ | refine below_drewN_r ?_ _)) (hb8.mono HB7.out.size); obtain ⟨y0, y1, y2, y3, y4, y5⟩ := KP.out w8 HB8.out; clear hb8; clear hg8)
                  | (go_at_call 29; refine (rIn_any _ (q.gridOf q.KK) q (p, x, y) _ (gridOf_isGrid HOK.out HG8.out) HOK.out (form_gridOf q q.KK) EX.out).mono ?_; rw [inG_gridOf q q.KK (p, x, y) EX.out, HKK.out]; rintro e w10 ⟨rfl, hb10⟩; have HL10 := hid (row_below HL8.out hb10); have HG10 := hid (ownG_below HG8.out hb10); have HB10 : Hid (Below wc.heap.size wc w10) := Below.trans (b := _) (by repeat (first | exact Below.refl _ _ | (apply Hid.out; assumption) | refine Below.drew ?_ | refine below_drewN_r ?_ _)) (hb10.mono HB8.out.size); obtain ⟨y0, y1, y2, y3, y4, y5⟩ := KP.out w10 HB10.out; clear hb10)
                  | (go_at_call 19; refine (lives_any _).mono ?_; rintro e w9 ⟨rfl, hb9⟩; have HL9 := hid (row_below HL10.out hb9); have HG9 := hid (ownG_below HG10.out hb9); have HB9 : Hid (Below wc.heap.size wc w9) := Below.trans (b := _) (by repeat (first | exact Below.refl _ _ | (apply Hid.out; assumption) | refine Below.drew ?_ | refine below_drewN_r ?_ _)) (hb9.mono HB10.out.size); obtain ⟨y0, y1, y2, y3, y4, y5⟩ := KP.out w9 HB9.out; clear hb9)
                  | fail)
                have hxw : w.heap.size + 1 < W.heap.size := by have := HZ.out; omega
                have hxc : w.heap.size + 1 < wc.heap.size := by have := HBx.out.size; omega
                have KP2 : Hid (∀ w', w9.grownBy w' (some (w.heap.size + 1)) → w'.cell? ⟨X, 0, none⟩ = some (.slice a1 n1 c1) ∧ w'.cell? ⟨X, 1, none⟩ = some (.slice a2 n2 c2) ∧ w'.cell? ⟨X, 2, none⟩ = some (.slice a3 q.jolts.length c3) ∧ IsOv w' (.slice a1 n1 c1) (.slice a2 n2 c2) (.slice a3 q.jolts.length c3) q ∧ IsInts w' (.slice a4 n4 c4) js ∧ OwnS w' wc.heap.size 28 (.slice l1 n4 l2) (q.play (p, x, y) js) ∧ IsGrid w' v8 (q.gridOf q.KK) ∧ Below w.heap.size w w') := by
                  intro w' hg
                  have hX9 := (HB9.out.block X (heap_lt HXB.out)).trans HXB.out
                  have hne : X ≠ w.heap.size + 1 := by have := HX.out; omega
                  obtain ⟨e0, e1, e2⟩ := cells3_of ((hg.block X (heap_lt hX9) (fun e => hne (Option.some.inj e))).trans hX9)
                  exact ⟨e0, e1, e2, HQE.out _ _ _ _ _ ((HOW.out.below HB9.out).far hg hxw), ownI_ints (row_far (row_below HJS.out HB9.out) hg hxw) (by rw [HKL.out]; omega), row_far HL9.out hg hxc, gridOf_isGrid HOK.out (ownG_far HG9.out hg hxc), (FIN.out _ HB9.out).grown hg (FIN.out _ HB9.out).size (fun k hk => by cases hk; omega)⟩
                have HZ9 := hid ((HB9.out.block (w.heap.size + 1) hxc).trans ((HBx.out.block _ hxw).trans HK1.out))
                clear y0 y1 y2 y3 y4 y5
                go_loopw [14] (fun iv wr => ∃ i : Nat, iv = .int .i64 i ∧ i ≤ n4 ∧ wr.heap[w.heap.size + 1]? = some (.cells #[.int .i64 (q.walk (p, x, y) js i).1, .int .i64 (q.walk (p, x, y) js i).2.1, .int .i64 (q.walk (p, x, y) js i).2.2] 28) ∧ Hid (w9.grownBy wr (some (w.heap.size + 1)))) (fun iv _ => n4 - (intOf iv).toNat)
                case atStart => exact ⟨0, rfl, Nat.zero_le _, HZ9.out, ⟨rfl, rfl, rfl, Nat.le_refl _, fun _ _ _ => rfl⟩⟩
                case round =>
                  obtain ⟨i, rfl, hi, hz, HGW⟩ := hrel
                  by_cases hlt : i < n4
                  · have hlo : i < js.length := by rw [HKL.out]; exact hlt
                    have HKI := walk_KK q (p, x, y) js HKK.out HALL.out i (by omega)
                    obtain ⟨mm, nn, hm, hnn, hmv, hje, hst, hkn⟩ := nextK_spec q (q.walk (p, x, y) js i) (js.getD i 0) HKI (all_at HALL.out hlo)
                    have hws := walk_succ q (p, x, y) js i hlo
                    rw [hst] at hws
                    obtain ⟨d0, d1, d2, dov, dji, dsp, dgr, dbl⟩ := KP2.out wr HGW.out
                    obtain ⟨g, rfl, e1⟩ := ints_at dji i hlo
                    obtain ⟨gm, rfl, hn2, _⟩ := mv_at dov.moves mm hm
                    obtain ⟨gj, rfl, hn3, _⟩ := jl_at dov.jolts nn hnn
                    obtain ⟨gl, rfl, _⟩ := sp_at dsp i (by rw [play_len]; exact hlo)
                    have hmm3 : ¬ q.moves.length ≤ mm := Nat.not_le.2 hm
                    have hnn3 : ¬ q.jolts.length ≤ nn := Nat.not_le.2 hnn
                    have HSP : Hid (∀ w', w9.grownBy w' (some (w.heap.size + 1)) → w'.cell? ⟨gl, i * 3, none⟩ = some (.int .i64 (q.walk (p, x, y) js (i + 1)).1) ∧ w'.cell? ⟨gl, i * 3 + 1, none⟩ = some (.int .i64 (q.walk (p, x, y) js (i + 1)).2.1) ∧ w'.cell? ⟨gl, i * 3 + 2, none⟩ = some (.int .i64 (q.walk (p, x, y) js (i + 1)).2.2)) := by
                      intro w' hg
                      obtain ⟨g', e, h0, h1, h2⟩ := sp_at (KP2.out w' hg).2.2.2.2.2.1 i (by rw [play_len]; exact hlo)
                      cases e
                      rw [sAt_play q (p, x, y) js i hlo] at h0 h1 h2
                      exact ⟨h0, h1, h2⟩
                    have hm5 := mv5 (HOK.out.mv _ (List.getElem_mem hm))
                    have hj5 := jl5 (HOK.out.jl _ (List.getElem_mem hnn))
                    have cM := fun (w' : World) (hg : w9.grownBy w' (some (w.heap.size + 1))) => rMove_any _ _ _ v8 q (q.gridOf q.KK) (q.walk (p, x, y) js i) w' (KP2.out w' hg).2.2.2.1 HOK.out (KP2.out w' hg).2.2.2.2.2.2.1 (form_gridOf q q.KK) (KK_ex q _ HKI)
                    have cS := fun (w' : World) (hg : w9.grownBy w' (some (w.heap.size + 1))) => rStep_any _ _ _ q (q.walk (p, x, y) js i) q.moves[mm] q.jolts[nn] w' (KP2.out w' hg).2.2.2.1 (dim_of_ok HOK.out) (ex_inR HOK.out (KK_ex q _ HKI)) hm5 hj5
                    rw [exIn_gridOf q q.KK (KK_ex q), hmv] at cM
                    rw [← hws] at cS
                    have hmE : mvAt q.moves mm = q.moves[mm] := by unfold mvAt; rw [List.getD_eq_getElem?_getD, List.getElem?_eq_getElem hm]; rfl
                    have hjE : jlAt q.jolts nn = q.jolts[nn] := by unfold jlAt; rw [List.getD_eq_getElem?_getD, List.getElem?_eq_getElem hnn]; rfl
                    obtain ⟨M, hM⟩ : ∃ M, M = q.moves[mm] := ⟨_, rfl⟩
                    obtain ⟨J, hJ⟩ : ∃ J, J = q.jolts[nn] := ⟨_, rfl⟩
                    obtain ⟨M0, M1, M2, M3⟩ := M
                    obtain ⟨J0, J1⟩ := J
                    rw [← hM] at hmE cS
                    rw [← hJ] at hjE cS
                    have KEEP23 : Hid (∀ w', w9.grownBy w' (some (w.heap.size + 1)) → w'.cell? ⟨X, 0, none⟩ = some (.slice a1 n1 c1) ∧ w'.cell? ⟨X, 1, none⟩ = some (.slice (some ⟨gm, 0, none⟩) n2 c2) ∧ w'.cell? ⟨X, 2, none⟩ = some (.slice (some ⟨gj, 0, none⟩) q.jolts.length c3) ∧ w'.cell? ⟨g, i, none⟩ = some (.int .i64 nn) ∧ w'.cell? ⟨gm, mm * 4, none⟩ = some (.int .i64 M0) ∧ w'.cell? ⟨gm, mm * 4 + 1, none⟩ = some (.int .i64 M1) ∧ w'.cell? ⟨gm, mm * 4 + 2, none⟩ = some (.int .i64 M2) ∧ w'.cell? ⟨gm, mm * 4 + 3, none⟩ = some (.int .i64 M3) ∧ w'.cell? ⟨gj, nn * 2, none⟩ = some (.int .i64 J0) ∧ w'.cell? ⟨gj, nn * 2 + 1, none⟩ = some (.int .i64 J1) ∧ Hid (w9.grownBy w' (some (w.heap.size + 1)))) := by
                      intro w' hg
                      obtain ⟨f0, f1, f2, fov, fji, _, _, _⟩ := KP2.out w' hg
                      obtain ⟨g1, h1, k1⟩ := ints_at fji i hlo
                      obtain ⟨g2, h2, _, k2, k3, k4, k5⟩ := mv_at fov.moves mm hm
                      obtain ⟨g3, h3, _, k6, k7⟩ := jl_at fov.jolts nn hnn
                      cases h1; cases h2; cases h3
                      rw [hmE] at k2 k3 k4 k5
                      rw [hjE] at k6 k7
                      rw [hje] at k1
                      exact ⟨f0, f1, f2, k1, k2, k3, k4, k5, k6, k7, hg⟩
                    obtain ⟨s, hs⟩ : ∃ s, s = q.walk (p, x, y) js i := ⟨_, rfl⟩
                    obtain ⟨t', ht⟩ : ∃ t', t' = q.walk (p, x, y) js (i + 1) := ⟨_, rfl⟩
                    rw [← hs] at cM cS hz
                    rw [← ht] at cS HSP
                    have HT := hid ht
                    have HCM := hid cM
                    have HCS := hid cS
                    clear hs ht hkn hst hws hje hmv hm hnn hlo HKI cM cS d0 d1 d2 dov dji dsp dgr dbl e1 hmE hjE hM hJ hm5 hj5 hn3
                    obtain ⟨sx, sy, sz⟩ := s
                    obtain ⟨tx, ty, tz⟩ := t'
                    unfold spv at HCM HCS
                    unfold mvv jlv at HCS
                    simp only at hz HCM HCS HSP
                    have HZW := hid hz
                    clear hz
                    go_upto_region 23 with fail
                    have HGx : w9.grownBy wr.drew (some (w.heap.size + 1)) := grown_below HGW.out ((Below.refl _ _).drew)
                    have hzx : wr.drew.heap[w.heap.size + 1]? = _ := HZW.out
                    refine wp_region_held_drew (S := fun w' => w'.cell? ⟨X, 0, none⟩ = some (.slice a1 n1 c1) ∧ w'.cell? ⟨X, 1, none⟩ = some (.slice (some ⟨gm, 0, none⟩) n2 c2) ∧ w'.cell? ⟨X, 2, none⟩ = some (.slice (some ⟨gj, 0, none⟩) q.jolts.length c3) ∧ w'.cell? ⟨g, i, none⟩ = some (.int .i64 nn) ∧ w'.cell? ⟨gm, mm * 4, none⟩ = some (.int .i64 M0) ∧ w'.cell? ⟨gm, mm * 4 + 1, none⟩ = some (.int .i64 M1) ∧ w'.cell? ⟨gm, mm * 4 + 2, none⟩ = some (.int .i64 M2) ∧ w'.cell? ⟨gm, mm * 4 + 3, none⟩ = some (.int .i64 M3) ∧ w'.cell? ⟨gj, nn * 2, none⟩ = some (.int .i64 J0) ∧ w'.cell? ⟨gj, nn * 2 + 1, none⟩ = some (.int .i64 J1) ∧ Hid (w9.grownBy w' (some (w.heap.size + 1)))) (by kernel_rfl) (KEEP23.out _ HGx) (fun hHeld => ?_)
                    refine take_at (i := 0) 117 (v := .agg #[.slice a1 n1 c1, .slice (some ⟨gm, 0, none⟩) n2 c2, .slice (some ⟨gj, 0, none⟩) q.jolts.length c3]) rfl (by kernel_rfl) (by kernel_rfl) (by kernel_rfl) rfl (fun _ _ _ h => h) (by rfl) (fun w hSw => ?_) hHeld ?_
                    · (try dsimp only at hSw); go_simp
                    simp only [Act.put, List.setIfInBounds_toArray, List.set_cons_zero, List.set_cons_succ]
                    refine take_at (i := 2) 119 (v := .pointer (some ⟨X, 1, none⟩)) rfl (by kernel_rfl) (by kernel_rfl) (by kernel_rfl) rfl (fun _ _ _ h => h) (by rfl) (fun w hSw => ?_) hHeld ?_
                    · (try dsimp only at hSw); go_simp
                    simp only [Act.put, List.setIfInBounds_toArray, List.set_cons_zero, List.set_cons_succ]
                    refine take_at (i := 3) 120 (v := .slice (some ⟨gm, 0, none⟩) n2 c2) rfl (by kernel_rfl) (by kernel_rfl) (by kernel_rfl) rfl (fun _ _ _ h => h) (by rfl) (fun w hSw => ?_) hHeld ?_
                    · (try dsimp only at hSw); go_simp
                    simp only [Act.put, List.setIfInBounds_toArray, List.set_cons_zero, List.set_cons_succ]
                    refine take_at (i := 4) 121 (v := .agg #[.slice a1 n1 c1, .slice (some ⟨gm, 0, none⟩) n2 c2, .slice (some ⟨gj, 0, none⟩) q.jolts.length c3]) rfl (by kernel_rfl) (by kernel_rfl) (by kernel_rfl) rfl (fun _ _ _ h => h) (by rfl) (fun w hSw => ?_) hHeld ?_
                    · (try dsimp only at hSw); go_simp
                    simp only [Act.put, List.setIfInBounds_toArray, List.set_cons_zero, List.set_cons_succ]
                    refine take_at (i := 5) 122 (v := v8) rfl (by kernel_rfl) (by kernel_rfl) (by kernel_rfl) rfl (fun _ _ _ h => h) (by rfl) (fun w hSw => ?_) hHeld ?_
                    · (try dsimp only at hSw); go_simp
                    simp only [Act.put, List.setIfInBounds_toArray, List.set_cons_zero, List.set_cons_succ]
                    refine take_at (i := 10) 127 (v := .pointer (some ⟨X, 2, none⟩)) rfl (by kernel_rfl) (by kernel_rfl) (by kernel_rfl) rfl (fun _ _ _ h => h) (by rfl) (fun w hSw => ?_) hHeld ?_
                    · (try dsimp only at hSw); go_simp
                    simp only [Act.put, List.setIfInBounds_toArray, List.set_cons_zero, List.set_cons_succ]
                    refine take_at (i := 11) 128 (v := .slice (some ⟨gj, 0, none⟩) q.jolts.length c3) rfl (by kernel_rfl) (by kernel_rfl) (by kernel_rfl) rfl (fun _ _ _ h => h) (by rfl) (fun w hSw => ?_) hHeld ?_
                    · (try dsimp only at hSw); go_simp
                    simp only [Act.put, List.setIfInBounds_toArray, List.set_cons_zero, List.set_cons_succ]
                    refine take_at (i := 12) 129 (v := .slice (some ⟨g, 0, none⟩) n4 c4) rfl (by kernel_rfl) (by kernel_rfl) (by kernel_rfl) rfl (fun _ _ _ h => h) (by rfl) (fun w hSw => ?_) hHeld ?_
                    · (try dsimp only at hSw); go_simp
                    simp only [Act.put, List.setIfInBounds_toArray, List.set_cons_zero, List.set_cons_succ]
                    refine take_at (i := 13) 130 (v := .int .i64 i) rfl (by kernel_rfl) (by kernel_rfl) (by kernel_rfl) rfl (fun _ _ _ h => h) (by rfl) (fun w hSw => ?_) hHeld ?_
                    · (try dsimp only at hSw); go_simp
                    simp only [Act.put, List.setIfInBounds_toArray, List.set_cons_zero, List.set_cons_succ]
                    refine take_at (i := 14) 131 (v := .pointer (some ⟨g, i, none⟩)) rfl (by kernel_rfl) (by kernel_rfl) (by kernel_rfl) rfl (fun _ _ _ h => h) (by rfl) (fun w hSw => ?_) hHeld ?_
                    · (try dsimp only at hSw); go_simp
                    simp only [Act.put, List.setIfInBounds_toArray, List.set_cons_zero, List.set_cons_succ]
                    refine take_at (i := 15) 132 (v := .int .i64 nn) rfl (by kernel_rfl) (by kernel_rfl) (by kernel_rfl) rfl (fun _ _ _ h => h) (by rfl) (fun w hSw => ?_) hHeld ?_
                    · (try dsimp only at hSw); go_simp
                    simp only [Act.put, List.setIfInBounds_toArray, List.set_cons_zero, List.set_cons_succ]
                    refine take_at (i := 16) 133 (v := .pointer (some ⟨gj, nn * 2, none⟩)) rfl (by kernel_rfl) (by kernel_rfl) (by kernel_rfl) rfl (fun _ _ _ h => h) (by rfl) (fun w hSw => ?_) hHeld ?_
                    · (try dsimp only at hSw); go_simp
                    simp only [Act.put, List.setIfInBounds_toArray, List.set_cons_zero, List.set_cons_succ]
                    refine take_at (i := 17) 134 (v := .agg #[.int .i64 J0, .int .i64 J1]) rfl (by kernel_rfl) (by kernel_rfl) (by kernel_rfl) rfl (fun _ _ _ h => h) (by rfl) (fun w hSw => ?_) hHeld ?_
                    · (try dsimp only at hSw); go_simp
                    simp only [Act.put, List.setIfInBounds_toArray, List.set_cons_zero, List.set_cons_succ]
                    refine wpAnyH_ready (rs := [1, 6]) (by kernel_rfl) (by simp) ?_
                    refine node_load28 118 4 (w.heap.size + 1) _ _ _ rfl rfl rfl rfl rfl hzx hHeld ?_ ?_
                    · simp only [Act.put, List.setIfInBounds_toArray, List.set_cons_zero, List.set_cons_succ]
                      refine wpAnyH_ready (rs := [6]) (by kernel_rfl) (by simp) ?_
                      refine node_load28 123 4 (w.heap.size + 1) _ _ _ rfl rfl rfl rfl rfl hzx hHeld ?_ AllReadyH.nil
                      · simp only [Act.put, List.setIfInBounds_toArray, List.set_cons_zero, List.set_cons_succ]
                        refine wpAnyH_ready (rs := [7]) (by kernel_rfl) (by simp) ?_
                        refine node_call22 124 121 122 123 _ _ _ rfl (by rfl) rfl rfl rfl rfl rfl ((HCM.out _ HGx).mono ?_) AllReadyH.nil
                        · rintro e wz ⟨rfl, hbz⟩
                          have hzx := (hbz.block (w.heap.size + 1) (heap_lt hzx)).trans hzx
                          have HGx := grown_below HGx (hbz.mono HGx.size)
                          have hHeld := KEEP23.out _ HGx
                          refine ⟨_, rfl, hHeld, ?_⟩
                          clear hbz
                          simp only [Act.put, List.setIfInBounds_toArray, List.set_cons_zero, List.set_cons_succ]
                          refine take_at (i := 8) 125 (v := .pointer (some ⟨gm, mm * 4, none⟩)) rfl (by kernel_rfl) (by kernel_rfl) (by kernel_rfl) rfl (fun _ _ _ h => h) (by rfl) (fun w hSw => ?_) hHeld ?_
                          · (try dsimp only at hSw); go_simp
                          simp only [Act.put, List.setIfInBounds_toArray, List.set_cons_zero, List.set_cons_succ]
                          refine take_at (i := 9) 126 (v := .agg #[.int .i64 M0, .int .i64 M1, .int .i64 M2, .int .i64 M3]) rfl (by kernel_rfl) (by kernel_rfl) (by kernel_rfl) rfl (fun _ _ _ h => h) (by rfl) (fun w hSw => ?_) hHeld ?_
                          · (try dsimp only at hSw); go_simp
                          simp only [Act.put, List.setIfInBounds_toArray, List.set_cons_zero, List.set_cons_succ]
                          refine wpAnyH_ready (rs := [18]) (by kernel_rfl) (by simp) ?_
                          refine node_call30 135 117 118 126 134 _ _ _ _ rfl rfl rfl rfl rfl rfl rfl rfl ((HCS.out _ HGx).mono ?_) AllReadyH.nil
                          · rintro e wz ⟨rfl, hbz⟩
                            have hzx := (hbz.block (w.heap.size + 1) (heap_lt hzx)).trans hzx
                            have HGx := grown_below HGx (hbz.mono HGx.size)
                            have hHeld := KEEP23.out _ HGx
                            refine ⟨_, rfl, hHeld, ?_⟩
                            clear hbz
                            simp only [Act.put, List.setIfInBounds_toArray, List.set_cons_zero, List.set_cons_succ]
                            generalize hexb : q.ex (tx, ty, tz) = exb
                            clear hexb
                            refine take_at (i := 19) 116 (v := .tuple #[.agg #[.int .i64 tx, .int .i64 ty, .int .i64 tz], .bool exb]) rfl (by kernel_rfl) (by kernel_rfl) (by kernel_rfl) rfl (fun _ _ _ h => h) (by rfl) (fun w hSw => ?_) hHeld ?_
                            · (try dsimp only at hSw); go_simp
                            simp only [Act.put, List.setIfInBounds_toArray, List.set_cons_zero, List.set_cons_succ]
                            refine take_at (i := 20) 136 (v := .agg #[.int .i64 tx, .int .i64 ty, .int .i64 tz]) rfl (by kernel_rfl) (by kernel_rfl) (by kernel_rfl) rfl (fun _ _ _ h => h) (by rfl) (fun w hSw => ?_) hHeld ?_
                            · (try dsimp only at hSw); go_simp
                            simp only [Act.put, List.setIfInBounds_toArray, List.set_cons_zero, List.set_cons_succ]
                            refine take_at (i := 21) 137 (v := .bool exb) rfl (by kernel_rfl) (by kernel_rfl) (by kernel_rfl) rfl (fun _ _ _ h => h) (by rfl) (fun w hSw => ?_) hHeld ?_
                            · (try dsimp only at hSw); go_simp
                            simp only [Act.put, List.setIfInBounds_toArray, List.set_cons_zero, List.set_cons_succ]
                            refine wpAnyH_ready (rs := [22]) (by kernel_rfl) (by simp) ?_
                            refine node_store28 4 136 (w.heap.size + 1) _ _ _ tx ty tz rfl rfl rfl rfl rfl rfl hzx (KEEP23.out _ (grown_store3 HGx _ _ _)) ?_ AllReadyH.nil
                            have HGy : Hid (w9.grownBy (((wz.setCell ⟨w.heap.size + 1, 0, none⟩ (.int .i64 tx)).setCell ⟨w.heap.size + 1, 1, none⟩ (.int .i64 ty)).setCell ⟨w.heap.size + 1, 2, none⟩ (.int .i64 tz)) (some (w.heap.size + 1))) := grown_store3 HGx _ _ _
                            have hzy := store3 (x := .int .i64 tx) (y := .int .i64 ty) (z := .int .i64 tz) hzx
                            refine wpAnyH_done (by kernel_rfl) ?_ _
                            obtain ⟨wy, hwy⟩ : ∃ wy, wy = ((wz.setCell ⟨w.heap.size + 1, 0, none⟩ (.int .i64 tx)).setCell ⟨w.heap.size + 1, 1, none⟩ (.int .i64 ty)).setCell ⟨w.heap.size + 1, 2, none⟩ (.int .i64 tz) := ⟨_, rfl⟩
                            rw [← hwy] at HGy hzy ⊢
                            obtain ⟨v0, v1, v2⟩ := cells3_of hzy
                            obtain ⟨v3, v4, v5⟩ := HSP.out wy HGy.out
                            have HZY := hid hzy
                            clear hwy hzy hzx HGx hHeld
                            go_upto_region 24 with fail
                            refine wp_region_held_drew (S := fun w' => w'.cell? ⟨w.heap.size + 1, 0, none⟩ = some (.int .i64 tx) ∧ w'.cell? ⟨w.heap.size + 1, 1, none⟩ = some (.int .i64 ty) ∧ w'.cell? ⟨w.heap.size + 1, 2, none⟩ = some (.int .i64 tz) ∧ w'.cell? ⟨gl, i * 3, none⟩ = some (.int .i64 tx) ∧ w'.cell? ⟨gl, i * 3 + 1, none⟩ = some (.int .i64 ty) ∧ w'.cell? ⟨gl, i * 3 + 2, none⟩ = some (.int .i64 tz)) (by kernel_rfl) ⟨v0, v1, v2, v3, v4, v5⟩ (fun hHeld => ?_)
                            refine take_at (i := 0) 138 (v := .slice (some ⟨gl, 0, none⟩) n4 l2) rfl (by kernel_rfl) (by kernel_rfl) (by kernel_rfl) rfl (fun _ _ _ h => h) (by rfl) (fun w hSw => ?_) hHeld ?_
                            · (try dsimp only at hSw); go_simp
                            simp only [Act.put, List.setIfInBounds_toArray, List.set_cons_zero, List.set_cons_succ]
                            refine take_at (i := 1) 139 (v := .int .i64 i) rfl (by kernel_rfl) (by kernel_rfl) (by kernel_rfl) rfl (fun _ _ _ h => h) (by rfl) (fun w hSw => ?_) hHeld ?_
                            · (try dsimp only at hSw); go_simp
                            simp only [Act.put, List.setIfInBounds_toArray, List.set_cons_zero, List.set_cons_succ]
                            refine take_at (i := 2) 140 (v := .pointer (some ⟨gl, i * 3, none⟩)) rfl (by kernel_rfl) (by kernel_rfl) (by kernel_rfl) rfl (fun _ _ _ h => h) (by rfl) (fun w hSw => ?_) hHeld ?_
                            · (try dsimp only at hSw); go_simp
                            simp only [Act.put, List.setIfInBounds_toArray, List.set_cons_zero, List.set_cons_succ]
                            refine take_at (i := 3) 141 (v := .agg #[.int .i64 tx, .int .i64 ty, .int .i64 tz]) rfl (by kernel_rfl) (by kernel_rfl) (by kernel_rfl) rfl (fun _ _ _ h => h) (by rfl) (fun w hSw => ?_) hHeld ?_
                            · (try dsimp only at hSw); go_simp
                            simp only [Act.put, List.setIfInBounds_toArray, List.set_cons_zero, List.set_cons_succ]
                            refine take_at (i := 4) 142 (v := .agg #[.int .i64 tx, .int .i64 ty, .int .i64 tz]) rfl (by kernel_rfl) (by kernel_rfl) (by kernel_rfl) rfl (fun _ _ _ h => h) (by rfl) (fun w hSw => ?_) hHeld ?_
                            · (try dsimp only at hSw); go_simp
                            simp only [Act.put, List.setIfInBounds_toArray, List.set_cons_zero, List.set_cons_succ]
                            refine take_at (i := 5) 143 (v := .bool false) rfl (by kernel_rfl) (by kernel_rfl) (by kernel_rfl) rfl (fun _ _ _ h => h) (by rfl) (fun w hSw => ?_) hHeld ?_
                            · (try dsimp only at hSw); go_simp
                            simp only [Act.put, List.setIfInBounds_toArray, List.set_cons_zero, List.set_cons_succ]
                            refine wpAnyH_done (by kernel_rfl) ?_ _
                            clear hHeld v0 v1 v2 v3 v4 v5
                            go_wp2_with fail
                            go_roundw
                            case rel => exact ⟨i + 1, by go_num, by omega, by rw [← HT.out]; exact HZY.out, grown_below HGy.out ((Below.refl _ _).drew.mono HGy.out.size)⟩
                            case measure => simp [intOf]; omega
                    refine node_load28 123 4 (w.heap.size + 1) _ _ _ rfl rfl rfl rfl rfl hzx hHeld ?_ AllReadyH.nil
                    · simp only [Act.put, List.setIfInBounds_toArray, List.set_cons_zero, List.set_cons_succ]
                      refine wpAnyH_ready (rs := [1, 7]) (by kernel_rfl) (by simp) ?_
                      refine node_load28 118 4 (w.heap.size + 1) _ _ _ rfl rfl rfl rfl rfl hzx hHeld ?_ ?_
                      · simp only [Act.put, List.setIfInBounds_toArray, List.set_cons_zero, List.set_cons_succ]
                        refine wpAnyH_ready (rs := [7]) (by kernel_rfl) (by simp) ?_
                        refine node_call22 124 121 122 123 _ _ _ rfl (by rfl) rfl rfl rfl rfl rfl ((HCM.out _ HGx).mono ?_) AllReadyH.nil
                        · rintro e wz ⟨rfl, hbz⟩
                          have hzx := (hbz.block (w.heap.size + 1) (heap_lt hzx)).trans hzx
                          have HGx := grown_below HGx (hbz.mono HGx.size)
                          have hHeld := KEEP23.out _ HGx
                          refine ⟨_, rfl, hHeld, ?_⟩
                          clear hbz
                          simp only [Act.put, List.setIfInBounds_toArray, List.set_cons_zero, List.set_cons_succ]
                          refine take_at (i := 8) 125 (v := .pointer (some ⟨gm, mm * 4, none⟩)) rfl (by kernel_rfl) (by kernel_rfl) (by kernel_rfl) rfl (fun _ _ _ h => h) (by rfl) (fun w hSw => ?_) hHeld ?_
                          · (try dsimp only at hSw); go_simp
                          simp only [Act.put, List.setIfInBounds_toArray, List.set_cons_zero, List.set_cons_succ]
                          refine take_at (i := 9) 126 (v := .agg #[.int .i64 M0, .int .i64 M1, .int .i64 M2, .int .i64 M3]) rfl (by kernel_rfl) (by kernel_rfl) (by kernel_rfl) rfl (fun _ _ _ h => h) (by rfl) (fun w hSw => ?_) hHeld ?_
                          · (try dsimp only at hSw); go_simp
                          simp only [Act.put, List.setIfInBounds_toArray, List.set_cons_zero, List.set_cons_succ]
                          refine wpAnyH_ready (rs := [18]) (by kernel_rfl) (by simp) ?_
                          refine node_call30 135 117 118 126 134 _ _ _ _ rfl rfl rfl rfl rfl rfl rfl rfl ((HCS.out _ HGx).mono ?_) AllReadyH.nil
                          · rintro e wz ⟨rfl, hbz⟩
                            have hzx := (hbz.block (w.heap.size + 1) (heap_lt hzx)).trans hzx
                            have HGx := grown_below HGx (hbz.mono HGx.size)
                            have hHeld := KEEP23.out _ HGx
                            refine ⟨_, rfl, hHeld, ?_⟩
                            clear hbz
                            simp only [Act.put, List.setIfInBounds_toArray, List.set_cons_zero, List.set_cons_succ]
                            generalize hexb : q.ex (tx, ty, tz) = exb
                            clear hexb
                            refine take_at (i := 19) 116 (v := .tuple #[.agg #[.int .i64 tx, .int .i64 ty, .int .i64 tz], .bool exb]) rfl (by kernel_rfl) (by kernel_rfl) (by kernel_rfl) rfl (fun _ _ _ h => h) (by rfl) (fun w hSw => ?_) hHeld ?_
                            · (try dsimp only at hSw); go_simp
                            simp only [Act.put, List.setIfInBounds_toArray, List.set_cons_zero, List.set_cons_succ]
                            refine take_at (i := 20) 136 (v := .agg #[.int .i64 tx, .int .i64 ty, .int .i64 tz]) rfl (by kernel_rfl) (by kernel_rfl) (by kernel_rfl) rfl (fun _ _ _ h => h) (by rfl) (fun w hSw => ?_) hHeld ?_
                            · (try dsimp only at hSw); go_simp
                            simp only [Act.put, List.setIfInBounds_toArray, List.set_cons_zero, List.set_cons_succ]
                            refine take_at (i := 21) 137 (v := .bool exb) rfl (by kernel_rfl) (by kernel_rfl) (by kernel_rfl) rfl (fun _ _ _ h => h) (by rfl) (fun w hSw => ?_) hHeld ?_
                            · (try dsimp only at hSw); go_simp
                            simp only [Act.put, List.setIfInBounds_toArray, List.set_cons_zero, List.set_cons_succ]
                            refine wpAnyH_ready (rs := [22]) (by kernel_rfl) (by simp) ?_
                            refine node_store28 4 136 (w.heap.size + 1) _ _ _ tx ty tz rfl rfl rfl rfl rfl rfl hzx (KEEP23.out _ (grown_store3 HGx _ _ _)) ?_ AllReadyH.nil
                            have HGy : Hid (w9.grownBy (((wz.setCell ⟨w.heap.size + 1, 0, none⟩ (.int .i64 tx)).setCell ⟨w.heap.size + 1, 1, none⟩ (.int .i64 ty)).setCell ⟨w.heap.size + 1, 2, none⟩ (.int .i64 tz)) (some (w.heap.size + 1))) := grown_store3 HGx _ _ _
                            have hzy := store3 (x := .int .i64 tx) (y := .int .i64 ty) (z := .int .i64 tz) hzx
                            refine wpAnyH_done (by kernel_rfl) ?_ _
                            obtain ⟨wy, hwy⟩ : ∃ wy, wy = ((wz.setCell ⟨w.heap.size + 1, 0, none⟩ (.int .i64 tx)).setCell ⟨w.heap.size + 1, 1, none⟩ (.int .i64 ty)).setCell ⟨w.heap.size + 1, 2, none⟩ (.int .i64 tz) := ⟨_, rfl⟩
                            rw [← hwy] at HGy hzy ⊢
                            obtain ⟨v0, v1, v2⟩ := cells3_of hzy
                            obtain ⟨v3, v4, v5⟩ := HSP.out wy HGy.out
                            have HZY := hid hzy
                            clear hwy hzy hzx HGx hHeld
                            go_upto_region 24 with fail
                            refine wp_region_held_drew (S := fun w' => w'.cell? ⟨w.heap.size + 1, 0, none⟩ = some (.int .i64 tx) ∧ w'.cell? ⟨w.heap.size + 1, 1, none⟩ = some (.int .i64 ty) ∧ w'.cell? ⟨w.heap.size + 1, 2, none⟩ = some (.int .i64 tz) ∧ w'.cell? ⟨gl, i * 3, none⟩ = some (.int .i64 tx) ∧ w'.cell? ⟨gl, i * 3 + 1, none⟩ = some (.int .i64 ty) ∧ w'.cell? ⟨gl, i * 3 + 2, none⟩ = some (.int .i64 tz)) (by kernel_rfl) ⟨v0, v1, v2, v3, v4, v5⟩ (fun hHeld => ?_)
                            refine take_at (i := 0) 138 (v := .slice (some ⟨gl, 0, none⟩) n4 l2) rfl (by kernel_rfl) (by kernel_rfl) (by kernel_rfl) rfl (fun _ _ _ h => h) (by rfl) (fun w hSw => ?_) hHeld ?_
                            · (try dsimp only at hSw); go_simp
                            simp only [Act.put, List.setIfInBounds_toArray, List.set_cons_zero, List.set_cons_succ]
                            refine take_at (i := 1) 139 (v := .int .i64 i) rfl (by kernel_rfl) (by kernel_rfl) (by kernel_rfl) rfl (fun _ _ _ h => h) (by rfl) (fun w hSw => ?_) hHeld ?_
                            · (try dsimp only at hSw); go_simp
                            simp only [Act.put, List.setIfInBounds_toArray, List.set_cons_zero, List.set_cons_succ]
                            refine take_at (i := 2) 140 (v := .pointer (some ⟨gl, i * 3, none⟩)) rfl (by kernel_rfl) (by kernel_rfl) (by kernel_rfl) rfl (fun _ _ _ h => h) (by rfl) (fun w hSw => ?_) hHeld ?_
                            · (try dsimp only at hSw); go_simp
                            simp only [Act.put, List.setIfInBounds_toArray, List.set_cons_zero, List.set_cons_succ]
                            refine take_at (i := 3) 141 (v := .agg #[.int .i64 tx, .int .i64 ty, .int .i64 tz]) rfl (by kernel_rfl) (by kernel_rfl) (by kernel_rfl) rfl (fun _ _ _ h => h) (by rfl) (fun w hSw => ?_) hHeld ?_
                            · (try dsimp only at hSw); go_simp
                            simp only [Act.put, List.setIfInBounds_toArray, List.set_cons_zero, List.set_cons_succ]
                            refine take_at (i := 4) 142 (v := .agg #[.int .i64 tx, .int .i64 ty, .int .i64 tz]) rfl (by kernel_rfl) (by kernel_rfl) (by kernel_rfl) rfl (fun _ _ _ h => h) (by rfl) (fun w hSw => ?_) hHeld ?_
                            · (try dsimp only at hSw); go_simp
                            simp only [Act.put, List.setIfInBounds_toArray, List.set_cons_zero, List.set_cons_succ]
                            refine take_at (i := 5) 143 (v := .bool false) rfl (by kernel_rfl) (by kernel_rfl) (by kernel_rfl) rfl (fun _ _ _ h => h) (by rfl) (fun w hSw => ?_) hHeld ?_
                            · (try dsimp only at hSw); go_simp
                            simp only [Act.put, List.setIfInBounds_toArray, List.set_cons_zero, List.set_cons_succ]
                            refine wpAnyH_done (by kernel_rfl) ?_ _
                            clear hHeld v0 v1 v2 v3 v4 v5
                            go_wp2_with fail
                            go_roundw
                            case rel => exact ⟨i + 1, by go_num, by omega, by rw [← HT.out]; exact HZY.out, grown_below HGy.out ((Below.refl _ _).drew.mono HGy.out.size)⟩
                            case measure => simp [intOf]; omega
                      refine node_call22 124 121 122 123 _ _ _ rfl (by rfl) rfl rfl rfl rfl rfl ((HCM.out _ HGx).mono ?_) AllReadyH.nil
                      · rintro e wz ⟨rfl, hbz⟩
                        have hzx := (hbz.block (w.heap.size + 1) (heap_lt hzx)).trans hzx
                        have HGx := grown_below HGx (hbz.mono HGx.size)
                        have hHeld := KEEP23.out _ HGx
                        refine ⟨_, rfl, hHeld, ?_⟩
                        clear hbz
                        simp only [Act.put, List.setIfInBounds_toArray, List.set_cons_zero, List.set_cons_succ]
                        refine take_at (i := 8) 125 (v := .pointer (some ⟨gm, mm * 4, none⟩)) rfl (by kernel_rfl) (by kernel_rfl) (by kernel_rfl) rfl (fun _ _ _ h => h) (by rfl) (fun w hSw => ?_) hHeld ?_
                        · (try dsimp only at hSw); go_simp
                        simp only [Act.put, List.setIfInBounds_toArray, List.set_cons_zero, List.set_cons_succ]
                        refine take_at (i := 9) 126 (v := .agg #[.int .i64 M0, .int .i64 M1, .int .i64 M2, .int .i64 M3]) rfl (by kernel_rfl) (by kernel_rfl) (by kernel_rfl) rfl (fun _ _ _ h => h) (by rfl) (fun w hSw => ?_) hHeld ?_
                        · (try dsimp only at hSw); go_simp
                        simp only [Act.put, List.setIfInBounds_toArray, List.set_cons_zero, List.set_cons_succ]
                        refine wpAnyH_ready (rs := [1]) (by kernel_rfl) (by simp) ?_
                        refine node_load28 118 4 (w.heap.size + 1) _ _ _ rfl rfl rfl rfl rfl hzx hHeld ?_ AllReadyH.nil
                        · simp only [Act.put, List.setIfInBounds_toArray, List.set_cons_zero, List.set_cons_succ]
                          refine wpAnyH_ready (rs := [18]) (by kernel_rfl) (by simp) ?_
                          refine node_call30 135 117 118 126 134 _ _ _ _ rfl rfl rfl rfl rfl rfl rfl rfl ((HCS.out _ HGx).mono ?_) AllReadyH.nil
                          · rintro e wz ⟨rfl, hbz⟩
                            have hzx := (hbz.block (w.heap.size + 1) (heap_lt hzx)).trans hzx
                            have HGx := grown_below HGx (hbz.mono HGx.size)
                            have hHeld := KEEP23.out _ HGx
                            refine ⟨_, rfl, hHeld, ?_⟩
                            clear hbz
                            simp only [Act.put, List.setIfInBounds_toArray, List.set_cons_zero, List.set_cons_succ]
                            generalize hexb : q.ex (tx, ty, tz) = exb
                            clear hexb
                            refine take_at (i := 19) 116 (v := .tuple #[.agg #[.int .i64 tx, .int .i64 ty, .int .i64 tz], .bool exb]) rfl (by kernel_rfl) (by kernel_rfl) (by kernel_rfl) rfl (fun _ _ _ h => h) (by rfl) (fun w hSw => ?_) hHeld ?_
                            · (try dsimp only at hSw); go_simp
                            simp only [Act.put, List.setIfInBounds_toArray, List.set_cons_zero, List.set_cons_succ]
                            refine take_at (i := 20) 136 (v := .agg #[.int .i64 tx, .int .i64 ty, .int .i64 tz]) rfl (by kernel_rfl) (by kernel_rfl) (by kernel_rfl) rfl (fun _ _ _ h => h) (by rfl) (fun w hSw => ?_) hHeld ?_
                            · (try dsimp only at hSw); go_simp
                            simp only [Act.put, List.setIfInBounds_toArray, List.set_cons_zero, List.set_cons_succ]
                            refine take_at (i := 21) 137 (v := .bool exb) rfl (by kernel_rfl) (by kernel_rfl) (by kernel_rfl) rfl (fun _ _ _ h => h) (by rfl) (fun w hSw => ?_) hHeld ?_
                            · (try dsimp only at hSw); go_simp
                            simp only [Act.put, List.setIfInBounds_toArray, List.set_cons_zero, List.set_cons_succ]
                            refine wpAnyH_ready (rs := [22]) (by kernel_rfl) (by simp) ?_
                            refine node_store28 4 136 (w.heap.size + 1) _ _ _ tx ty tz rfl rfl rfl rfl rfl rfl hzx (KEEP23.out _ (grown_store3 HGx _ _ _)) ?_ AllReadyH.nil
                            have HGy : Hid (w9.grownBy (((wz.setCell ⟨w.heap.size + 1, 0, none⟩ (.int .i64 tx)).setCell ⟨w.heap.size + 1, 1, none⟩ (.int .i64 ty)).setCell ⟨w.heap.size + 1, 2, none⟩ (.int .i64 tz)) (some (w.heap.size + 1))) := grown_store3 HGx _ _ _
                            have hzy := store3 (x := .int .i64 tx) (y := .int .i64 ty) (z := .int .i64 tz) hzx
                            refine wpAnyH_done (by kernel_rfl) ?_ _
                            obtain ⟨wy, hwy⟩ : ∃ wy, wy = ((wz.setCell ⟨w.heap.size + 1, 0, none⟩ (.int .i64 tx)).setCell ⟨w.heap.size + 1, 1, none⟩ (.int .i64 ty)).setCell ⟨w.heap.size + 1, 2, none⟩ (.int .i64 tz) := ⟨_, rfl⟩
                            rw [← hwy] at HGy hzy ⊢
                            obtain ⟨v0, v1, v2⟩ := cells3_of hzy
                            obtain ⟨v3, v4, v5⟩ := HSP.out wy HGy.out
                            have HZY := hid hzy
                            clear hwy hzy hzx HGx hHeld
                            go_upto_region 24 with fail
                            refine wp_region_held_drew (S := fun w' => w'.cell? ⟨w.heap.size + 1, 0, none⟩ = some (.int .i64 tx) ∧ w'.cell? ⟨w.heap.size + 1, 1, none⟩ = some (.int .i64 ty) ∧ w'.cell? ⟨w.heap.size + 1, 2, none⟩ = some (.int .i64 tz) ∧ w'.cell? ⟨gl, i * 3, none⟩ = some (.int .i64 tx) ∧ w'.cell? ⟨gl, i * 3 + 1, none⟩ = some (.int .i64 ty) ∧ w'.cell? ⟨gl, i * 3 + 2, none⟩ = some (.int .i64 tz)) (by kernel_rfl) ⟨v0, v1, v2, v3, v4, v5⟩ (fun hHeld => ?_)
                            refine take_at (i := 0) 138 (v := .slice (some ⟨gl, 0, none⟩) n4 l2) rfl (by kernel_rfl) (by kernel_rfl) (by kernel_rfl) rfl (fun _ _ _ h => h) (by rfl) (fun w hSw => ?_) hHeld ?_
                            · (try dsimp only at hSw); go_simp
                            simp only [Act.put, List.setIfInBounds_toArray, List.set_cons_zero, List.set_cons_succ]
                            refine take_at (i := 1) 139 (v := .int .i64 i) rfl (by kernel_rfl) (by kernel_rfl) (by kernel_rfl) rfl (fun _ _ _ h => h) (by rfl) (fun w hSw => ?_) hHeld ?_
                            · (try dsimp only at hSw); go_simp
                            simp only [Act.put, List.setIfInBounds_toArray, List.set_cons_zero, List.set_cons_succ]
                            refine take_at (i := 2) 140 (v := .pointer (some ⟨gl, i * 3, none⟩)) rfl (by kernel_rfl) (by kernel_rfl) (by kernel_rfl) rfl (fun _ _ _ h => h) (by rfl) (fun w hSw => ?_) hHeld ?_
                            · (try dsimp only at hSw); go_simp
                            simp only [Act.put, List.setIfInBounds_toArray, List.set_cons_zero, List.set_cons_succ]
                            refine take_at (i := 3) 141 (v := .agg #[.int .i64 tx, .int .i64 ty, .int .i64 tz]) rfl (by kernel_rfl) (by kernel_rfl) (by kernel_rfl) rfl (fun _ _ _ h => h) (by rfl) (fun w hSw => ?_) hHeld ?_
                            · (try dsimp only at hSw); go_simp
                            simp only [Act.put, List.setIfInBounds_toArray, List.set_cons_zero, List.set_cons_succ]
                            refine take_at (i := 4) 142 (v := .agg #[.int .i64 tx, .int .i64 ty, .int .i64 tz]) rfl (by kernel_rfl) (by kernel_rfl) (by kernel_rfl) rfl (fun _ _ _ h => h) (by rfl) (fun w hSw => ?_) hHeld ?_
                            · (try dsimp only at hSw); go_simp
                            simp only [Act.put, List.setIfInBounds_toArray, List.set_cons_zero, List.set_cons_succ]
                            refine take_at (i := 5) 143 (v := .bool false) rfl (by kernel_rfl) (by kernel_rfl) (by kernel_rfl) rfl (fun _ _ _ h => h) (by rfl) (fun w hSw => ?_) hHeld ?_
                            · (try dsimp only at hSw); go_simp
                            simp only [Act.put, List.setIfInBounds_toArray, List.set_cons_zero, List.set_cons_succ]
                            refine wpAnyH_done (by kernel_rfl) ?_ _
                            clear hHeld v0 v1 v2 v3 v4 v5
                            go_wp2_with fail
                            go_roundw
                            case rel => exact ⟨i + 1, by go_num, by omega, by rw [← HT.out]; exact HZY.out, grown_below HGy.out ((Below.refl _ _).drew.mono HGy.out.size)⟩
                            case measure => simp [intOf]; omega
                  · obtain rfl : n4 = i := by omega
                    go_wp2_with fail
                    go_ret
                    exact ⟨rfl, (KP2.out _ HGW.out).2.2.2.2.2.2.2⟩
end Go.Proofs.YtjonbhimbhidpaaDoor
