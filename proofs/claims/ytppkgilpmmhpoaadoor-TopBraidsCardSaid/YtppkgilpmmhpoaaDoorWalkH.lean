/-
  The braid is read (12).
-/
import Derived.Test.YtppkgilpmmhpoaaDoorBaseD
import Derived.Test.YtppkgilpmmhpoaaDoorWalkG
namespace Go.Proofs.YtppkgilpmmhpoaaDoor
open Go.RowKit
theorem Rws.box {w0 W W' : World} {n pb x i D : Nat} {us : List Value} {P : Nat → List Nat} {v' : Value} {cs : Array Value} (h : Rws w0 W n pb us P) (hx : x < n)
    (ho : OwnV W' w0.heap.size 3 v' ((P x).map iv ++ [iv i])) (ha : AppTo W (us.getD x undef) W' v') (hD : W.heap[D]? = some (.cells cs 43)) :
    W'.heap[D]? = some (.cells cs 43) ∧ (W'.setCell ⟨pb, x, none⟩ v').heap[D]? = some (.cells cs 43) := by
  have hrx := h.row x hx
  have htab : OwnV W' w0.heap.size 22 (.slice (some ⟨pb, 0, none⟩) n n) us := row_other (e' := 3) h.tab ha.grown (fun k hk => row_type hrx k hk) (by decide)
  have h1 : W'.heap[D]? = some (.cells cs 43) := (ha.grown.block D (heap_lt hD) (fun e => by
    obtain ⟨c2, hc⟩ := row_type hrx D e.symm
    rw [hD] at hc
    cases hc)).trans hD
  refine ⟨h1, ((ownV_set htab x v').2.block D (heap_lt h1) (fun e => ?_)).trans h1⟩
  injection e with e
  obtain ⟨c2, hc⟩ := row_type htab pb rfl
  rw [← e, h1] at hc
  cases hc
def gOf : Value → Nat
  | .slice (some p) _ _ => p.block
  | _ => 0
def cOf : Value → Nat
  | .slice _ _ c => c
  | _ => 0
theorem Rws.cur {w0 W : World} {n pb D wb wc : Nat} {us : List Value} (h : Rws w0 W n pb us (plc n 0 (2 * n))) (hn : 1 ≤ n ∧ n ≤ 10)
    (hD : W.heap[D]? = some (.cells #[.int .i64 (n : Int), .slice (some ⟨wb, 0, none⟩) (2 * n) wc, .slice (some ⟨pb, 0, none⟩) n n] 43))
    (hw : ∀ i, i < 2 * n → W.cell? ⟨wb, i, none⟩ = some (.int .i64 ((i % n : Nat) : Int))) : Cur W D n wb wc pb (fun x => gOf (us.getD x undef)) (fun x => cOf (us.getD x undef)) := by
  have key : ∀ x, x < n → ∃ g c, us.getD x undef = .slice (some ⟨g, 0, none⟩) 2 c ∧ W.cell? ⟨g, 0, none⟩ = some (iv x) ∧ W.cell? ⟨g, 1, none⟩ = some (iv (n + x)) := fun x hx => by
    have ho := h.row x hx
    rw [plc_end n (by omega) x hx] at ho
    obtain ⟨g, c, e, -⟩ := ownV_some ho (by simp)
    rw [e] at ho
    exact ⟨g, c, e, ownV_cell ho 0 (by simp), ownV_cell ho 1 (by simp)⟩
  refine ⟨hn, hD, hw, fun x hx => ?_, fun x hx => ?_, fun x hx => ?_⟩
  · obtain ⟨g, c, e, -⟩ := key x hx
    rw [h.at hx, e]; rfl
  · obtain ⟨g, c, e, h1, h2⟩ := key x hx
    rw [e]; exact h1
  · obtain ⟨g, c, e, h1, h2⟩ := key x hx
    rw [e]; exact h2
set_option maxRecDepth 100000 in
set_option maxHeartbeats 4000000 in
theorem read_any (n r wb wc : Nat) (w : World) (hn : 1 ≤ n ∧ n ≤ 10) (hr : r < n) (hw : ∀ i, i < 2 * n → w.cell? ⟨wb, i, none⟩ = some (.int .i64 (((i + r) % n : Nat) : Int))) :
    Calls Tryd.prog 12 #[.slice (some ⟨wb, 0, none⟩) (2 * n) wc] w fun e w' => ∃ x, e = .returned x ∧ (∃ D, x = .tuple #[.pointer (some ⟨D, 0, none⟩), .int .i64 0] ∧ (r = 0 → ∃ pb gs cs, Cur w' D n wb wc pb gs cs)) ∧ Below w.heap.size w w' := by
  obtain ⟨hn1, hn10⟩ := hn
  have HW : Hid (∀ w' i, Below w.heap.size w w' → i < 2 * n → w'.cell? ⟨wb, i, none⟩ = some (.int .i64 (((i + r) % n : Nat) : Int))) := fun w' i hb hi => (hb.cell (World.block_lt_of_cell? w _ (hw i hi))).trans (hw i hi)
  have HHR := hid hr
  obtain ⟨m, hm⟩ : ∃ m, m = 2 * n := ⟨_, rfl⟩
  have HM := hid hm
  have hm2 : 2 ≤ m := by omega
  have hm20 : m ≤ 20 := by omega
  have htd : (m : Int).tdiv 2 = (n : Int) := by rw [Int.tdiv_eq_ediv_of_nonneg (by omega)]; omega
  have htm : (m : Int).tmod 2 = 0 := by rw [Int.tmod_eq_emod_of_nonneg (by omega)]; omega
  obtain ⟨cs, hcs, hmk⟩ := make_rows n hn10
  have HCS := hid hcs
  have hbx1 := ba w (.cells cs 22)
  have hpb := heap_alloc_new w (.cells cs 22)
  rw [← hm]
  clear hw hr hm hcs
  go_enter Tryd.func12, Tryd.ntmps12
  go_upto_region 7 with fail
  obtain ⟨w2, hw2⟩ : ∃ v, v = (w.alloc (.cells cs 22)).alloc (.cells #[.int .i64 (n : Int), .slice (some ⟨wb, 0, none⟩) m wc, .slice (some ⟨w.heap.size, 0, none⟩) n n] 43) := ⟨_, rfl⟩
  rw [← hw2]
  clear hbx1 hpb hmk htd htm
  have HW2 : Hid (Rws w w2 n w.heap.size (List.replicate n (.slice none 0 0)) (plc n r 0)) := by
    have hb2 : Below w.heap.size w ((w.alloc (.cells cs 22)).alloc (.cells #[.int .i64 (n : Int), .slice (some ⟨wb, 0, none⟩) m wc, .slice (some ⟨w.heap.size, 0, none⟩) n n] 43)) := ((Below.refl _ w).alloc (Nat.le_refl _) _).alloc (by simp) _
    rw [hw2]
    exact rws_start (by rw [(ba (w.alloc (.cells cs 22)) (.cells #[.int .i64 (n : Int), .slice (some ⟨wb, 0, none⟩) m wc, .slice (some ⟨w.heap.size, 0, none⟩) n n] 43)).block w.heap.size (by simp)]; exact heap_alloc_new w _) HCS.out (Nat.le_refl _) hb2 hn10
  have HBO2 : Hid (w2.heap[w.heap.size + 1]? = some (.cells #[.int .i64 (n : Int), .slice (some ⟨wb, 0, none⟩) m wc, .slice (some ⟨w.heap.size, 0, none⟩) n n] 43)) := by
    rw [hw2]
    have h := heap_alloc_new (w.alloc (.cells cs 22)) (.cells #[.int .i64 (n : Int), .slice (some ⟨wb, 0, none⟩) m wc, .slice (some ⟨w.heap.size, 0, none⟩) n n] 43)
    have e : (w.alloc (.cells cs 22)).heap.size = w.heap.size + 1 := by simp
    rw [e] at h
    exact h
  clear hw2
  obtain ⟨D, hD⟩ : ∃ D, D = w.heap.size + 1 := ⟨_, rfl⟩
  rw [← hD] at HBO2 ⊢
  obtain ⟨pb, hpb2⟩ : ∃ pb, pb = w.heap.size := ⟨_, rfl⟩
  rw [← hpb2] at HBO2 HW2
  clear hD HCS
  have HPB := hid hpb2
  clear hpb2
  go_wp2_with fail
  go_loopw [32] (fun cv wr => ∃ (i : Nat) (us : List Value), cv = .int .i64 i ∧ i ≤ m ∧ Hid (Rws w wr n pb us (plc n r i)) ∧ Hid (wr.heap[D]? = some (.cells #[.int .i64 (n : Int), .slice (some ⟨wb, 0, none⟩) m wc, .slice (some ⟨pb, 0, none⟩) n n] 43))) (fun cv _ => m - (intOf cv).toNat)
  case atStart => exact ⟨0, _, rfl, Nat.zero_le _, HW2, HBO2⟩
  case round =>
    obtain ⟨i, us, rfl, hi, HR, HBO⟩ := hrel
    rename World => wr
    by_cases hlt : i < m
    · have hi2 : i < 2 * n := by rw [← HM.out]; exact hlt
      have cw := HW.out wr i HR.out.blo hi2
      have hvl := plc_two n (by omega) r (Nat.lt_of_lt_of_le HHR.out hn10) HHR.out i (by omega) hi2
      obtain ⟨x, hx⟩ : ∃ x, x = (i + r) % n := ⟨_, rfl⟩
      have hxn : x < n := by rw [hx]; exact Nat.mod_lt _ (by omega)
      have HX : Hid (x < n) := hxn
      have HPS : Hid (plc n r (i + 1) = fun y => if y = x then plc n r i x ++ [i] else plc n r i y) := by
        show _ = _
        funext y
        rw [plc_step, ← hx]
        by_cases e : y = x
        · rw [if_pos e, if_pos e, e]
        · rw [if_neg e, if_neg e]
      rw [← hx] at cw hvl
      have cx := HR.out.at hxn
      have hlv := ownV_len (HR.out.row x hxn)
      have hvs := ownV_sh (HR.out.row x hxn)
      have HLL : Hid (((plc n r i x).map iv).length ≤ 1000000) := by show _ ≤ _; rw [List.length_map]; omega
      obtain ⟨va, vn, vc, hv⟩ := hvs
      have HV := hid hv
      rw [hv] at cx hlv
      have hvn : vn < 2 := by
        have h1 : vn = ((plc n r i x).map iv).length := hlv
        rw [List.length_map] at h1; omega
      obtain ⟨k0, k1, k2⟩ := cells3_of HBO.out
      have e1 : decide ((x : Int) < 0) = false := decide_eq_false (by omega)
      have e2 : decide (n ≤ x) = false := decide_eq_false (by omega)
      have e3 : decide (vn = 2) = false := decide_eq_false (by omega)
      have e4 : decide ((vn : Int) = 2) = false := decide_eq_false (by omega)
      clear hv hlv hvl hx
      go_upto_region 12 with fail
      clear cw cx k0 k1 k2 e1 e2 e3 e4
      refine wp_region_held_drew (S := fun w' => w'.heap[D]? = some (.cells #[.int .i64 (n : Int), .slice (some ⟨wb, 0, none⟩) m wc, .slice (some ⟨pb, 0, none⟩) n n] 43)) (by kernel_rfl) ((((Below.refl _ wr).drew).block D (heap_lt HBO.out)).trans HBO.out) (fun hHeld => ?_)
      have HR0 := hid (HR.out.below ((Below.refl _ wr).drew))
      generalize wr.drew = u0 at *
      refine take_at (i := 0) 55 (v := .pointer (some ⟨D, 0, none⟩)) rfl (by kernel_rfl) (by kernel_rfl) (by kernel_rfl) rfl (fun _ _ _ h => h) (by rfl) (fun w hSw => ?_) hHeld ?_
      · (try dsimp only at hSw); go_simp
      simp only [Act.put, List.setIfInBounds_toArray, List.set_cons_zero, List.set_cons_succ]
      refine take_at (i := 1) 56 (v := .pointer (some ⟨D, 0, none⟩)) rfl (by kernel_rfl) (by kernel_rfl) (by kernel_rfl) rfl (fun _ _ _ h => h) (by rfl) (fun w hSw => ?_) hHeld ?_
      · (try dsimp only at hSw); go_simp
      simp only [Act.put, List.setIfInBounds_toArray, List.set_cons_zero, List.set_cons_succ]
      refine take_at (i := 2) 57 (v := .pointer (some ⟨D, 2, none⟩)) rfl (by kernel_rfl) (by kernel_rfl) (by kernel_rfl) rfl (fun _ _ _ h => h) (by rfl) (fun w hSw => ?_) hHeld ?_
      · (try dsimp only at hSw); go_simp
      simp only [Act.put, List.setIfInBounds_toArray, List.set_cons_zero, List.set_cons_succ]
      refine take_at (i := 3) 58 (v := .slice (some ⟨pb, 0, none⟩) n n) rfl (by kernel_rfl) (by kernel_rfl) (by kernel_rfl) rfl (fun _ _ _ h => h) (by rfl) (fun w hSw => ?_) hHeld ?_
      · (try dsimp only at hSw); obtain ⟨q0, q1, q2⟩ := cells3_of hSw; go_simp
      simp only [Act.put, List.setIfInBounds_toArray, List.set_cons_zero, List.set_cons_succ]
      refine take_at (i := 4) 59 (v := .int .i64 (x : Int)) rfl (by kernel_rfl) (by kernel_rfl) (by kernel_rfl) rfl (fun _ _ _ h => h) (by rfl) (fun w hSw => ?_) hHeld ?_
      · (try dsimp only at hSw); go_simp
      simp only [Act.put, List.setIfInBounds_toArray, List.set_cons_zero, List.set_cons_succ]
      refine take_at (i := 5) 60 (v := .pointer (some ⟨D, 0, none⟩)) rfl (by kernel_rfl) (by kernel_rfl) (by kernel_rfl) rfl (fun _ _ _ h => h) (by rfl) (fun w hSw => ?_) hHeld ?_
      · (try dsimp only at hSw); go_simp
      simp only [Act.put, List.setIfInBounds_toArray, List.set_cons_zero, List.set_cons_succ]
      refine take_at (i := 6) 61 (v := .pointer (some ⟨D, 0, none⟩)) rfl (by kernel_rfl) (by kernel_rfl) (by kernel_rfl) rfl (fun _ _ _ h => h) (by rfl) (fun w hSw => ?_) hHeld ?_
      · (try dsimp only at hSw); go_simp
      simp only [Act.put, List.setIfInBounds_toArray, List.set_cons_zero, List.set_cons_succ]
      refine take_at (i := 7) 62 (v := .pointer (some ⟨D, 2, none⟩)) rfl (by kernel_rfl) (by kernel_rfl) (by kernel_rfl) rfl (fun _ _ _ h => h) (by rfl) (fun w hSw => ?_) hHeld ?_
      · (try dsimp only at hSw); go_simp
      simp only [Act.put, List.setIfInBounds_toArray, List.set_cons_zero, List.set_cons_succ]
      refine take_at (i := 8) 63 (v := .slice (some ⟨pb, 0, none⟩) n n) rfl (by kernel_rfl) (by kernel_rfl) (by kernel_rfl) rfl (fun _ _ _ h => h) (by rfl) (fun w hSw => ?_) hHeld ?_
      · (try dsimp only at hSw); obtain ⟨q0, q1, q2⟩ := cells3_of hSw; go_simp
      simp only [Act.put, List.setIfInBounds_toArray, List.set_cons_zero, List.set_cons_succ]
      refine take_at (i := 9) 64 (v := .int .i64 (x : Int)) rfl (by kernel_rfl) (by kernel_rfl) (by kernel_rfl) rfl (fun _ _ _ h => h) (by rfl) (fun w hSw => ?_) hHeld ?_
      · (try dsimp only at hSw); go_simp
      simp only [Act.put, List.setIfInBounds_toArray, List.set_cons_zero, List.set_cons_succ]
      refine take_at (i := 10) 65 (v := .pointer (some ⟨pb, x, none⟩)) rfl (by kernel_rfl) (by kernel_rfl) (by kernel_rfl) rfl (fun _ _ _ h => h) (by rfl) (fun w hSw => ?_) hHeld ?_
      · (try dsimp only at hSw); go_simp
      simp only [Act.put, List.setIfInBounds_toArray, List.set_cons_zero, List.set_cons_succ]
      refine take_at (i := 12) 67 (v := .int .i64 (i : Int)) rfl (by kernel_rfl) (by kernel_rfl) (by kernel_rfl) rfl (fun _ _ _ h => h) (by rfl) (fun w hSw => ?_) hHeld ?_
      · (try dsimp only at hSw); go_simp
      simp only [Act.put, List.setIfInBounds_toArray, List.set_cons_zero, List.set_cons_succ]
      refine wpAnyH_ready (rs := [11, 13]) (by kernel_rfl) (by simp) ?_
      refine node_ld22 66 65 ⟨pb, x, none⟩ va vn vc rfl rfl rfl rfl rfl ((HR0.out.at HX.out).trans (congrArg some HV.out)) hHeld ?_ ?_
      · skip
        simp only [Act.put, List.setIfInBounds_toArray, List.set_cons_zero, List.set_cons_succ]
        refine wpAnyH_ready (rs := [13]) (by kernel_rfl) (by simp) ?_
        refine node_build22 68 67 (i : Int) rfl rfl rfl rfl rfl (((ba u0 (.cells #[.int .i64 (i : Int)] 3)).block D (heap_lt hHeld)).trans hHeld) (fun hHeld => ?_) AllReadyH.nil
        · have HR1 := hid (HR0.out.below (ba u0 (.cells #[.int .i64 (i : Int)] 3)))
          have HSB := hid (heap_alloc_new u0 (.cells #[.int .i64 (i : Int)] 3))
          obtain ⟨u1, hu1⟩ : ∃ v, v = u0.alloc (.cells #[.int .i64 (i : Int)] 3) := ⟨_, rfl⟩
          rw [← hu1] at HR1 HSB hHeld ⊢
          obtain ⟨sb, hsb⟩ : ∃ b, b = u0.heap.size := ⟨_, rfl⟩
          rw [← hsb] at HSB ⊢
          clear hu1 hsb
          simp only [Act.put, List.setIfInBounds_toArray, List.set_cons_zero, List.set_cons_succ]
          refine wpAnyH_ready (rs := [14]) (by kernel_rfl) (by simp) ?_
          refine node_app1 69 w.heap.size 66 68 (.slice va vn vc) ((plc n r i x).map iv) sb (i : Int) rfl rfl rfl rfl rfl rfl HSB.out (by have h := HR1.out.row x HX.out; rw [HV.out] at h; exact h) HR1.out.blo.size HLL.out ?_ AllReadyH.nil
          · intro v' w2 ho ha
            rw [← HV.out] at ha
            have HST := hid (HR1.out.step HX.out ho ha)
            have HBX := hid (HR1.out.box HX.out ho ha hHeld)
            obtain ⟨na, nn, nc, rfl⟩ := ownV_sh ho
            clear ho ha hHeld
            have hHeld := HBX.out.1
            refine ⟨hHeld, ?_⟩
            simp only [Act.put, List.setIfInBounds_toArray, List.set_cons_zero, List.set_cons_succ]
            refine take_at (i := 15) 70 (v := .pointer (some ⟨pb, x, none⟩)) rfl (by kernel_rfl) (by kernel_rfl) (by kernel_rfl) rfl (fun _ _ _ h => h) (by rfl) (fun w hSw => ?_) hHeld ?_
            · (try dsimp only at hSw); go_simp
            simp only [Act.put, List.setIfInBounds_toArray, List.set_cons_zero, List.set_cons_succ]
            refine wpAnyH_ready (rs := [16]) (by kernel_rfl) (by simp) ?_
            refine node_st22 70 69 ⟨pb, x, none⟩ _ na nn nc rfl rfl rfl rfl rfl rfl HST.out.1.1 HST.out.1.2 HBX.out.2 ?_ AllReadyH.nil
            · clear hHeld
              refine wpAnyH_done (by kernel_rfl) ?_ _
              go_wp2_with fail
              go_roundw
              case rel => exact ⟨i + 1, _, by go_num, by omega, by rw [HPS.out]; exact HST.out.2, HBX.out.2⟩
              case measure => simp [intOf]; omega
      refine node_build22 68 67 (i : Int) rfl rfl rfl rfl rfl (((ba u0 (.cells #[.int .i64 (i : Int)] 3)).block D (heap_lt hHeld)).trans hHeld) (fun hHeld => ?_) AllReadyH.nil
      · have HR1 := hid (HR0.out.below (ba u0 (.cells #[.int .i64 (i : Int)] 3)))
        have HSB := hid (heap_alloc_new u0 (.cells #[.int .i64 (i : Int)] 3))
        obtain ⟨u1, hu1⟩ : ∃ v, v = u0.alloc (.cells #[.int .i64 (i : Int)] 3) := ⟨_, rfl⟩
        rw [← hu1] at HR1 HSB hHeld ⊢
        obtain ⟨sb, hsb⟩ : ∃ b, b = u0.heap.size := ⟨_, rfl⟩
        rw [← hsb] at HSB ⊢
        clear hu1 hsb
        simp only [Act.put, List.setIfInBounds_toArray, List.set_cons_zero, List.set_cons_succ]
        refine wpAnyH_ready (rs := [11]) (by kernel_rfl) (by simp) ?_
        refine node_ld22 66 65 ⟨pb, x, none⟩ va vn vc rfl rfl rfl rfl rfl ((HR1.out.at HX.out).trans (congrArg some HV.out)) hHeld ?_ AllReadyH.nil
        · skip
          simp only [Act.put, List.setIfInBounds_toArray, List.set_cons_zero, List.set_cons_succ]
          refine wpAnyH_ready (rs := [14]) (by kernel_rfl) (by simp) ?_
          refine node_app1 69 w.heap.size 66 68 (.slice va vn vc) ((plc n r i x).map iv) sb (i : Int) rfl rfl rfl rfl rfl rfl HSB.out (by have h := HR1.out.row x HX.out; rw [HV.out] at h; exact h) HR1.out.blo.size HLL.out ?_ AllReadyH.nil
          · intro v' w2 ho ha
            rw [← HV.out] at ha
            have HST := hid (HR1.out.step HX.out ho ha)
            have HBX := hid (HR1.out.box HX.out ho ha hHeld)
            obtain ⟨na, nn, nc, rfl⟩ := ownV_sh ho
            clear ho ha hHeld
            have hHeld := HBX.out.1
            refine ⟨hHeld, ?_⟩
            simp only [Act.put, List.setIfInBounds_toArray, List.set_cons_zero, List.set_cons_succ]
            refine take_at (i := 15) 70 (v := .pointer (some ⟨pb, x, none⟩)) rfl (by kernel_rfl) (by kernel_rfl) (by kernel_rfl) rfl (fun _ _ _ h => h) (by rfl) (fun w hSw => ?_) hHeld ?_
            · (try dsimp only at hSw); go_simp
            simp only [Act.put, List.setIfInBounds_toArray, List.set_cons_zero, List.set_cons_succ]
            refine wpAnyH_ready (rs := [16]) (by kernel_rfl) (by simp) ?_
            refine node_st22 70 69 ⟨pb, x, none⟩ _ na nn nc rfl rfl rfl rfl rfl rfl HST.out.1.1 HST.out.1.2 HBX.out.2 ?_ AllReadyH.nil
            · clear hHeld
              refine wpAnyH_done (by kernel_rfl) ?_ _
              go_wp2_with fail
              go_roundw
              case rel => exact ⟨i + 1, _, by go_num, by omega, by rw [HPS.out]; exact HST.out.2, HBX.out.2⟩
              case measure => simp [intOf]; omega
    · obtain rfl : m = i := by omega
      go_wp2_with fail
      go_ret2
      refine ⟨_, rfl, ⟨D, rfl, fun hr0 => ?_⟩, HR.out.blo⟩
      subst hr0
      have h1 := HR.out
      have h2 := HBO.out
      rw [HM.out] at h1 h2
      exact ⟨pb, _, _, h1.cur ⟨hn1, hn10⟩ h2 (fun j hj => HW.out wr j HR.out.blo hj)⟩
end Go.Proofs.YtppkgilpmmhpoaaDoor
