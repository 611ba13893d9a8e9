/-
  Walks over chapter 12: Odd.
-/
import Derived.Test.YtaedbkdimpdngaaWalkL
namespace Go.Proofs.Ytaedbkdimpdngaa
open Go.RowKit
theorem three_made (w : World) (a b c : Obj) : (((w.alloc a).alloc b).alloc c).heap[w.heap.size]? = some a ∧ (((w.alloc a).alloc b).alloc c).heap[w.heap.size + 1]? = some b ∧ (((w.alloc a).alloc b).alloc c).heap[w.heap.size + 1 + 1]? = some c ∧ Below w.heap.size w (((w.alloc a).alloc b).alloc c) := by
  have e1 : (w.alloc a).heap.size = w.heap.size + 1 := by simp
  have e2 : ((w.alloc a).alloc b).heap.size = w.heap.size + 1 + 1 := by simp
  refine ⟨?_, ?_, ?_, (((Below.refl _ _).alloc (Nat.le_refl _) _).alloc (by omega) _).alloc (by omega) _⟩
  · rw [Below.heap_alloc _ _ _ (by omega), Below.heap_alloc _ _ _ (by omega)]; exact heap_alloc_new _ _
  · rw [Below.heap_alloc _ _ _ (by omega), ← e1]; exact heap_alloc_new _ _
  · rw [← e2]; exact heap_alloc_new _ _
theorem ownV_blk {u : World} {BX : Nat} {x : Value} {e : TypeId} (h : u.heap[BX]? = some (.cells #[x] e)) : OwnV u 0 e (.slice (some ⟨BX, 0, none⟩) 1 1) [x] :=
  ⟨rfl, .inr ⟨BX, 1, #[x], rfl, Nat.zero_le _, h, Nat.le_refl _, by decide, rfl, rfl⟩⟩
def oddV (r : Option (List Nat)) (u : Value) (w' : World) : Prop := match r with
  | some x => ∃ o, u = .tuple #[o, .int .i64 0] ∧ IsV w' o (x.map iv)
  | none => u = .tuple #[.slice none 0 0, .int .i64 5]
set_option maxRecDepth 100000 in
set_option maxHeartbeats 4000000 in
theorem pOdd_any (n : Int) (v : Value) (l : List Pr) (w : World) (hv : IsPr w v l) : Calls Try.prog 25 #[.int .i64 n, v] w (Ret w n l (.tuple #[.slice none 0 0, .int .i64 1]) (oddV (dsp n.toNat l).odd)) := by
  have hb0 : Below w.heap.size w (w.alloc (.cells #[.int .i64 n] 3)) := (Below.refl _ _).alloc (Nat.le_refl _) _
  have HB0 := hid hb0
  have hv0 := isPr_below hv hb0
  have hz := heap_alloc_new w (.cells #[.int .i64 n] 3)
  obtain ⟨w0, hw0⟩ : ∃ w0, w0 = w.alloc (.cells #[.int .i64 n] 3) := ⟨_, rfl⟩
  rw [← hw0] at hv0 hz HB0
  have HZ := hid hz
  have HW0 := hid hw0
  obtain ⟨NB, hNB⟩ : ∃ NB, NB = w.heap.size := ⟨_, rfl⟩
  rw [← hNB] at HZ
  have HNB := hid hNB
  have x0 := box1 HZ.out
  clear hb0 hz hv hw0 hNB
  cases hva : validP n l with
  | false =>
    have HR := hid (read_no hv0 hva)
    have HVA := hid hva
    clear hv0 hva
    go_enter Try.func25, Try.ntmps25
    go_upto_region 1 with fail
    rw [← HNB.out, ← HW0.out]
    go_wp2_with (first | (go_at_call 47; refine (HR.out).mono ?_; rintro e w6 ⟨rfl, hb6⟩; have HB6 := hid hb6; clear hb6) | fail)
    go_ret2
    exact ⟨HB0.out.trans (Below.alloc (HB6.out.mono HB0.out.size) (Nat.le_trans HB0.out.size HB6.out.size) _), .inl ⟨by first | trivial | exact HVA.out, rfl⟩⟩
  | true =>
    have HR := hid (read_ok hv0 hva)
    have hn := valid_n12 hva
    have hnn := valid_n hva
    have HVA := hid hva
    clear hv0 hva
    generalize hd : dsp n.toNat l = d at *
    have hdn : n = (d.n : Int) := by rw [← hd]; show n = ((n.toNat : Nat) : Int); omega
    clear hd
    subst hdn
    go_enter Try.func25, Try.ntmps25
    go_upto_region 1 with fail
    rw [← HNB.out, ← HW0.out]
    go_upto_region 8 with (first | (go_at_call 47; refine (HR.out).mono ?_; rintro e w6 ⟨D, rfl, hd6, hb6⟩; have HD6 := hid hd6; have HB6 := hid hb6; have HZ6 := hid ((hb6.block _ (heap_lt HZ.out)).trans HZ.out); clear hd6 hb6) | fail)
    clear x0
    obtain ⟨hm1, hm2, hm3, hm4⟩ := three_made w6 (.cells #[.pointer (some ⟨D, 0, none⟩)] 70) (.cells #[.slice none 0 0] 24) (.cells #[.func (.func 54) #[] #[.pointer (some ⟨w6.heap.size + 1, 0, none⟩), .pointer (some ⟨w6.heap.size, 0, none⟩), .pointer (some ⟨NB, 0, none⟩), .pointer (some ⟨w6.heap.size + 1 + 1, 0, none⟩)]] 80)
    obtain ⟨W, hW⟩ : ∃ W, W = (((w6.alloc (.cells #[.pointer (some ⟨D, 0, none⟩)] 70)).alloc (.cells #[.slice none 0 0] 24)).alloc (.cells #[.func (.func 54) #[] #[.pointer (some ⟨w6.heap.size + 1, 0, none⟩), .pointer (some ⟨w6.heap.size, 0, none⟩), .pointer (some ⟨NB, 0, none⟩), .pointer (some ⟨w6.heap.size + 1 + 1, 0, none⟩)]] 80)) := ⟨_, rfl⟩
    rw [← hW] at hm1 hm2 hm3 hm4 ⊢
    have hm4' := hm4
    obtain ⟨WK, hWK⟩ : ∃ x, x = w6.heap.size + 1 + 1 := ⟨_, rfl⟩
    rw [← hWK] at hm3 ⊢
    obtain ⟨OUT, hOUT⟩ : ∃ x, x = w6.heap.size + 1 := ⟨_, rfl⟩
    rw [← hOUT] at hm2 hm3 ⊢
    obtain ⟨DB, hDB⟩ : ∃ x, x = w6.heap.size := ⟨_, rfl⟩
    rw [← hDB] at hm1 hm3 ⊢
    have HE0 : Hid (OddEnv W OUT DB NB WK D d) := ⟨⟨_, _, _, hm2⟩, hm1, (hm4'.block _ (heap_lt HZ6.out)).trans HZ6.out, hm3, dAt_below HD6.out hm4'⟩
    have HOU : Hid (w.heap.size ≤ OUT) := by show _ ≤ _; rw [hOUT]; exact Nat.le_trans (Nat.le_trans HB0.out.size HB6.out.size) (Nat.le_succ _)
    have HBW : Hid (Below w.heap.size w W) := HB0.out.trans ((below_step HB6.out hm4').mono HB0.out.size)
    clear hm1 hm2 hm3 hm4 hm4' hWK hOUT hDB hW
    have FIN : Hid (∀ w', W.grownBy w' (some OUT) → Below w.heap.size w w') := fun w' hg => HBW.out.grown hg HBW.out.size (fun k hk => by injection hk with hk; rw [← hk]; exact HOU.out)
    have HOD := hid (show d.odd = firstS (fun j => d.oddOf (2 * j + 1)) ((d.n + 1) / 2) from rfl)
    obtain ⟨ODD, hODD⟩ : ∃ o, o = d.odd := ⟨_, rfl⟩
    rw [← hODD] at HOD
    have HOE := hid hODD
    clear hODD
    go_wp2_with fail
    go_loopw [10] (fun zv wr => ∃ j : Nat, zv = .int .i64 (2 * (j : Int) + 1) ∧ 2 * j ≤ d.n + 1 ∧ Hid (OddEnv wr OUT DB NB WK D d) ∧ Hid (W.grownBy wr (some OUT)) ∧ Hid (∀ i, i < j → d.oddOf (2 * i + 1) = none)) (fun zv _ => d.n + 3 - (intOf zv).toNat)
    case atStart => exact ⟨0, rfl, by omega, HE0, grown_refl _ _, fun i hi => absurd hi (Nat.not_lt_zero _)⟩
    case round =>
      obtain ⟨j, rfl, hj, HEo, HGo, HNo⟩ := hrel
      rename World => wo
      have x0 := box1 HEo.out.nb
      by_cases hlt : 2 * j + 1 ≤ d.n
      · have hd1 : decide (2 * (j : Int) + 1 ≤ (d.n : Int)) = true := decide_eq_true (by omega)
        have HOF := hid (show d.oddOf (2 * j + 1) = firstS (fun h => d.walk h (2 * j) []) d.n from rfl)
        go_wp2_with fail
        clear x0
        go_loopw [27] (fun zv wr => ∃ h : Nat, zv = .int .i64 h ∧ h ≤ d.n ∧ Hid (OddEnv wr OUT DB NB WK D d) ∧ Hid (W.grownBy wr (some OUT)) ∧ Hid (∀ i, i < h → d.walk i (2 * j) [] = none)) (fun zv _ => d.n - (intOf zv).toNat)
        case atStart => exact ⟨0, rfl, Nat.zero_le _, HEo, HGo, fun i hi => absurd hi (Nat.not_lt_zero _)⟩
        case round =>
          obtain ⟨h, rfl, hh, HEr, HGr, HNr⟩ := hrel
          by_cases hlt2 : h < d.n
          · have ONI : Hid (∀ w', Calls Try.prog 52 #[.int .i64 (h : Int)] w' fun e w'' => e = .returned (.int .u16 ((2 ^ h : Nat) : Int)) ∧ Below w'.heap.size w' w'') := fun w' => one_any h w' (by omega)
            have REC : Hid (∀ u nv, Below wr.heap.size wr u → OwnV u 0 3 nv [.int .i64 (h : Int)] → Calls Try.prog 54 #[nv, .int .u16 ((2 ^ h : Nat) : Int), .int .i64 (2 * (j : Int)), .pointer (some ⟨OUT, 0, none⟩), .pointer (some ⟨DB, 0, none⟩), .pointer (some ⟨NB, 0, none⟩), .pointer (some ⟨WK, 0, none⟩)] u (OddPost u OUT DB NB WK D d (d.walk h (2 * j) []))) := fun u nv hb ho => by
              have := oddw_any OUT DB NB WK D d hn (2 * j) h [] nv (2 ^ h) u (HEr.out.below hb) ho (part_nil d hlt2) (by omega) (Nat.lt_of_lt_of_le (Nat.pow_lt_pow_right (by decide) (show h < 12 by omega)) (Nat.le_refl _)) (fun i hi hi2 => by rw [Nat.testBit_two_pow_of_ne (by omega)]; rfl)
              rw [show (((2 * j : Nat) : Int)) = 2 * (j : Int) by push_cast; rfl] at this
              exact this
            have KEEP : Hid (∀ w', wr.grownBy w' (some OUT) → w'.cell? ⟨WK, 0, none⟩ = some (.func (.func 54) #[] #[.pointer (some ⟨OUT, 0, none⟩), .pointer (some ⟨DB, 0, none⟩), .pointer (some ⟨NB, 0, none⟩), .pointer (some ⟨WK, 0, none⟩)])) := fun w' hg => by
              obtain ⟨b1, b2, c1, c2, hf⟩ := HEr.out.facts
              exact (hf w' hg).2.2.1
            have HSTEP : Hid (d.walk h (2 * j) [] = none → ∀ i, i < h + 1 → d.walk i (2 * j) [] = none) := fun h0 i hi => by
              by_cases e : i = h
              · rw [e]; exact h0
              · exact HNr.out i (by omega)
            have HFND : Hid (∀ x, d.walk h (2 * j) [] = some x → ODD = some x) := fun x hx => by
              rw [HOD.out]
              exact firstS_at (f := fun j => d.oddOf (2 * j + 1)) (by omega : j < (d.n + 1) / 2) (by rw [HOF.out]; exact firstS_at (f := fun h => d.walk h (2 * j) []) hlt2 hx HNr.out) HNo.out
            generalize 2 ^ h = p at *
            generalize d.walk h (2 * j) [] = res at *
            obtain ⟨ok, hokr⟩ : ∃ ok, ok = res.isSome := ⟨_, rfl⟩
            have HRES : Hid (res.isSome = ok) := hokr.symm
            have NXT : Hid (res.isSome = false → ∀ i, i < h + 1 → d.walk i (2 * j) [] = none) := fun e => HSTEP.out (by cases res with | none => rfl | some x => cases e)
            have HSM : Hid (res.isSome = true → ∃ x, res = some x) := fun e => by cases res with | none => cases e | some x => exact ⟨x, rfl⟩
            have REC2 : Hid (∀ u nv, Below wr.heap.size wr u → OwnV u 0 3 nv [.int .i64 (h : Int)] → Calls Try.prog 54 #[nv, .int .u16 (p : Int), .int .i64 (2 * (j : Int)), .pointer (some ⟨OUT, 0, none⟩), .pointer (some ⟨DB, 0, none⟩), .pointer (some ⟨NB, 0, none⟩), .pointer (some ⟨WK, 0, none⟩)] u fun e w' => OddEnv w' OUT DB NB WK D d ∧ u.grownBy w' (some OUT) ∧ e = .returned (.bool ok) ∧ ∀ x, res = some x → ∃ o, w'.heap[OUT]? = some (.cells #[o] 24) ∧ IsV w' o (x.map iv)) := fun u nv hb ho => by rw [hokr]; exact REC.out u nv hb ho
            clear hokr REC HSTEP HNr
            go_upto_region 13 with fail
            refine wp_region_held_drew (S := fun w' => w'.cell? ⟨WK, 0, none⟩ = some (.func (.func 54) #[] #[.pointer (some ⟨OUT, 0, none⟩), .pointer (some ⟨DB, 0, none⟩), .pointer (some ⟨NB, 0, none⟩), .pointer (some ⟨WK, 0, none⟩)])) (by kernel_rfl) (KEEP.out _ (grown_of ((Below.refl _ _).drew))) (fun hHeld => ?_)
            have HU0 : Hid (Below wr.heap.size wr wr.drew) := (Below.refl _ _).drew
            generalize wr.drew = u0 at *
            refine take_at (i := 0) 30 (v := .func (.func 54) #[] #[.pointer (some ⟨OUT, 0, none⟩), .pointer (some ⟨DB, 0, none⟩), .pointer (some ⟨NB, 0, none⟩), .pointer (some ⟨WK, 0, none⟩)]) rfl (by kernel_rfl) (by kernel_rfl) (by kernel_rfl) rfl (fun _ _ _ h => h) (by rfl) (fun w hSw => ?_) hHeld ?_
            · (try dsimp only at hSw); go_simp
            simp only [Act.put, List.setIfInBounds_toArray, List.set_cons_zero, List.set_cons_succ]
            refine take_at (i := 1) 31 (v := .int .i64 h) rfl (by kernel_rfl) (by kernel_rfl) (by kernel_rfl) rfl (fun _ _ _ h => h) (by rfl) (fun w hSw => ?_) hHeld ?_
            · (try dsimp only at hSw); go_simp
            simp only [Act.put, List.setIfInBounds_toArray, List.set_cons_zero, List.set_cons_succ]
            refine take_at (i := 3) 33 (v := .int .i64 h) rfl (by kernel_rfl) (by kernel_rfl) (by kernel_rfl) rfl (fun _ _ _ h => h) (by rfl) (fun w hSw => ?_) hHeld ?_
            · (try dsimp only at hSw); go_simp
            simp only [Act.put, List.setIfInBounds_toArray, List.set_cons_zero, List.set_cons_succ]
            refine take_at (i := 5) 35 (v := .int .i64 (2 * (j : Int) + 1)) rfl (by kernel_rfl) (by kernel_rfl) (by kernel_rfl) rfl (fun _ _ _ h => h) (by rfl) (fun w hSw => ?_) hHeld ?_
            · (try dsimp only at hSw); go_simp
            simp only [Act.put, List.setIfInBounds_toArray, List.set_cons_zero, List.set_cons_succ]
            refine take_at (i := 6) 36 (v := .int .i64 (2 * (j : Int))) rfl (by kernel_rfl) (by kernel_rfl) (by kernel_rfl) rfl (fun _ _ _ h => h) (by rfl) (fun w hSw => ?_) hHeld ?_
            · (try dsimp only at hSw); go_simp; first | done | (rw [IntKind.wrap_i64]; omega)
            simp only [Act.put, List.setIfInBounds_toArray, List.set_cons_zero, List.set_cons_succ]
            refine wpAnyH_ready (rs := [2, 4]) (by kernel_rfl) (by simp) ?_
            refine node_build24 32 31 _ rfl (by rfl) rfl rfl rfl (KEEP.out _ (grown_of (Below.alloc HU0.out (Below.size HU0.out) _))) (fun hHeld => ?_) ?_
            · have HU1 := hid (Below.alloc HU0.out (Below.size HU0.out) (.cells #[.int .i64 (h : Int)] 3))
              have HG1 := hid (heap_alloc_new u0 (.cells #[.int .i64 (h : Int)] 3))
              obtain ⟨BX, hBX⟩ : ∃ BX, BX = u0.heap.size := ⟨_, rfl⟩
              rw [← hBX] at HG1 ⊢
              obtain ⟨u1, hu1⟩ : ∃ v, v = u0.alloc (.cells #[.int .i64 (h : Int)] 3) := ⟨_, rfl⟩
              rw [← hu1] at HU1 HG1 ⊢
              replace hHeld := KEEP.out _ (grown_of HU1.out)
              clear hBX hu1
              simp only [Act.put, List.setIfInBounds_toArray, List.set_cons_zero, List.set_cons_succ]
              refine wpAnyH_ready (rs := [4]) (by kernel_rfl) (by simp) ?_
              refine node_f52 34 33 _ rfl (by rfl) rfl rfl rfl ((ONI.out u1).mono ?_) AllReadyH.nil
              · rintro e u2 ⟨rfl, hb2⟩
                have HU2 := hid (below_step HU1.out hb2)
                have hHeld := KEEP.out _ (grown_of HU2.out)
                refine ⟨_, rfl, hHeld, ?_⟩
                have HG2 := hid ((hb2.block _ (heap_lt HG1.out)).trans HG1.out)
                clear hb2
                simp only [Act.put, List.setIfInBounds_toArray, List.set_cons_zero, List.set_cons_succ]
                refine wpAnyH_ready (rs := [7]) (by kernel_rfl) (by simp) ?_
                refine node_dyn3 37 30 32 34 36 54 _ _ _ _ eg54 rfl (by rfl) rfl rfl rfl rfl rfl rfl ((REC2.out u2 _ HU2.out (ownV_blk HG2.out)).mono ?_) AllReadyH.nil
                · rintro e u3 ⟨he3, hg3, rfl, hx3⟩
                  have HE3 := hid he3
                  have HGR := hid (grown_trans (grown_of HU2.out) hg3)
                  have HXX := hid hx3
                  have hHeld := KEEP.out _ HGR.out
                  refine ⟨_, rfl, hHeld, ?_⟩
                  clear he3 hg3 hx3
                  simp only [Act.put, List.setIfInBounds_toArray, List.set_cons_zero, List.set_cons_succ]
                  refine wpAnyH_done (by kernel_rfl) ?_ _
                  clear hHeld
                  cases ok
                  · have NX := hid (NXT.out HRES.out)
                    go_wp2_with fail
                    go_roundw
                    case rel => exact ⟨h + 1, by go_num, by omega, HE3.out, grown_trans HGr.out HGR.out, NX.out⟩
                    case measure => simp [intOf]; omega
                  · obtain ⟨x, hx⟩ := HSM.out HRES.out
                    have HFI := hid (HFND.out x hx)
                    obtain ⟨o, ho1, ho2⟩ := HXX.out x hx
                    have HO2 := hid ho2
                    have y0 := box1 ho1
                    clear hx ho1 ho2
                    go_wp2_with fail
                    go_ret2
                    exact ⟨FIN.out _ (grown_trans HGr.out HGR.out), .inr ⟨by first | trivial | exact HVA.out, _, rfl, by rw [← HOE.out, HFI.out]; exact (show oddV (some x) _ _ from ⟨o, rfl, HO2.out⟩)⟩⟩
            refine node_f52 34 33 _ rfl (by rfl) rfl rfl rfl ((ONI.out u0).mono ?_) AllReadyH.nil
            · rintro e u1 ⟨rfl, hb1⟩
              have HU1 := hid (below_step HU0.out hb1)
              have hHeld := KEEP.out _ (grown_of HU1.out)
              refine ⟨_, rfl, hHeld, ?_⟩
              clear hb1
              simp only [Act.put, List.setIfInBounds_toArray, List.set_cons_zero, List.set_cons_succ]
              refine wpAnyH_ready (rs := [2]) (by kernel_rfl) (by simp) ?_
              refine node_build24 32 31 _ rfl (by rfl) rfl rfl rfl (KEEP.out _ (grown_of (Below.alloc HU1.out (Below.size HU1.out) _))) (fun hHeld => ?_) AllReadyH.nil
              · have HU2 := hid (Below.alloc HU1.out (Below.size HU1.out) (.cells #[.int .i64 (h : Int)] 3))
                have HG2 := hid (heap_alloc_new u1 (.cells #[.int .i64 (h : Int)] 3))
                obtain ⟨BX, hBX⟩ : ∃ BX, BX = u1.heap.size := ⟨_, rfl⟩
                rw [← hBX] at HG2 ⊢
                obtain ⟨u2, hu2⟩ : ∃ v, v = u1.alloc (.cells #[.int .i64 (h : Int)] 3) := ⟨_, rfl⟩
                rw [← hu2] at HU2 HG2 ⊢
                replace hHeld := KEEP.out _ (grown_of HU2.out)
                clear hBX hu2
                simp only [Act.put, List.setIfInBounds_toArray, List.set_cons_zero, List.set_cons_succ]
                refine wpAnyH_ready (rs := [7]) (by kernel_rfl) (by simp) ?_
                refine node_dyn3 37 30 32 34 36 54 _ _ _ _ eg54 rfl (by rfl) rfl rfl rfl rfl rfl rfl ((REC2.out u2 _ HU2.out (ownV_blk HG2.out)).mono ?_) AllReadyH.nil
                · rintro e u3 ⟨he3, hg3, rfl, hx3⟩
                  have HE3 := hid he3
                  have HGR := hid (grown_trans (grown_of HU2.out) hg3)
                  have HXX := hid hx3
                  have hHeld := KEEP.out _ HGR.out
                  refine ⟨_, rfl, hHeld, ?_⟩
                  clear he3 hg3 hx3
                  simp only [Act.put, List.setIfInBounds_toArray, List.set_cons_zero, List.set_cons_succ]
                  refine wpAnyH_done (by kernel_rfl) ?_ _
                  clear hHeld
                  cases ok
                  · have NX := hid (NXT.out HRES.out)
                    go_wp2_with fail
                    go_roundw
                    case rel => exact ⟨h + 1, by go_num, by omega, HE3.out, grown_trans HGr.out HGR.out, NX.out⟩
                    case measure => simp [intOf]; omega
                  · obtain ⟨x, hx⟩ := HSM.out HRES.out
                    have HFI := hid (HFND.out x hx)
                    obtain ⟨o, ho1, ho2⟩ := HXX.out x hx
                    have HO2 := hid ho2
                    have y0 := box1 ho1
                    clear hx ho1 ho2
                    go_wp2_with fail
                    go_ret2
                    exact ⟨FIN.out _ (grown_trans HGr.out HGR.out), .inr ⟨by first | trivial | exact HVA.out, _, rfl, by rw [← HOE.out, HFI.out]; exact (show oddV (some x) _ _ from ⟨o, rfl, HO2.out⟩)⟩⟩
          · obtain rfl : h = d.n := by omega
            have HON : Hid (d.oddOf (2 * j + 1) = none) := by show _ = _; rw [HOF.out]; exact firstS_none.2 HNr.out
            go_wp2_with fail
            go_roundw
            case rel => exact ⟨j + 1, by go_num, by omega, HEr, HGr, fun i hi => by
              by_cases e : i = j
              · rw [e]; exact HON.out
              · exact HNo.out i (by omega)⟩
            case measure => simp [intOf]; omega
      · have hd1 : decide (2 * (j : Int) + 1 ≤ (d.n : Int)) = false := decide_eq_false (by omega)
        have HON : Hid (ODD = none) := by show _ = _; rw [HOD.out]; exact firstS_none.2 fun i hi => HNo.out i (by omega)
        go_wp2_with fail
        go_ret2
        exact ⟨FIN.out _ HGo.out, .inr ⟨by first | trivial | exact HVA.out, _, rfl, by rw [← HOE.out, HON.out]; rfl⟩⟩
end Go.Proofs.Ytaedbkdimpdngaa
