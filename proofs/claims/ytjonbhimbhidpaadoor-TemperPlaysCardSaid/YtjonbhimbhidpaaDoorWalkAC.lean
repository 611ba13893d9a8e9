/-
  Walks over chapter 6: the cells to which one comes.
-/
import Derived.Test.YtjonbhimbhidpaaDoorBaseM
import Derived.Test.YtjonbhimbhidpaaDoorPlainG
namespace Go.Proofs.YtjonbhimbhidpaaDoor
open Go.RowKit

/-- what Play returns -/
def PlayR (w : World) (o : Ov) (c : Sp) (js : List Int) (e : Ending) (w' : World) : Prop :=
  Below w.heap.size w w' ∧ if (o.valid && o.ex c) = true then (if 200 < js.length then e = .returned (.tuple #[.slice none 0 0, .int .i64 3]) else if js.all o.jok = true then (if o.KK c = true then ∃ v, e = .returned (.tuple #[v, .int .i64 0]) ∧ OwnS w' w.heap.size 28 v (o.play c js) else e = .returned (.tuple #[.slice none 0 0, .int .i64 5])) else e = .returned (.tuple #[.slice none 0 0, .int .i64 2])) else e = .returned (.tuple #[.slice none 0 0, .int .i64 1])

set_option maxHeartbeats 8000000 in
set_option maxRecDepth 100000 in
theorem play_any (vs vm vj v : Value) (o : Ov) (c : Sp) (js : List Int) (w : World) (ho : IsOv w vs vm vj o) (hn : o.Num) (hj : IsInts w v js) :
    Calls Tryd.prog 39 #[.agg #[vs, vm, vj], spv c, v] w (PlayR w o c js) := by
  obtain ⟨p, x, y⟩ := c
  have HO := hid ho
  obtain ⟨hb2, hz2, k0, k1⟩ := alloc2 w (.cells #[vs, vm, vj] 26) (.cells #[.int .i64 p, .int .i64 x, .int .i64 y] 28)
  obtain ⟨W, hW⟩ : ∃ W, W = ((w.alloc (.cells #[vs, vm, vj] 26)).alloc (.cells #[.int .i64 p, .int .i64 x, .int .i64 y] 28)) := ⟨_, rfl⟩
  rw [← hW] at hb2 hz2 k0 k1
  have cr := hid (at_any _ _ _ o (p, x, y) W (isOv_below HO.out hb2) hn)
  obtain ⟨ja, jc, rfl, hjl, hjc⟩ := hj
  have HB := hid hb2
  have HW := hid hW
  have HJC := hid hjc
  obtain ⟨n, hn0⟩ : ∃ n, n = js.length := ⟨_, rfl⟩
  have HNN := hid hn0
  rw [← hn0] at hjl ⊢
  unfold spv at cr ⊢
  simp only
  clear hn hb2 hz2 k0 k1 hW hjc hn0
  cases hv : (o.valid && o.ex (p, x, y))
  · have cr2 : Hid (Calls Tryd.prog 44 #[.agg #[vs, vm, vj], .agg #[.int .i64 p, .int .i64 x, .int .i64 y]] W (fun e w' => e = .returned (.tuple #[.pointer none, .agg #[.int .i64 0, .int .i64 0, .int .i64 0], .int .i64 1]) ∧ Below W.heap.size W w')) := (cr.out).mono (by
      rintro e w4 ⟨hb4, h4⟩
      rw [hv, if_neg (by decide)] at h4
      exact ⟨h4, hb4⟩)
    have HVN := hid hv
    clear hv cr ho
    go_enter Tryd.func39, Tryd.ntmps39
    go_wp2_with (first | (go_at_call 44; rw [← HW.out]; refine (cr2.out).mono ?_; rintro e w4 ⟨rfl, hb4⟩; have HB4 := hid hb4; clear hb4) | fail)
    go_ret2
    refine ⟨?_, ?_⟩
    · have hb := HB.out.trans (HB4.out.mono HB.out.size)
      exact hb.alloc hb.size _
    · rw [if_neg (by rw [HVN.out]; decide)]; rfl
  · have HOK : Hid o.Ok := by rw [Bool.and_eq_true] at hv; exact ok_of_valid hv.1
    have HEX : Hid (o.ex (p, x, y) = true) := by rw [Bool.and_eq_true] at hv; exact hv.2
    have cr2 : Hid (Calls Tryd.prog 44 #[.agg #[vs, vm, vj], .agg #[.int .i64 p, .int .i64 x, .int .i64 y]] W (fun e w' => ∃ xb, e = .returned (.tuple #[.pointer (some ⟨xb, 0, none⟩), .agg #[.int .i64 p, .int .i64 x, .int .i64 y], .int .i64 0]) ∧ OvAt w' xb vs vm vj o ∧ Below W.heap.size W w')) := (cr.out).mono (by
      rintro e w4 ⟨hb4, h4⟩
      rw [hv, if_pos rfl] at h4
      obtain ⟨xb, h5, h6⟩ := h4
      exact ⟨xb, h5, h6, hb4⟩)
    have HV := hid hv
    clear hv cr
    by_cases h200 : 200 < n
    · have HR : Hid (200 < js.length) := by rw [← HNN.out]; exact h200
      clear ho
      go_enter Tryd.func39, Tryd.ntmps39
      go_wp2_with (first | (go_at_call 44; rw [← HW.out]; refine (cr2.out).mono ?_; rintro e w4 ⟨xb, rfl, hov, hb4⟩; have HB4 := hid hb4; clear hb4 hov) | fail)
      go_ret2
      refine ⟨?_, ?_⟩
      · have hb := HB.out.trans (HB4.out.mono HB.out.size)
        exact hb.alloc hb.size _
      · rw [if_pos HV.out, if_pos HR.out]; rfl
    · have HR : Hid (¬ 200 < js.length) := by rw [← HNN.out]; exact h200
      obtain ⟨_, ⟨a2, c2, rfl, hl2, hcm⟩, ⟨a3, c3, rfl, hl3, hcj⟩⟩ := ho
      obtain ⟨nm, hnm⟩ : ∃ nm, nm = o.moves.length := ⟨_, rfl⟩
      obtain ⟨nj, hnj⟩ : ∃ nj, nj = o.jolts.length := ⟨_, rfl⟩
      rw [← hnm] at hl2
      rw [← hnj] at hl3
      rw [← hnm, ← hnj] at cr2 HW HO ⊢
      have HNJ := hid hnj
      clear hcm hcj hnm hnj
      go_enter Tryd.func39, Tryd.ntmps39
      go_wp2_with (first | (go_at_call 44; rw [← HW.out]; refine (cr2.out).mono ?_; rintro e w4 ⟨xb, rfl, hov, hb4⟩; have HOV := hid hov; have HB4 : Hid (Below w.heap.size w w4) := HB.out.trans (hb4.mono HB.out.size); clear hb4 hov) | fail)
      have HOV5 := hid (ovAt_below HOV.out ((Below.refl _ _).alloc (Nat.le_refl _) (.cells #[.int .i64 p, .int .i64 x, .int .i64 y] 87)))
      have HB5 : Hid (Below w.heap.size w (w4.alloc (.cells #[.int .i64 p, .int .i64 x, .int .i64 y] 87))) := HB4.out.alloc HB4.out.size _
      have z9 := heap_alloc_new w4 (.cells #[.int .i64 p, .int .i64 x, .int .i64 y] 87)
      obtain ⟨w5, hw5⟩ : ∃ w5, w5 = w4.alloc (.cells #[.int .i64 p, .int .i64 x, .int .i64 y] 87) := ⟨_, rfl⟩
      rw [← hw5] at HOV5 HB5 z9 ⊢
      obtain ⟨x9, hx9⟩ : ∃ x9, x9 = w4.heap.size := ⟨_, rfl⟩
      have h9 : w.heap.size ≤ x9 := by rw [hx9]; exact HB4.out.size
      rw [← hx9] at z9 ⊢
      have y2 := HOV5.out.c2
      clear hw5 hx9 HB4 HOV
      go_loopw [12, 35] (fun _ iv wr => ∃ i : Nat, iv = .int .i64 i ∧ i ≤ n ∧ Hid ((js.take i).all o.jok = true) ∧ wr = w5) (fun _ iv _ => n - (intOf iv).toNat)
      case atStart => exact ⟨0, rfl, Nat.zero_le _, by rw [List.take_zero]; rfl, rfl⟩
      case round =>
        obtain ⟨i, rfl, hi, HA, rfl⟩ := hrel
        by_cases hlt : i < n
        · have hlo : i < js.length := by rw [← HNN.out]; exact hlt
          obtain ⟨g, rfl, hcell⟩ := HJC.out i hlo
          have e1 := (HB5.out.cell (p := ⟨g, i, none⟩) (World.block_lt_of_cell? w _ hcell)).trans hcell
          have HNX : Hid (o.jok (js.getD i 0) = true → (js.take (i + 1)).all o.jok = true) := by
            intro h
            rw [List.take_succ_eq_append_getElem hlo, List.all_append, HA.out, List.all_cons, List.all_nil, Bool.and_true, Bool.true_and]
            rw [List.getD_eq_getElem?_getD, List.getElem?_eq_getElem hlo] at h
            exact h
          have HBAD : Hid (o.jok (js.getD i 0) = false → js.all o.jok = false) := by
            intro h
            rw [List.all_eq_false]
            refine ⟨_, List.getElem_mem hlo, ?_⟩
            rw [List.getD_eq_getElem?_getD, List.getElem?_eq_getElem hlo] at h
            intro h2
            have h3 : o.jok js[i] = false := h
            rw [h3] at h2; cases h2
          have HJK : Hid (∀ j : Int, o.jok j = decide (0 ≤ j ∧ j < (nj : Int))) := fun j => by unfold Ov.jok; rw [HNJ.out]
          rw [HJK.out] at HNX HBAD
          generalize js.getD i 0 = j at *
          clear hlo hcell HA
          by_cases hj0 : j < 0
          · have HF : Hid (js.all o.jok = false) := HBAD.out (decide_eq_false (by omega))
            clear HNX HBAD
            go_wp2
            go_ret2
            refine ⟨HB5.out, ?_⟩
            rw [if_pos HV.out, if_neg HR.out, if_neg (by rw [HF.out]; decide)]
            rfl
          · by_cases hj1 : j < (nj : Int)
            · have HAX := hid (HNX.out (decide_eq_true (by omega)))
              clear HNX HBAD
              go_wp2
              go_roundw
              case rel => exact ⟨i + 1, by go_num, by omega, HAX, trivial⟩
              case measure => simp [intOf]; omega
            · have HF : Hid (js.all o.jok = false) := HBAD.out (decide_eq_false (by omega))
              clear HNX HBAD
              go_wp2
              go_ret2
              refine ⟨HB5.out, ?_⟩
              rw [if_pos HV.out, if_neg HR.out, if_neg (by rw [HF.out]; decide)]
              rfl
        · obtain rfl : n = i := by omega
          have HALL : Hid (js.all o.jok = true) := by
            have := HA.out
            rwa [List.take_of_length_le (by rw [HNN.out]; exact Nat.le_refl _)] at this
          clear HA y2
          cases hk : o.KK (p, x, y)
          · have HKK := hid hk
            clear hk
            go_wp2_with (first
              | (go_at_call 45; refine (kernel_kk xb _ _ _ o _ HOV5.out HOK.out).mono ?_; rintro e w6 ⟨m, ml, nl, rfl, hS, hN, hb6⟩; have hz6 := (hb6.block x9 (heap_lt z9)).trans z9; have HOV6 := hid (ovAt_below HOV5.out hb6); have HB6 : Hid (Below w.heap.size w w6) := HB5.out.trans (hb6.mono HB5.out.size); have HS6 := hid hS; have hal := (Below.refl w6.heap.size w6).alloc (Nat.le_refl _) (.cells #[.map (some m)] 90); have hlk := setW_look (setW_below hS hal (setW_lt hS)) (ex_inR HOK.out HEX.out); rw [congrFun (dec_KK o) _, HKK.out] at hlk; unfold spv at hlk; simp only at hlk; obtain ⟨g0, g1, g2⟩ := cells3_of hz6; have hx6 := heap_lt hz6; clear hS hN hb6 hal)
              | fail)
            go_ret2
            refine ⟨?_, ?_⟩
            · exact HB6.out.alloc HB6.out.size _
            · rw [if_pos HV.out, if_neg HR.out, if_pos HALL.out, if_neg (by rw [HKK.out]; decide)]
              rfl
          · have HKK := hid hk
            clear hk
            go_wp2_with (first
              | (go_at_call 45; refine (kernel_kk xb _ _ _ o _ HOV5.out HOK.out).mono ?_; rintro e w6 ⟨m, ml, nl, rfl, hS, hN, hb6⟩; have hz6 := (hb6.block x9 (heap_lt z9)).trans z9; have HOV6 := hid (ovAt_below HOV5.out hb6); have HB6 : Hid (Below w.heap.size w w6) := HB5.out.trans (hb6.mono HB5.out.size); have HS6 := hid hS; have hal := (Below.refl w6.heap.size w6).alloc (Nat.le_refl _) (.cells #[.map (some m)] 90); have hlk := setW_look (setW_below hS hal (setW_lt hS)) (ex_inR HOK.out HEX.out); rw [congrFun (dec_KK o) _, HKK.out] at hlk; unfold spv at hlk; simp only at hlk; obtain ⟨g0, g1, g2⟩ := cells3_of hz6; have hx6 := heap_lt hz6; clear hS hN hb6 hal)
              | fail)
            obtain ⟨bi, hbi⟩ : ∃ bi, bi = w6.heap.size := ⟨_, rfl⟩
            have hal := (Below.refl w6.heap.size w6).alloc (Nat.le_refl _) (.cells #[.map (some m)] 90)
            have HOVb := hid (ovAt_below HOV6.out hal)
            have HBb : Hid (Below w.heap.size w (w6.alloc (.cells #[.map (some m)] 90))) := HB6.out.alloc HB6.out.size _
            have HSb := hid (setW_below HS6.out hal (setW_lt HS6.out))
            have hzb := (hal.block x9 hx6).trans hz6
            have hbb := heap_alloc_new w6 (.cells #[.map (some m)] 90)
            rw [← hbi] at hbb ⊢
            clear hlk g0 g1 g2 hx6 hz6 hal hbi z9 HOV5 HOV6 HB5 HB6 HS6
            generalize w6.alloc (.cells #[.map (some m)] 90) = wq at *
            have KP : Hid (∀ w', wq.grownBy w' (some x9) → OvAt w' xb vs (.slice a2 nm c2) (.slice a3 nj c3) o ∧ SetW w' m (o.cells.filter o.KK) ∧ w'.cell? ⟨bi, 0, none⟩ = some (.map (some m)) ∧ Below w.heap.size w w') := by
              intro w' hg
              have hB : Below w.heap.size w w' := HBb.out.grown hg HBb.out.size (fun k hk => by cases hk; exact h9)
              have n1 : xb ≠ x9 := by
                rintro rfl
                have h1 := HOVb.out.c1
                rw [(cells3_of hzb).2.1] at h1
                cases h1
              have n2 : m ≠ x9 := by
                rintro rfl
                obtain ⟨es, ck, h1⟩ := setW_obj HSb.out
                rw [hzb] at h1
                cases h1
              have n3 : bi ≠ x9 := block_ne hbb hzb (by decide)
              exact ⟨ovAt_far hg HOVb.out n1 (isOv_below HO.out hB), setW_kept HSb.out hg (fun e => n2 (Option.some.inj e)), box1 ((hg.block bi (heap_lt hbb) (fun e => n3 (Option.some.inj e))).trans hbb), hB⟩
            have HZB := hid hzb
            clear hzb hbb
            go_loopw [15, 17, 63] (fun v15 _ iv wr => ∃ (i : Nat) (oa : Option Addr) (om oc : Nat), v15 = .slice oa om oc ∧ iv = .int .i64 i ∧ i ≤ n ∧ wr.heap[x9]? = some (.cells #[.int .i64 (o.walk (p, x, y) js i).1, .int .i64 (o.walk (p, x, y) js i).2.1, .int .i64 (o.walk (p, x, y) js i).2.2] 87) ∧ Hid (OwnS wr wq.heap.size 28 (.slice oa om oc) ((o.play (p, x, y) js).take i)) ∧ Hid (wq.grownBy wr (some x9))) (fun _ _ iv _ => n - (intOf iv).toNat)
            case atStart => exact ⟨0, none, 0, 0, rfl, rfl, Nat.zero_le _, HZB.out, by rw [List.take_zero]; exact ownS_nil _ _ _, ⟨rfl, rfl, rfl, Nat.le_refl _, fun _ _ _ => rfl⟩⟩
            case round =>
              obtain ⟨i, oa, om, oc, rfl, rfl, hi, hz, HOW, HGW⟩ := hrel
              by_cases hlt : i < n
              · have hlo : i < js.length := by rw [← HNN.out]; exact hlt
                obtain ⟨g, rfl, hcell⟩ := HJC.out i hlo
                have hgl : g < w.heap.size := World.block_lt_of_cell? w _ hcell
                have e1 := ((KP.out wr HGW.out).2.2.2.cell (p := ⟨g, i, none⟩) hgl).trans hcell
                have HKI := walk_KK o (p, x, y) js HKK.out HALL.out i (by omega)
                have hjk : o.jok (js.getD i 0) = true := by
                  have h := HALL.out
                  rw [List.all_eq_true] at h
                  refine h _ ?_
                  rw [List.getD_eq_getElem?_getD, List.getElem?_eq_getElem hlo]
                  exact List.getElem_mem hlo
                obtain ⟨mm, nn, hm, hnn, hmv, hje, hst, hkn⟩ := nextK_spec o (o.walk (p, x, y) js i) (js.getD i 0) HKI hjk
                rw [hje] at e1
                have hws := walk_succ o (p, x, y) js i hlo
                rw [hst] at hws
                have htk := (play_take o (p, x, y) js i hlo).symm
                have HLN : Hid (((o.play (p, x, y) js).take i).length < 100000000) := by show _ < _; rw [List.length_take, play_len]; have := HR.out; omega
                have cM := fun (w' : World) (hg : wq.grownBy w' (some x9)) => move_any xb _ _ _ o (o.walk (p, x, y) js i) 59 #[.pointer (some ⟨bi, 0, none⟩)] _ w' (KP.out w' hg).1 HOK.out (KK_ex o _ HKI) (testC59 (KP.out w' hg).2.2.1 (KP.out w' hg).2.1)
                have cS := fun (w' : World) (hg : wq.grownBy w' (some x9)) => step_any xb _ _ _ o (o.walk (p, x, y) js i) mm nn w' (KP.out w' hg).1 HOK.out hm hnn (ex_inR HOK.out (KK_ex o _ HKI))
                rw [dec_KK o, hmv] at cM
                rw [← hws] at cS
                obtain ⟨s, hs⟩ : ∃ s, s = o.walk (p, x, y) js i := ⟨_, rfl⟩
                obtain ⟨t', ht⟩ : ∃ t', t' = o.walk (p, x, y) js (i + 1) := ⟨_, rfl⟩
                rw [← hs] at cM cS hz
                rw [← ht] at cS htk
                have HTK := hid htk
                have HT := hid ht
                have HCM := hid cM
                have HCS := hid cS
                clear hs ht htk hkn hst hws hje hmv hm hnn hcell hgl hlo hjk HKI cM cS
                obtain ⟨sx, sy, sz⟩ := s
                obtain ⟨tx, ty, tz⟩ := t'
                unfold spv at HCM HCS
                simp only at hz HCM HCS
                have HZ := hid hz
                clear hz
                have hmf : ∀ (fn : Fn) (first cap : Array Value) (w : World), (Instr.makeFunc fn first cap).run Tryd.prog w = .ok (.func fn first cap) w := fun _ _ _ _ => rfl
                go_upto_region 19 with fail
                have HGx : wq.grownBy wr.drew (some x9) := grown_below HGW.out ((Below.refl _ _).drew)
                have HOx : wr.drew.ownsRow wq.heap.size 28 3 (.slice oa om oc) _ _ := HOW.out
                have hzx : wr.drew.heap[x9]? = _ := HZ.out
                refine wp_region_held_drew (S := fun w' => Hid (wq.grownBy w' (some x9))) (by kernel_rfl) HGx (fun hHeld => ?_)
                refine take_at (i := 0) 67 (v := .pointer (some ⟨xb, 0, none⟩)) rfl (by kernel_rfl) (by kernel_rfl) (by kernel_rfl) rfl (fun _ _ _ h => h) (by rfl) (fun w hSw => ?_) hHeld ?_
                · (try dsimp only at hSw); go_simp
                simp only [Act.put, List.setIfInBounds_toArray, List.set_cons_zero, List.set_cons_succ]
                refine take_at (i := 2) 69 (v := .pointer (some ⟨xb, 0, none⟩)) rfl (by kernel_rfl) (by kernel_rfl) (by kernel_rfl) rfl (fun _ _ _ h => h) (by rfl) (fun w hSw => ?_) hHeld ?_
                · (try dsimp only at hSw); go_simp
                simp only [Act.put, List.setIfInBounds_toArray, List.set_cons_zero, List.set_cons_succ]
                refine take_at (i := 4) 71 (v := .func (.func 59) #[] #[.pointer (some ⟨bi, 0, none⟩)]) rfl (by kernel_rfl) (by kernel_rfl) (by kernel_rfl) rfl (fun _ _ _ h => h) (by rfl) (fun w hSw => ?_) hHeld ?_
                · (try dsimp only at hSw); go_simp
                simp only [Act.put, List.setIfInBounds_toArray, List.set_cons_zero, List.set_cons_succ]
                refine take_at (i := 6) 73 (v := .int .i64 nn) rfl (by kernel_rfl) (by kernel_rfl) (by kernel_rfl) rfl (fun _ _ _ h => h) (by rfl) (fun w hSw => ?_) hHeld ?_
                · (try dsimp only at hSw); go_simp
                simp only [Act.put, List.setIfInBounds_toArray, List.set_cons_zero, List.set_cons_succ]
                refine wpAnyH_ready (rs := [1, 3]) (by kernel_rfl) (by simp) ?_
                refine node_load87 68 9 x9 _ _ _ rfl rfl rfl rfl rfl hzx HGx ?_ ?_
                · simp only [Act.put, List.setIfInBounds_toArray, List.set_cons_zero, List.set_cons_succ]
                  refine wpAnyH_ready (rs := [3]) (by kernel_rfl) (by simp) ?_
                  refine node_load87 70 9 x9 _ _ _ rfl rfl rfl rfl rfl hzx HGx ?_ AllReadyH.nil
                  · simp only [Act.put, List.setIfInBounds_toArray, List.set_cons_zero, List.set_cons_succ]
                    refine wpAnyH_ready (rs := [5]) (by kernel_rfl) (by simp) ?_
                    refine node_call46 72 69 70 71 _ _ _ rfl rfl rfl rfl rfl rfl rfl ((HCM.out _ HGx).mono ?_) AllReadyH.nil
                    · rintro e w7 ⟨rfl, hb7⟩
                      have hzx := (hb7.block x9 (heap_lt hzx)).trans hzx
                      have HOx := row_below HOx hb7
                      have HGx := grown_below HGx (hb7.mono HGx.size)
                      refine ⟨_, rfl, HGx, ?_⟩
                      clear hb7
                      simp only [Act.put, List.setIfInBounds_toArray, List.set_cons_zero, List.set_cons_succ]
                      refine wpAnyH_ready (rs := [7]) (by kernel_rfl) (by simp) ?_
                      refine node_call58 74 67 68 72 73 _ _ _ _ rfl rfl rfl rfl rfl rfl rfl rfl ((HCS.out _ HGx).mono ?_) AllReadyH.nil
                      · rintro e w7 ⟨rfl, hb7⟩
                        have hzx := (hb7.block x9 (heap_lt hzx)).trans hzx
                        have HOx := row_below HOx hb7
                        have HGx := grown_below HGx (hb7.mono HGx.size)
                        refine ⟨_, rfl, HGx, ?_⟩
                        clear hb7
                        simp only [Act.put, List.setIfInBounds_toArray, List.set_cons_zero, List.set_cons_succ]
                        refine wpAnyH_ready (rs := [8]) (by kernel_rfl) (by simp) ?_
                        refine node_store87 9 74 x9 _ _ _ tx ty tz rfl rfl rfl rfl rfl rfl hzx (grown_store3 HGx _ _ _) ?_ AllReadyH.nil
                        have HGy : Hid (wq.grownBy (((w7.setCell ⟨x9, 0, none⟩ (.int .i64 tx)).setCell ⟨x9, 1, none⟩ (.int .i64 ty)).setCell ⟨x9, 2, none⟩ (.int .i64 tz)) (some x9)) := grown_store3 HGx _ _ _
                        have hzy := store3 (x := .int .i64 tx) (y := .int .i64 ty) (z := .int .i64 tz) hzx
                        have HOy := hid (row_other HOx (grown_store3 (⟨rfl, rfl, rfl, Nat.le_refl _, fun _ _ _ => rfl⟩) (.int .i64 tx) (.int .i64 ty) (.int .i64 tz)) (fun k hk => by cases hk; exact ⟨_, hzx⟩) (by decide))
                        obtain ⟨w8, hw8⟩ : ∃ w8, w8 = ((w7.setCell ⟨x9, 0, none⟩ (.int .i64 tx)).setCell ⟨x9, 1, none⟩ (.int .i64 ty)).setCell ⟨x9, 2, none⟩ (.int .i64 tz) := ⟨_, rfl⟩
                        rw [← hw8] at HGy hzy HOy ⊢
                        refine wpAnyH_done (by kernel_rfl) ?_ _
                        obtain ⟨g0, g1, g2⟩ := cells3_of hzy
                        have hl8 := heap_lt hzy
                        have HZY := hid hzy
                        have hz8 : wq.heap.size ≤ w8.heap.size := HGy.out.size
                        clear hw8 hzy hzx HGx HOx
                        go_wp2_with (first | (at_builtin; refine wpl_app_cell (tx, ty, tz) _ _ (.slice oa om oc) wq.heap.size ((o.play (p, x, y) js).take i) (by rfl) (by rfl) (by rfl) (by rfl) HOy.out HLN.out hz8 ?_; intro v' w9 ho9 hb9; rw [HTK.out] at ho9; obtain ⟨sa, sn, sc, rfl⟩ := ownS_slice' ho9; have HO9 := hid ho9; have HG9 := hid (grown_below HGy.out hb9); have hz9 := (hb9.block x9 (heap_lt HZB.out)).trans HZY.out; clear ho9 hb9) | fail)
                        go_roundw
                        case rel => exact ⟨i + 1, _, _, _, rfl, by go_num, by omega, by rw [← HT.out]; exact hz9, HO9, HG9⟩
                        case measure => simp [intOf]; omega
                refine node_load87 70 9 x9 _ _ _ rfl rfl rfl rfl rfl hzx HGx ?_ AllReadyH.nil
                · simp only [Act.put, List.setIfInBounds_toArray, List.set_cons_zero, List.set_cons_succ]
                  refine wpAnyH_ready (rs := [1, 5]) (by kernel_rfl) (by simp) ?_
                  refine node_load87 68 9 x9 _ _ _ rfl rfl rfl rfl rfl hzx HGx ?_ ?_
                  · simp only [Act.put, List.setIfInBounds_toArray, List.set_cons_zero, List.set_cons_succ]
                    refine wpAnyH_ready (rs := [5]) (by kernel_rfl) (by simp) ?_
                    refine node_call46 72 69 70 71 _ _ _ rfl rfl rfl rfl rfl rfl rfl ((HCM.out _ HGx).mono ?_) AllReadyH.nil
                    · rintro e w7 ⟨rfl, hb7⟩
                      have hzx := (hb7.block x9 (heap_lt hzx)).trans hzx
                      have HOx := row_below HOx hb7
                      have HGx := grown_below HGx (hb7.mono HGx.size)
                      refine ⟨_, rfl, HGx, ?_⟩
                      clear hb7
                      simp only [Act.put, List.setIfInBounds_toArray, List.set_cons_zero, List.set_cons_succ]
                      refine wpAnyH_ready (rs := [7]) (by kernel_rfl) (by simp) ?_
                      refine node_call58 74 67 68 72 73 _ _ _ _ rfl rfl rfl rfl rfl rfl rfl rfl ((HCS.out _ HGx).mono ?_) AllReadyH.nil
                      · rintro e w7 ⟨rfl, hb7⟩
                        have hzx := (hb7.block x9 (heap_lt hzx)).trans hzx
                        have HOx := row_below HOx hb7
                        have HGx := grown_below HGx (hb7.mono HGx.size)
                        refine ⟨_, rfl, HGx, ?_⟩
                        clear hb7
                        simp only [Act.put, List.setIfInBounds_toArray, List.set_cons_zero, List.set_cons_succ]
                        refine wpAnyH_ready (rs := [8]) (by kernel_rfl) (by simp) ?_
                        refine node_store87 9 74 x9 _ _ _ tx ty tz rfl rfl rfl rfl rfl rfl hzx (grown_store3 HGx _ _ _) ?_ AllReadyH.nil
                        have HGy : Hid (wq.grownBy (((w7.setCell ⟨x9, 0, none⟩ (.int .i64 tx)).setCell ⟨x9, 1, none⟩ (.int .i64 ty)).setCell ⟨x9, 2, none⟩ (.int .i64 tz)) (some x9)) := grown_store3 HGx _ _ _
                        have hzy := store3 (x := .int .i64 tx) (y := .int .i64 ty) (z := .int .i64 tz) hzx
                        have HOy := hid (row_other HOx (grown_store3 (⟨rfl, rfl, rfl, Nat.le_refl _, fun _ _ _ => rfl⟩) (.int .i64 tx) (.int .i64 ty) (.int .i64 tz)) (fun k hk => by cases hk; exact ⟨_, hzx⟩) (by decide))
                        obtain ⟨w8, hw8⟩ : ∃ w8, w8 = ((w7.setCell ⟨x9, 0, none⟩ (.int .i64 tx)).setCell ⟨x9, 1, none⟩ (.int .i64 ty)).setCell ⟨x9, 2, none⟩ (.int .i64 tz) := ⟨_, rfl⟩
                        rw [← hw8] at HGy hzy HOy ⊢
                        refine wpAnyH_done (by kernel_rfl) ?_ _
                        obtain ⟨g0, g1, g2⟩ := cells3_of hzy
                        have hl8 := heap_lt hzy
                        have HZY := hid hzy
                        have hz8 : wq.heap.size ≤ w8.heap.size := HGy.out.size
                        clear hw8 hzy hzx HGx HOx
                        go_wp2_with (first | (at_builtin; refine wpl_app_cell (tx, ty, tz) _ _ (.slice oa om oc) wq.heap.size ((o.play (p, x, y) js).take i) (by rfl) (by rfl) (by rfl) (by rfl) HOy.out HLN.out hz8 ?_; intro v' w9 ho9 hb9; rw [HTK.out] at ho9; obtain ⟨sa, sn, sc, rfl⟩ := ownS_slice' ho9; have HO9 := hid ho9; have HG9 := hid (grown_below HGy.out hb9); have hz9 := (hb9.block x9 (heap_lt HZB.out)).trans HZY.out; clear ho9 hb9) | fail)
                        go_roundw
                        case rel => exact ⟨i + 1, _, _, _, rfl, by go_num, by omega, by rw [← HT.out]; exact hz9, HO9, HG9⟩
                        case measure => simp [intOf]; omega
                  refine node_call46 72 69 70 71 _ _ _ rfl rfl rfl rfl rfl rfl rfl ((HCM.out _ HGx).mono ?_) AllReadyH.nil
                  · rintro e w7 ⟨rfl, hb7⟩
                    have hzx := (hb7.block x9 (heap_lt hzx)).trans hzx
                    have HOx := row_below HOx hb7
                    have HGx := grown_below HGx (hb7.mono HGx.size)
                    refine ⟨_, rfl, HGx, ?_⟩
                    clear hb7
                    simp only [Act.put, List.setIfInBounds_toArray, List.set_cons_zero, List.set_cons_succ]
                    refine wpAnyH_ready (rs := [1]) (by kernel_rfl) (by simp) ?_
                    refine node_load87 68 9 x9 _ _ _ rfl rfl rfl rfl rfl hzx HGx ?_ AllReadyH.nil
                    · simp only [Act.put, List.setIfInBounds_toArray, List.set_cons_zero, List.set_cons_succ]
                      refine wpAnyH_ready (rs := [7]) (by kernel_rfl) (by simp) ?_
                      refine node_call58 74 67 68 72 73 _ _ _ _ rfl rfl rfl rfl rfl rfl rfl rfl ((HCS.out _ HGx).mono ?_) AllReadyH.nil
                      · rintro e w7 ⟨rfl, hb7⟩
                        have hzx := (hb7.block x9 (heap_lt hzx)).trans hzx
                        have HOx := row_below HOx hb7
                        have HGx := grown_below HGx (hb7.mono HGx.size)
                        refine ⟨_, rfl, HGx, ?_⟩
                        clear hb7
                        simp only [Act.put, List.setIfInBounds_toArray, List.set_cons_zero, List.set_cons_succ]
                        refine wpAnyH_ready (rs := [8]) (by kernel_rfl) (by simp) ?_
                        refine node_store87 9 74 x9 _ _ _ tx ty tz rfl rfl rfl rfl rfl rfl hzx (grown_store3 HGx _ _ _) ?_ AllReadyH.nil
                        have HGy : Hid (wq.grownBy (((w7.setCell ⟨x9, 0, none⟩ (.int .i64 tx)).setCell ⟨x9, 1, none⟩ (.int .i64 ty)).setCell ⟨x9, 2, none⟩ (.int .i64 tz)) (some x9)) := grown_store3 HGx _ _ _
                        have hzy := store3 (x := .int .i64 tx) (y := .int .i64 ty) (z := .int .i64 tz) hzx
                        have HOy := hid (row_other HOx (grown_store3 (⟨rfl, rfl, rfl, Nat.le_refl _, fun _ _ _ => rfl⟩) (.int .i64 tx) (.int .i64 ty) (.int .i64 tz)) (fun k hk => by cases hk; exact ⟨_, hzx⟩) (by decide))
                        obtain ⟨w8, hw8⟩ : ∃ w8, w8 = ((w7.setCell ⟨x9, 0, none⟩ (.int .i64 tx)).setCell ⟨x9, 1, none⟩ (.int .i64 ty)).setCell ⟨x9, 2, none⟩ (.int .i64 tz) := ⟨_, rfl⟩
                        rw [← hw8] at HGy hzy HOy ⊢
                        refine wpAnyH_done (by kernel_rfl) ?_ _
                        obtain ⟨g0, g1, g2⟩ := cells3_of hzy
                        have hl8 := heap_lt hzy
                        have HZY := hid hzy
                        have hz8 : wq.heap.size ≤ w8.heap.size := HGy.out.size
                        clear hw8 hzy hzx HGx HOx
                        go_wp2_with (first | (at_builtin; refine wpl_app_cell (tx, ty, tz) _ _ (.slice oa om oc) wq.heap.size ((o.play (p, x, y) js).take i) (by rfl) (by rfl) (by rfl) (by rfl) HOy.out HLN.out hz8 ?_; intro v' w9 ho9 hb9; rw [HTK.out] at ho9; obtain ⟨sa, sn, sc, rfl⟩ := ownS_slice' ho9; have HO9 := hid ho9; have HG9 := hid (grown_below HGy.out hb9); have hz9 := (hb9.block x9 (heap_lt HZB.out)).trans HZY.out; clear ho9 hb9) | fail)
                        go_roundw
                        case rel => exact ⟨i + 1, _, _, _, rfl, by go_num, by omega, by rw [← HT.out]; exact hz9, HO9, HG9⟩
                        case measure => simp [intOf]; omega
              · obtain rfl : n = i := by omega
                have hO := HOW.out
                rw [List.take_of_length_le (by rw [play_len, HNN.out]; exact Nat.le_refl _)] at hO
                have HOF := hid (row_mono hO HBb.out.size)
                clear hz hO
                go_wp2
                go_ret2
                refine ⟨(KP.out _ HGW.out).2.2.2, ?_⟩
                rw [if_pos HV.out, if_neg HR.out, if_pos HALL.out, if_pos HKK.out]
                exact ⟨_, rfl, HOF.out⟩
end Go.Proofs.YtjonbhimbhidpaaDoor
