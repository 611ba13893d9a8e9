/-
  Walks over chapter 6: the reference's Losses and Kernel.
-/
import Derived.Test.YtjonbhimbhidpaaDoorZ8
namespace Go.Proofs.YtjonbhimbhidpaaDoor
open Go.RowKit

theorem N_pos {o : Ov} (h : o.Ok) : 1 ≤ o.N := by
  unfold Ov.N
  exact Nat.mul_pos h.p.1 (Nat.mul_pos h.r.1 h.c.1)
theorem sAt_cells (o : Ov) (i : Nat) (h : i < o.N) : sAt o.cells i = o.cellAt i := by
  unfold sAt
  rw [List.getD_eq_getElem?_getD, List.getElem?_eq_getElem (by rw [cells_len]; exact h), cells_at o i h]
  rfl
theorem ownS_read {w : World} {B g n c : Nat} {e : TypeId} {xs : List Sp} (h : OwnS w B e (.slice (some ⟨g, 0, none⟩) n c) xs) (i : Nat) (hi : i < xs.length) :
    w.cell? ⟨g, i * 3, none⟩ = some (.int .i64 (sAt xs i).1) ∧ w.cell? ⟨g, i * 3 + 1, none⟩ = some (.int .i64 (sAt xs i).2.1) ∧ w.cell? ⟨g, i * 3 + 2, none⟩ = some (.int .i64 (sAt xs i).2.2) ∧ g < w.heap.size := by
  obtain ⟨a, c', hv, _, hc⟩ := ownS_isSp h
  obtain ⟨g', hg, c0, c1, c2⟩ := hc i hi
  simp only [Value.slice.injEq] at hv
  rw [← hv.1] at hg
  simp only [Option.some.injEq, Addr.mk.injEq] at hg
  rw [← hg.1] at c0 c1 c2
  exact ⟨c0, c1, c2, World.block_lt_of_cell? w _ c0⟩
theorem ownI_read {w : World} {B g n c : Nat} {xs : List Int} (h : OwnI w B (.slice (some ⟨g, 0, none⟩) n c) xs) (hl : xs.length ≤ 1000000) (i : Nat) (hi : i < xs.length) : w.cell? ⟨g, i, none⟩ = some (.int .i64 (xs.getD i 0)) ∧ g < w.heap.size := by
  obtain ⟨a, c', hv, _, hc⟩ := ownI_ints h hl
  obtain ⟨g', hg, c0⟩ := hc i hi
  simp only [Value.slice.injEq] at hv
  rw [← hv.1] at hg
  simp only [Option.some.injEq, Addr.mk.injEq] at hg
  rw [← hg.1] at c0
  exact ⟨c0, World.block_lt_of_cell? w _ c0⟩
theorem listOf_getD (o : Ov) (f : Sp → Int) (i : Nat) (h : i < o.N) : (o.listOf f).getD i 0 = f (o.cellAt i) := by
  rw [List.getD_eq_getElem?_getD, List.getElem?_eq_getElem (by rw [listOf_len]; exact h), listOf_at o f i h]
  rfl
theorem loss0 (o : Ov) (c : Sp) (h : o.ex c = true) : o.lossF 0 c = if inG o.safe c = true then 1000000 else 0 := by
  unfold Ov.lossF Ov.lost
  simp only [Ov.K, h, Bool.true_and]
  split <;> rfl
theorem grid_loss (o : Ov) (k : Nat) (hk : k < 1000000) : o.gridOf (o.whereS (o.listOf (o.lossF k)) 1000000) = o.gridOf (o.K k) := gridOf_ext o _ _ fun c hc => loss_where o k hk c hc
theorem gridOf_isGrid {o : Ov} (hok : o.Ok) {w : World} {B : Nat} {v : Value} {S : Sp → Bool} (h : OwnG w B v (o.gridOf S)) : IsGrid w v (o.gridOf S) := by
  refine ownG_isGrid h (by have := hok.p; simp [Ov.gridOf]; omega) fun q hq => ?_
  unfold Ov.gridOf at hq
  rw [List.mem_map] at hq
  obtain ⟨p, _, rfl⟩ := hq
  have := hok.r
  simp [Ov.phG]; omega
theorem still_succ (o : Ov) (k : Nat) (h : o.still k) : o.still (k + 1) := by
  intro c
  rw [still_up o h (k + 1) (by omega), still_up o h (k + 1 + 1) (by omega)]

set_option maxHeartbeats 8000000 in
set_option maxRecDepth 100000 in
theorem rLosses_any (vs vm vj : Value) (o : Ov) (w : World) (ho : IsOv w vs vm vj o) (hok : o.Ok) :
    Calls Tryd.prog 20 #[.agg #[vs, vm, vj]] w fun e w' => ∃ v, e = .returned v ∧ OwnI w' w.heap.size v (o.listOf fun c => lossN (o.LL c)) ∧ Below w.heap.size w w' := by
  have HO := hid ho
  have HOK := hid hok
  obtain ⟨N, hN⟩ : ∃ N, N = o.N := ⟨_, rfl⟩
  have hN1 := N_pos hok
  have hN2 := N_small hok
  rw [← hN] at hN1 hN2
  have HN := hid hN
  have hbx := heap_alloc_new w (.cells #[vs, vm, vj] 26)
  have hbW : Below w.heap.size w (w.alloc (.cells #[vs, vm, vj] 26)) := (Below.refl _ _).alloc (Nat.le_refl _) _
  have hszW : (w.alloc (.cells #[vs, vm, vj] 26)).heap.size = w.heap.size + 1 := by simp
  obtain ⟨W, hW⟩ : ∃ W, W = (w.alloc (.cells #[vs, vm, vj] 26)) := ⟨_, rfl⟩
  have HW := hid hW
  rw [← hW] at hbW hbx hszW
  have HBW := hid hbW
  have HBX := hid hbx
  have HSZ := hid hszW
  have HRD : Hid (∀ X, Below W.heap.size W X → X.cell? ⟨w.heap.size, 0, none⟩ = some vs ∧ X.cell? ⟨w.heap.size, 1, none⟩ = some vm ∧ X.cell? ⟨w.heap.size, 2, none⟩ = some vj ∧ w.heap.size < X.heap.size) := by
    intro X hX
    have hsz := hX.size
    rw [HSZ.out] at hsz
    obtain ⟨c0, c1, c2⟩ := cells3_of ((hX.block w.heap.size (by rw [HSZ.out]; omega)).trans HBX.out)
    exact ⟨c0, c1, c2, by omega⟩
  have HMADE : Hid (OwnI ((w.alloc (.cells #[vs, vm, vj] 26)).alloc (.cells #[] 3)) W.heap.size (.slice (some ⟨w.heap.size + 1, 0, none⟩) 0 0) []) := by
    have := ownI_made W W.heap.size (Nat.le_refl _)
    rw [← HW.out]
    rwa [HSZ.out] at this ⊢
  have HB1 : Hid (Below W.heap.size W ((w.alloc (.cells #[vs, vm, vj] 26)).alloc (.cells #[] 3))) := by rw [← HW.out]; exact (Below.refl _ _).alloc (Nat.le_refl _) _
  clear hN hbW hW hbx hszW ho hok
  go_enter Tryd.func20, Tryd.ntmps20
  go_wp2_with (first | (go_at_call 28; refine (rCells_any vs vm vj o _ (isOv_below HO.out (HBW.out.trans (HB1.out.mono HBW.out.size))) HOK.out).mono ?_; rintro e w5 ⟨v5, rfl, hcs, hb5⟩; have HB5 := hid (HB1.out.trans (hb5.mono HB1.out.size)); have HI5 := hid (ownI_below HMADE.out hb5); have HS5 : Hid (OwnS w5 W.heap.size 28 v5 o.cells) := row_mono hcs HB1.out.size; obtain ⟨gc, cc, rfl, _⟩ := ownS_some hcs (by intro h; have := cells_len o; rw [h] at this; have h2 := HN.out; simp at this; omega); clear hcs hb5) | fail)
  rw [cells_len, ← HN.out] at HS5 ⊢
  go_loopw [4, 6] (fun v iv wr => ∃ (i : Nat) (a : Option Addr) (n c : Nat), iv = .int .i64 i ∧ v = .slice a n c ∧ i ≤ N ∧ Hid (OwnI wr W.heap.size (.slice a n c) ((o.listOf (o.lossF 0)).take i)) ∧ Hid (OwnS wr W.heap.size 28 (.slice (some ⟨gc, 0, none⟩) N cc) o.cells) ∧ Hid (Below W.heap.size W wr)) (fun _ iv _ => N - (intOf iv).toNat)
  case atStart => exact ⟨0, _, 0, 0, rfl, rfl, Nat.zero_le _, by rw [List.take_zero]; exact HI5, HS5, HB5⟩
  case round =>
    clear HI5 HS5 HB5
    obtain ⟨i, a, n, c, rfl, rfl, hi, HI, HS, HB⟩ := hrel
    obtain ⟨x0, x1, x2, x3⟩ := HRD.out _ HB.out
    by_cases hlt : i < N
    · have hlo : i < o.N := by rw [← HN.out]; exact hlt
      obtain ⟨q0, q1, q2, q3⟩ := ownS_read HS.out i (by rw [cells_len]; exact hlo)
      rw [sAt_cells o i hlo] at q0 q1 q2
      have hex := cellAt_ex o i hlo
      have HTK := hid (listOf_take o (o.lossF 0) i hlo)
      have HL0 := hid (loss0 o (o.cellAt i) hex)
      have hci := fun w' (hw : Below w.heap.size w w') => hid (rIn_any vs o.safe o (o.cellAt i) w' (isGrid_below HO.out.safe hw) HOK.out HOK.out.form hex)
      rw [HL0.out] at HTK
      generalize o.cellAt i = d at *
      obtain ⟨p, x, y⟩ := d
      simp only at q0 q1 q2
      unfold spv at hci
      simp only at hci
      generalize inG o.safe (p, x, y) = b at *
      have HUP := hid (HBW.out.trans (HB.out.mono HBW.out.size))
      have hln : ((o.listOf (o.lossF 0)).take i).length < 100000000 := by rw [List.length_take, listOf_len]; have := HN.out; omega
      have HLN := hid hln
      clear hlo hex HL0 hln
      go_wp2
      go_region_with (first | (go_at_call 29; refine ((hci _ (by repeat (first | exact HUP.out | refine Below.drew ?_ | refine below_drewN_r ?_ _))).out).mono ?_; rintro e w6 ⟨rfl, hb6⟩; have HB6 : Hid (Below wr.heap.size wr w6) := (Below.trans (b := _) (by repeat (first | exact Below.refl _ _ | refine Below.drew ?_ | refine below_drewN_r ?_ _)) hb6); clear hb6) | fail)
      all_goals
        have HI6 := hid (ownI_below HI.out HB6.out)
        have HS6 : Hid (OwnS w6 W.heap.size 28 (.slice (some ⟨gc, 0, none⟩) N cc) o.cells) := row_below HS.out HB6.out
        have HBZ := hid (HB.out.trans (HB6.out.mono HB.out.size))
        clear q0 q1 q2 q3 x0 x1 x2 x3
        cases b
        · go_wp2_with (first | (at_builtin; refine wpl_app_int 0 _ _ (.slice a n c) W.heap.size _ (by rfl) (by rfl) (by rfl) (by rfl) HI6.out HLN.out HBZ.out.size ?_; intro v' w7 ho7 hb7 hs7; have HT2 := HTK.out; simp at HT2; rw [← HT2] at ho7; obtain ⟨sa, sn, sc, rfl⟩ := ownI_slice ho7; have HO7 := hid ho7; have HB7 := hid hb7; have HS7 : Hid (OwnS w7 W.heap.size 28 (.slice (some ⟨gc, 0, none⟩) N cc) o.cells) := hs7 _ _ _ HS6.out; clear ho7 hb7 hs7) | fail)
          go_roundw
          case rel => exact ⟨i + 1, _, _, _, by go_num, rfl, by omega, HO7, HS7, HBZ.out.trans HB7.out⟩
          case measure => simp [intOf]; omega
        · go_wp2_with (first | (at_builtin; refine wpl_app_int 1000000 _ _ (.slice a n c) W.heap.size _ (by rfl) (by rfl) (by rfl) (by rfl) HI6.out HLN.out HBZ.out.size ?_; intro v' w7 ho7 hb7 hs7; have HT2 := HTK.out; simp at HT2; rw [← HT2] at ho7; obtain ⟨sa, sn, sc, rfl⟩ := ownI_slice ho7; have HO7 := hid ho7; have HB7 := hid hb7; have HS7 : Hid (OwnS w7 W.heap.size 28 (.slice (some ⟨gc, 0, none⟩) N cc) o.cells) := hs7 _ _ _ HS6.out; clear ho7 hb7 hs7) | fail)
          go_roundw
          case rel => exact ⟨i + 1, _, _, _, by go_num, rfl, by omega, HO7, HS7, HBZ.out.trans HB7.out⟩
          case measure => simp [intOf]; omega
    · obtain rfl : i = N := by omega
      have hI : OwnI wr W.heap.size (.slice a n c) (o.listOf (o.lossF 0)) := by
        have := HI.out
        rwa [List.take_of_length_le (by rw [listOf_len, HN.out]; exact Nat.le_refl _)] at this
      obtain ⟨gl, cl, hv, hBl, hgl⟩ := ownI_some hI (by rw [listOf_len, ← HN.out]; exact hN1)
      rw [listOf_len, ← HN.out] at hv
      rw [hv] at hI ⊢
      have HI0 := hid hI
      clear hv
      clear HI hI
      go_wp2
      clear x0 x1 x2 x3
      go_loopw [7] (fun kv wr => ∃ k : Nat, kv = .int .i64 k ∧ k + (o.ker k).length ≤ i ∧ Hid (OwnI wr W.heap.size (.slice (some ⟨gl, 0, none⟩) i cl) (o.listOf (o.lossF k))) ∧ Hid (OwnS wr W.heap.size 28 (.slice (some ⟨gc, 0, none⟩) i cc) o.cells) ∧ Hid (Below W.heap.size W wr)) (fun kv _ => (o.ker (intOf kv).toNat).length)
      case atStart => exact ⟨0, rfl, by have := ker_le o 0; have := HN.out; omega, HI0, HS, HB⟩
      case round =>
        clear HI0 HS HB hgl
        obtain ⟨k, rfl, hk, HI, HS, HB⟩ := hrel
        obtain ⟨x0, x1, x2, x3⟩ := HRD.out _ HB.out
        have HUP := hid (HBW.out.trans (HB.out.mono HBW.out.size))
        have cw := hid (rWhere_any vs vm vj (.slice (some ⟨gl, 0, none⟩) i cl) o (o.listOf (o.lossF k)) 1000000 wr (isOv_below HO.out HUP.out) HOK.out (ownI_ints HI.out (by rw [listOf_len, ← HN.out]; omega)) (listOf_len o _))
        rw [grid_loss o k (by omega)] at cw
        go_wp2_with (first | (go_at_call 50; refine (cw.out).mono ?_; rintro e w6 ⟨v8, rfl, hg6, hb6⟩; have HI6 := hid (ownI_below HI.out hb6); have HS6 : Hid (OwnS w6 W.heap.size 28 (.slice (some ⟨gc, 0, none⟩) i cc) o.cells) := row_below HS.out hb6; have HBZ := hid (HB.out.trans (hb6.mono HB.out.size)); have HG6 : Hid (OwnG w6 W.heap.size v8 (o.gridOf (o.K k))) := ownG_mono hg6 HB.out.size; obtain ⟨ag, cg, rfl⟩ := ownG_slice hg6; clear hb6 hg6) | fail)
        clear x0 x1 x2 x3
        obtain ⟨PG, hPG⟩ : ∃ PG, PG = (o.gridOf (o.K k)).length := ⟨_, rfl⟩
        rw [← hPG] at HG6 ⊢
        clear hPG
        go_loopw [9, 10] (fun mv iv wx => ∃ (b : Bool) (j : Nat), mv = .bool b ∧ iv = .int .i64 j ∧ j ≤ i ∧ Hid (b = (o.cells.take j).any (o.outF k)) ∧ Hid (OwnI wx W.heap.size (.slice (some ⟨gl, 0, none⟩) i cl) (o.listOf (o.lossI k j))) ∧ Hid (OwnS wx W.heap.size 28 (.slice (some ⟨gc, 0, none⟩) i cc) o.cells) ∧ Hid (OwnG wx W.heap.size (.slice ag PG cg) (o.gridOf (o.K k))) ∧ Hid (Below W.heap.size W wx)) (fun _ iv _ => i - (intOf iv).toNat)
        case atStart => exact ⟨false, 0, rfl, rfl, Nat.zero_le _, by rw [List.take_zero]; exact rfl, by rw [lossI_zero]; exact HI6, HS6, HG6, HBZ⟩
        case round =>
          clear HI HS HB HI6 HS6 HG6 HBZ HUP cw
          obtain ⟨b, j, rfl, rfl, hj, HBB, HI, HS, HG, HB⟩ := hrel
          obtain ⟨x0, x1, x2, x3⟩ := HRD.out _ HB.out
          by_cases hlt : j < i
          · have hlo : j < o.N := by rw [← HN.out]; exact hlt
            obtain ⟨q0, q1, q2, q3⟩ := ownS_read HS.out j (by rw [cells_len]; exact hlo)
            rw [sAt_cells o j hlo] at q0 q1 q2
            obtain ⟨r0, r1⟩ := ownI_read HI.out (by rw [listOf_len, ← HN.out]; omega) j (by rw [listOf_len]; exact hlo)
            rw [listOf_getD o _ j hlo, lossI_at o k j hlo] at r0
            have hex := cellAt_ex o j hlo
            have hnv := lossF_never o k (by omega) (o.cellAt j)
            have HANY : Hid (∀ b', o.outF k (o.cellAt j) = b' → (b || b') = (o.cells.take (j + 1)).any (o.outF k)) := by
              intro b' hb'
              rw [take_cells o j hlo, List.any_append, ← HBB.out]
              simp [hb']
            have HLin := hid (lossI_in o k j hlo)
            have HLout : Hid (o.outF k (o.cellAt j) = true → (o.listOf (o.lossI k j)).set j ((k : Int) + 1) = o.listOf (o.lossI k (j + 1))) := fun h => by rw [listOf_set o _ j hlo, lossI_out o k j hlo h]
            have HOF : Hid (o.outF k (o.cellAt j) = (o.K k (o.cellAt j) && !o.canM (o.K k) (o.cellAt j))) := rfl
            have hcm := fun w' (hw : Below w.heap.size w w') (hG : OwnG w' W.heap.size (.slice ag PG cg) (o.gridOf (o.K k))) => rMove_any vs vm vj (.slice ag PG cg) o (o.gridOf (o.K k)) (o.cellAt j) w' (isOv_below HO.out hw) HOK.out (gridOf_isGrid HOK.out hG) (form_gridOf o _) hex
            rw [exIn_gridOf o (o.K k) (K_ex o k)] at hcm
            have hmn := move_neg o (o.K k) (o.cellAt j)
            generalize o.cellAt j = d at *
            generalize o.lossF k d = q at *
            generalize o.K k d = kv at *
            generalize o.canM (o.K k) d = cmv at *
            generalize o.outF k d = ov at *
            generalize o.move (o.K k) d = mv at *
            obtain ⟨p, x, y⟩ := d
            simp only at q0 q1 q2
            unfold spv at hcm
            simp only at hcm
            have HCM := hid hcm
            have HUP := hid (HBW.out.trans (HB.out.mono HBW.out.size))
            clear hlo hex hcm
            cases kv
            · have hov : ov = false := by have := HOF.out; simpa using this
              have HL2 := hid (HLin.out hov)
              have HA2 := hid (HANY.out false hov)
              clear HLout HLin HANY HOF hmn
              go_wp2
              go_quiet (fail)
              go_wp2
              go_roundw
              case rel => exact ⟨b, j + 1, rfl, by go_num, by omega, by rw [← HA2.out, Bool.or_false]; exact rfl, by rw [← HL2.out]; exact row_below HI.out (below_drewN' _ _ _), row_below HS.out (below_drewN' _ _ _), ownG_below HG.out (below_drewN' _ _ _), below_drewN_r HB.out nq⟩
              case measure => simp [intOf]; omega
            · obtain rfl : q = 1000000 := by simpa using hnv
              clear hnv
              cases cmv
              · have hov : ov = true := by have := HOF.out; simpa using this
                have HL2 := hid (HLout.out hov)
                have HA2 := hid (HANY.out true hov)
                have hm : mv < 0 := hmn.2 rfl
                clear HLout HLin HANY HOF hmn
                go_wp2
                go_region_with (first | (go_at_call 22; refine Calls.mono (HCM.out _ (by repeat (first | exact HUP.out | refine Below.drew ?_ | refine below_drewN_r ?_ _)) (ownG_below HG.out (by repeat (first | exact Below.refl _ _ | refine Below.drew ?_ | refine below_drewN_r ?_ _)))) ?_; rintro e w6 ⟨rfl, hb6⟩; have hb7 : Below wr.heap.size wr w6 := (Below.trans (b := _) (by repeat (first | exact Below.refl _ _ | refine Below.drew ?_ | refine below_drewN_r ?_ _)) hb6); have HI6 := hid (ownI_below HI.out hb7); have HS6 : Hid (OwnS w6 W.heap.size 28 (.slice (some ⟨gc, 0, none⟩) i cc) o.cells) := row_below HS.out hb7; have HG6 := hid (ownG_below HG.out hb7); have HBZ := hid (HB.out.trans (hb7.mono HB.out.size)); have r6 := (hb7.cell (p := ⟨gl, j, none⟩) r1).trans r0; have f6 := ownI_frozen HI6.out j; clear hb6 hb7) | fail)
                all_goals
                  go_wp2
                  go_roundw
                  case rel =>
                    obtain ⟨s1, s2, s3, s4⟩ := ownI_set HI6.out j ((k : Int) + 1)
                    rw [HL2.out] at s1
                    exact ⟨true, j + 1, rfl, by go_num, by omega, by rw [← HA2.out, Bool.or_true]; exact rfl, s1, row_other HS6.out s2 (fun k hk => by injection hk with hk; subst hk; exact s3) (by decide), ownG_other HG6.out s2 (fun k hk => by injection hk with hk; subst hk; exact s3), HBZ.out.grown s2 HBZ.out.size (fun k hk => by injection hk with hk; subst hk; exact s4)⟩
                  case measure => simp [intOf]; omega
              · have hov : ov = false := by have := HOF.out; simpa using this
                have HL2 := hid (HLin.out hov)
                have HA2 := hid (HANY.out false hov)
                have hm : ¬ mv < 0 := fun h => by have := hmn.1 h; cases this
                clear HLout HLin HANY HOF hmn
                go_wp2
                go_region_with (first | (go_at_call 22; refine Calls.mono (HCM.out _ (by repeat (first | exact HUP.out | refine Below.drew ?_ | refine below_drewN_r ?_ _)) (ownG_below HG.out (by repeat (first | exact Below.refl _ _ | refine Below.drew ?_ | refine below_drewN_r ?_ _)))) ?_; rintro e w6 ⟨rfl, hb6⟩; have hb7 : Below wr.heap.size wr w6 := (Below.trans (b := _) (by repeat (first | exact Below.refl _ _ | refine Below.drew ?_ | refine below_drewN_r ?_ _)) hb6); have HI6 := hid (ownI_below HI.out hb7); have HS6 : Hid (OwnS w6 W.heap.size 28 (.slice (some ⟨gc, 0, none⟩) i cc) o.cells) := row_below HS.out hb7; have HG6 := hid (ownG_below HG.out hb7); have HBZ := hid (HB.out.trans (hb7.mono HB.out.size)); have r6 := (hb7.cell (p := ⟨gl, j, none⟩) r1).trans r0; have f6 := ownI_frozen HI6.out j; clear hb6 hb7) | fail)
                all_goals
                  go_wp2
                  go_roundw
                  case rel => exact ⟨b, j + 1, rfl, by go_num, by omega, by rw [← HA2.out, Bool.or_false]; exact rfl, by rw [← HL2.out]; exact HI6, HS6, HG6, HBZ⟩
                  case measure => simp [intOf]; omega
          · obtain rfl : j = i := by omega
            have HIE : Hid (OwnI wr W.heap.size (.slice (some ⟨gl, 0, none⟩) j cl) (o.listOf (o.lossF (k + 1)))) := by
              have := HI.out
              rwa [HN.out, lossI_end, ← HN.out] at this
            have HBE : Hid (b = o.cells.any (o.outF k)) := by
              have := HBB.out
              rwa [HN.out, List.take_of_length_le (by rw [cells_len]; exact Nat.le_refl _)] at this
            have hcnt := count_out o k
            cases b
            · have hst := still_of_out o k (outL_nil_of o k HBE.out.symm)
              have HLL : Hid (o.listOf (o.lossF (k + 1)) = o.listOf (fun c => lossN (o.LL c))) := by
                show _ = _
                unfold Ov.lossF
                rw [LL_of o (still_succ o k hst)]
              have HBf := hid (HBW.out.trans (HB.out.mono HBW.out.size))
              clear hst hcnt
              go_wp2
              go_ret
              refine ⟨_, rfl, ?_, HBf.out⟩
              have := HIE.out
              rw [HLL.out] at this
              exact row_mono this HBW.out.size
            · have hne : (o.outL k).length ≠ 0 := by
                intro h
                have h2 := List.length_eq_zero_iff.1 h
                have h3 := HBE.out.symm
                rw [List.any_eq_true] at h3
                obtain ⟨d, hd1, hd2⟩ := h3
                have := (mem_outL o k d).2 hd2
                rw [h2] at this; simp at this
              have HX : Hid (k + 1 + (o.ker (k + 1)).length ≤ j ∧ (o.ker (k + 1)).length < (o.ker k).length) := by show _ ∧ _; omega
              clear hcnt hne
              go_wp2
              go_roundw
              case rel => exact ⟨k + 1, by go_num, HX.out.1, HIE, HS, HB⟩
              case measure =>
                have := HX.out.2
                simp only [intOf]
                rw [show ((k : Int) + 1).toNat = k + 1 by omega, show (k : Int).toNat = k by omega]
                exact this
end Go.Proofs.YtjonbhimbhidpaaDoor
