/-
  Walks over chapter 6: the reference's Move.
  Walks over chapter 6: the reference's At, Cells and Where.
  Own slices of numbers; what a store into them, or an append to them, leaves of other slices.
-/
import Derived.Test.YtjonbhimbhidpaaDoorZ7
import Derived.Laws.OwnMore
namespace Go.Proofs.YtjonbhimbhidpaaDoor
open Go.RowKit

set_option maxHeartbeats 8000000 in
set_option maxRecDepth 100000 in
theorem rMove_any (vs vm vj v : Value) (o : Ov) (g : Grid) (c : Sp) (w : World) (ho : IsOv w vs vm vj o) (hok : o.Ok) (hg : IsGrid w v g) (hf : formB o.P o.R o.C g = true) (hc : o.ex c = true) :
    Calls Tryd.prog 22 #[.agg #[vs, vm, vj], v, spv c] w fun e w' => e = .returned (.int .i64 (o.move (fun d => o.ex d && inG g d) c)) ∧ Below w.heap.size w w' := by
  have HO := hid ho
  have HG := hid hg
  have HF := hid hf
  have HOK := hid hok
  have HCX := hid hc
  obtain ⟨⟨a1, c1, rfl, _, _⟩, ⟨a2, c2, rfl, hl2, hc2⟩, ⟨a3, c3, rfl, hl3, hc3⟩⟩ := ho
  have HC2 := hid hc2
  have HC3 := hid hc3
  clear hc2 hc3 hg hf
  obtain ⟨p, x, y⟩ := c
  obtain ⟨hbW, hzW, k0, k1⟩ := alloc2 w (.cells #[.slice a1 o.safe.length c1, .slice a2 o.moves.length c2, .slice a3 o.jolts.length c3] 26) (.cells #[.int .i64 p, .int .i64 x, .int .i64 y] 28)
  obtain ⟨W, hW⟩ : ∃ W, W = ((w.alloc (.cells #[.slice a1 o.safe.length c1, .slice a2 o.moves.length c2, .slice a3 o.jolts.length c3] 26)).alloc (.cells #[.int .i64 p, .int .i64 x, .int .i64 y] 28)) := ⟨_, rfl⟩
  rw [← hW] at hbW hzW k0 k1
  have HW := hid hW
  obtain ⟨M, hM⟩ : ∃ M, M = o.moves.length := ⟨_, rfl⟩
  obtain ⟨J, hJ⟩ : ∃ J, J = o.jolts.length := ⟨_, rfl⟩
  obtain ⟨P, hP⟩ : ∃ P, P = o.safe.length := ⟨_, rfl⟩
  have hM16 := hok.nm
  have hJ4 := hok.nj
  rw [← hM] at hM16 hl2 k0
  rw [← hJ] at hJ4 hl3 k0
  rw [← hP] at k0
  rw [← hP, ← hM, ← hJ]
  have HM := hid hM
  have HJ := hid hJ
  have HP := hid hP
  have HBW := hid hbW
  have HZW := hid hzW
  have K0 := hid k0
  have K1 := hid k1
  obtain ⟨S, hS⟩ : ∃ S, S = (fun d => o.ex d && inG g d) := ⟨_, rfl⟩
  rw [← hS]
  have HS := hid hS
  obtain ⟨Z, hZ⟩ : ∃ Z, Z = o.move S (p, x, y) := ⟨_, rfl⟩
  rw [← hZ]
  have HZ := hid hZ
  rw [← hP, ← hM, ← hJ] at hW
  have HW := hid hW
  have HIN := hid (ex_inR hok hc)
  have HCS := hid (fun (m : Mv) (j : Int × Int) (hm : (-5 ≤ m.2.2.1 ∧ m.2.2.1 ≤ 5) ∧ (-5 ≤ m.2.2.2 ∧ m.2.2.2 ≤ 5)) (hj : (-5 ≤ j.1 ∧ j.1 ≤ 5) ∧ (-5 ≤ j.2 ∧ j.2 ≤ 5)) (w' : World) (hw : Below w.heap.size w w') => rStep_any (.slice a1 o.safe.length c1) (.slice a2 o.moves.length c2) (.slice a3 o.jolts.length c3) o (p, x, y) m j w' (isOv_below HO.out hw) (dim_of_ok hok) HIN.out hm hj)
  rw [← hP, ← hM, ← hJ] at HCS
  unfold spv
  simp only
  clear hM hJ hP hbW hzW k0 k1 hS hZ hW hok hc
  go_enter Tryd.func22, Tryd.ntmps22
  go_wp2
  go_loopw [7] (fun v wr => ∃ i : Nat, v = .int .i64 i ∧ i ≤ M ∧ Hid ((o.moves.take i).any (o.leads S (p, x, y)) = false) ∧ Hid (Below W.heap.size W wr)) (fun v _ => M - (intOf v).toNat)
  case atStart => exact ⟨0, rfl, Nat.zero_le _, by rw [List.take_zero]; rfl, by rw [HW.out]; exact Below.refl _ _⟩
  case round =>
    obtain ⟨i, rfl, hi, HA, HB⟩ := hrel
    obtain ⟨x0, x1, x2⟩ := cells3_of ((HB.out.block w.heap.size (by rw [HZW.out]; omega)).trans K0.out)
    obtain ⟨y0, y1, y2⟩ := cells3_of ((HB.out.block (w.heap.size + 1) (by rw [HZW.out]; omega)).trans K1.out)
    have hzr : w.heap.size + 2 ≤ wr.heap.size := by have := HB.out.size; rw [HZW.out] at this; exact this
    by_cases hlt : i < M
    · have hlt' : i < o.moves.length := by rw [← HM.out]; exact hlt
      obtain ⟨gm, rfl, n0, n1, n2, n3⟩ := HC2.out i hlt'
      have em : mvAt o.moves i = o.moves[i] := by simp [mvAt, hlt']
      have lt3 := World.block_lt_of_cell? w _ n0
      have HUP := hid (HBW.out.trans (HB.out.mono HBW.out.size))
      have hmb := (mv_ok HOK.out i hlt').2.2
      have HLD : Hid (∀ b, o.leads S (p, x, y) o.moves[i] = b → ((b = true → Z = i) ∧ (b = false → (o.moves.take (i + 1)).any (o.leads S (p, x, y)) = false))) := by
        intro b hb
        refine ⟨fun h => ?_, fun h => ?_⟩
        · rw [HZ.out]; exact move_at o S _ i hlt' HA.out (hb.trans h)
        · rw [take_any_succ _ _ _ hlt', HA.out, hb, h]; rfl
      rw [em] at n0 n1 n2 n3
      generalize o.moves[i] = m at *
      obtain ⟨m0, m1, m2, m3⟩ := m
      simp only at n0 n1 n2 n3 hmb
      have N0 := hid n0
      have N1 := hid n1
      have N2 := hid n2
      have N3 := hid n3
      replace n0 := (HUP.out.cell lt3).trans n0
      replace n1 := (HUP.out.cell (p := ⟨gm, i * 4 + 1, none⟩) lt3).trans n1
      replace n2 := (HUP.out.cell (p := ⟨gm, i * 4 + 2, none⟩) lt3).trans n2
      replace n3 := (HUP.out.cell (p := ⟨gm, i * 4 + 3, none⟩) lt3).trans n3
      have hlw : gm < wr.heap.size := Nat.lt_of_lt_of_le lt3 HUP.out.size
      clear em hlt'
      go_wp2
      go_quiet (fail)
      go_wp2
      go_loopw [8, 9] (fun a kv wx => ∃ (k : Nat) (b : Bool), a = .bool b ∧ kv = .int .i64 k ∧ k ≤ J ∧ Hid (b = ((m0 == p) && (o.jolts.take k).all (fun j => S (stepOf (p, x, y) (m0, m1, m2, m3) j)))) ∧ Hid (Below W.heap.size W wx)) (fun _ kv _ => J - (intOf kv).toNat)
      case atStart => exact ⟨0, m0 == p, by simp, rfl, Nat.zero_le _, by rw [List.take_zero]; exact (Bool.and_true _).symm, below_drewN_r HB.out nq⟩
      case round =>
        clear x0 x1 x2 y0 y1 y2 hzr n0 n1 n2 n3 hlw
        obtain ⟨k, b, rfl, rfl, hk, HBB, HBx⟩ := hrel
        obtain ⟨x0, x1, x2⟩ := cells3_of ((HBx.out.block w.heap.size (by rw [HZW.out]; omega)).trans K0.out)
        obtain ⟨y0, y1, y2⟩ := cells3_of ((HBx.out.block (w.heap.size + 1) (by rw [HZW.out]; omega)).trans K1.out)
        have hzW := HZW.out
        have hzr : W.heap.size ≤ wr.heap.size := HBx.out.size
        have HUPx := hid (HBW.out.trans (HBx.out.mono HBW.out.size))
        have hlw : gm < wr.heap.size := Nat.lt_of_lt_of_le lt3 HUPx.out.size
        cases b
        · have HNX := hid ((HLD.out false (by
            have := HBB.out.symm
            unfold Ov.leads
            rw [Bool.and_eq_false_iff] at this ⊢
            exact this.imp_right (all_of_take _ _ _))).2 rfl)
          rcases Nat.lt_or_ge k J with hlk | hlk
          all_goals
            go_wp2
            go_roundw
            case rel => exact ⟨i + 1, by go_num, by omega, HNX, HBx⟩
            case measure => simp [intOf]; omega
        · by_cases hlk : k < J
          · have hlk' : k < o.jolts.length := by rw [← HJ.out]; exact hlk
            obtain ⟨gj, rfl, q0, q1⟩ := HC3.out k hlk'
            have ej : jlAt o.jolts k = o.jolts[k] := by simp [jlAt, hlk']
            have lt4 := World.block_lt_of_cell? w _ q0
            have hjb := jl_ok HOK.out k hlk'
            have HNB : Hid (∀ b, S (stepOf (p, x, y) (m0, m1, m2, m3) o.jolts[k]) = b → b = ((m0 == p) && (o.jolts.take (k + 1)).all (fun j => S (stepOf (p, x, y) (m0, m1, m2, m3) j)))) := by
              rintro b rfl
              have := HBB.out.symm
              rw [Bool.and_eq_true] at this
              rw [all_take_succ _ _ _ hlk', this.1, this.2]; rfl
            rw [ej] at q0 q1
            generalize o.jolts[k] = j at *
            obtain ⟨j0, j1⟩ := j
            simp only at q0 q1 hjb
            replace q0 := (HUPx.out.cell lt4).trans q0
            replace q1 := (HUPx.out.cell (p := ⟨gj, k * 2 + 1, none⟩) lt4).trans q1
            have n0 := (HBx.out.cell (p := ⟨gm, i * 4, none⟩) (Nat.lt_of_lt_of_le lt3 HBW.out.size)).trans ((HBW.out.cell lt3).trans N0.out)
            have n1 := (HBx.out.cell (p := ⟨gm, i * 4 + 1, none⟩) (Nat.lt_of_lt_of_le lt3 HBW.out.size)).trans ((HBW.out.cell (p := ⟨gm, i * 4 + 1, none⟩) lt3).trans N1.out)
            have n2 := (HBx.out.cell (p := ⟨gm, i * 4 + 2, none⟩) (Nat.lt_of_lt_of_le lt3 HBW.out.size)).trans ((HBW.out.cell (p := ⟨gm, i * 4 + 2, none⟩) lt3).trans N2.out)
            have n3 := (HBx.out.cell (p := ⟨gm, i * 4 + 3, none⟩) (Nat.lt_of_lt_of_le lt3 HBW.out.size)).trans ((HBW.out.cell (p := ⟨gm, i * 4 + 3, none⟩) lt3).trans N3.out)
            have cs := HCS.out (m0, m1, m2, m3) (j0, j1) hmb hjb
            have HST : Hid (S (stepOf (p, x, y) (m0, m1, m2, m3) (j0, j1)) = (o.ex (stepOf (p, x, y) (m0, m1, m2, m3) (j0, j1)) && inG g (stepOf (p, x, y) (m0, m1, m2, m3) (j0, j1)))) := by rw [HS.out]; exact rfl
            have CI := hid (fun (h : o.ex (stepOf (p, x, y) (m0, m1, m2, m3) (j0, j1)) = true) (w' : World) (hw : Below w.heap.size w w') => rIn_any v g o (stepOf (p, x, y) (m0, m1, m2, m3) (j0, j1)) w' (isGrid_below HG.out hw) HOK.out HF.out h)
            generalize S (stepOf (p, x, y) (m0, m1, m2, m3) (j0, j1)) = sv at *
            generalize inG g (stepOf (p, x, y) (m0, m1, m2, m3) (j0, j1)) = iv at *
            generalize o.ex (stepOf (p, x, y) (m0, m1, m2, m3) (j0, j1)) = tv at *
            simp only [spv, mvv, jlv, stepOf] at cs
            have cs := hid cs
            have HMB := hid hmb
            have HJB := hid hjb
            simp only [spv, stepOf] at CI
            have hlj : gj < wr.heap.size := Nat.lt_of_lt_of_le lt4 HUPx.out.size
            clear ej hlk' HBB HCS hmb hjb
            go_wp2
            have l0 : w.heap.size < wr.heap.size := by omega
            have l1 : w.heap.size + 1 < wr.heap.size := by omega
            have KEEP : Hid (∀ w', Below wr.heap.size wr w' → w'.cell? ⟨w.heap.size, 0, none⟩ = some (.slice a1 P c1) ∧ w'.cell? ⟨w.heap.size, 1, none⟩ = some (.slice (some ⟨gm, 0, none⟩) M c2) ∧ w'.cell? ⟨w.heap.size, 2, none⟩ = some (.slice (some ⟨gj, 0, none⟩) J c3) ∧ w'.cell? ⟨w.heap.size + 1, 0, none⟩ = some (.int .i64 p) ∧ w'.cell? ⟨w.heap.size + 1, 1, none⟩ = some (.int .i64 x) ∧ w'.cell? ⟨w.heap.size + 1, 2, none⟩ = some (.int .i64 y) ∧ w'.cell? ⟨gm, i * 4, none⟩ = some (.int .i64 m0) ∧ w'.cell? ⟨gm, i * 4 + 1, none⟩ = some (.int .i64 m1) ∧ w'.cell? ⟨gm, i * 4 + 2, none⟩ = some (.int .i64 m2) ∧ w'.cell? ⟨gm, i * 4 + 3, none⟩ = some (.int .i64 m3) ∧ w'.cell? ⟨gj, k * 2, none⟩ = some (.int .i64 j0) ∧ w'.cell? ⟨gj, k * 2 + 1, none⟩ = some (.int .i64 j1) ∧ Hid (Below wr.heap.size wr w')) := fun w' hb => ⟨(hb.cell l0).trans x0, (hb.cell (p := ⟨_, 1, none⟩) l0).trans x1, (hb.cell (p := ⟨_, 2, none⟩) l0).trans x2, (hb.cell l1).trans y0, (hb.cell (p := ⟨_, 1, none⟩) l1).trans y1, (hb.cell (p := ⟨_, 2, none⟩) l1).trans y2, (hb.cell (p := ⟨_, i * 4, none⟩) hlw).trans n0, (hb.cell (p := ⟨_, i * 4 + 1, none⟩) hlw).trans n1, (hb.cell (p := ⟨_, i * 4 + 2, none⟩) hlw).trans n2, (hb.cell (p := ⟨_, i * 4 + 3, none⟩) hlw).trans n3, (hb.cell (p := ⟨_, k * 2, none⟩) hlj).trans q0, (hb.cell (p := ⟨_, k * 2 + 1, none⟩) hlj).trans q1, hb⟩
            go_cut [10, 11] (fun v10 v11 wx => ∃ bx, v10 = .pointer (some ⟨bx, 0, none⟩) ∧ v11 = .bool tv ∧ wx.heap[bx]? = some (.cells #[.int .i64 m1, .int .i64 (x + m2 + j0), .int .i64 (y + m3 + j1)] 28) ∧ Hid (Below wr.heap.size wr wx))
            case first =>
              go_region_held3 (fun w' => w'.cell? ⟨w.heap.size, 0, none⟩ = some (.slice a1 P c1) ∧ w'.cell? ⟨w.heap.size, 1, none⟩ = some (.slice (some ⟨gm, 0, none⟩) M c2) ∧ w'.cell? ⟨w.heap.size, 2, none⟩ = some (.slice (some ⟨gj, 0, none⟩) J c3) ∧ w'.cell? ⟨w.heap.size + 1, 0, none⟩ = some (.int .i64 p) ∧ w'.cell? ⟨w.heap.size + 1, 1, none⟩ = some (.int .i64 x) ∧ w'.cell? ⟨w.heap.size + 1, 2, none⟩ = some (.int .i64 y) ∧ w'.cell? ⟨gm, i * 4, none⟩ = some (.int .i64 m0) ∧ w'.cell? ⟨gm, i * 4 + 1, none⟩ = some (.int .i64 m1) ∧ w'.cell? ⟨gm, i * 4 + 2, none⟩ = some (.int .i64 m2) ∧ w'.cell? ⟨gm, i * 4 + 3, none⟩ = some (.int .i64 m3) ∧ w'.cell? ⟨gj, k * 2, none⟩ = some (.int .i64 j0) ∧ w'.cell? ⟨gj, k * 2 + 1, none⟩ = some (.int .i64 j1) ∧ Hid (Below wr.heap.size wr w'))
                ((refine KEEP.out _ ?_; repeat (first | exact Below.refl _ _ | exact BW1.out | (apply Hid.out; assumption) | refine Below.drew ?_ | refine below_drewN_r ?_ _ | refine Below.alloc ?_ (by first | omega | (simp; done) | (simp; omega)) _ | refine Below.setCell ?_ (by first | omega | (simp; done) | (simp; omega)) _)))
                ((first | (go_at_call 30; refine Calls.mono (cs.out _ (HUPx.out.trans (Below.mono (by repeat (first | exact Below.refl _ _ | exact BW1.out | (apply Hid.out; assumption) | refine Below.drew ?_ | refine below_drewN_r ?_ _ | refine Below.alloc ?_ (by first | omega | (simp; done) | (simp; omega)) _ | refine Below.setCell ?_ (by first | omega | (simp; done) | (simp; omega)) _)) HUPx.out.size))) ?_; rintro e w3 ⟨rfl, hb3⟩; have hz : ∀ X : World, X.drew.heap = X.heap := (fun _ => rfl); have BW1 : Hid (Below wr.heap.size wr w3) := (by refine Below.trans (b := _) ?_ (hb3.mono (by simp only [hz, World.size_alloc]; omega)); repeat (first | exact Below.refl _ _ | exact BW1.out | (apply Hid.out; assumption) | refine Below.drew ?_ | refine below_drewN_r ?_ _ | refine Below.alloc ?_ (by first | omega | (simp; done) | (simp; omega)) _ | refine Below.setCell ?_ (by first | omega | (simp; done) | (simp; omega)) _)); have hsz3 := hb3.size; simp only [hz, World.size_alloc] at hsz3; have z0 := fun hg => hb3.cell (p := ⟨wr.heap.size, 0, none⟩) hg; have z1 := fun hg => hb3.cell (p := ⟨wr.heap.size, 1, none⟩) hg; have z2 := fun hg => hb3.cell (p := ⟨wr.heap.size, 2, none⟩) hg; have f0 := fun hg => hb3.frozen (p := ⟨wr.heap.size, 0, none⟩) hg; have f1 := fun hg => hb3.frozen (p := ⟨wr.heap.size, 1, none⟩) hg; have f2 := fun hg => hb3.frozen (p := ⟨wr.heap.size, 2, none⟩) hg; simp [hz, go_sem] at z0 z1 z2 f0 f1 f2; have hb3 := hid hb3)))
              all_goals (go_wp2_with fail; go_meet)
              all_goals refine ⟨_, rfl, rfl, ?_, ?_⟩
              all_goals first | ((repeat (first | exact Below.refl _ _ | exact BW1.out | (apply Hid.out; assumption) | refine Below.drew ?_ | refine below_drewN_r ?_ _ | refine Below.alloc ?_ (by first | omega | (simp; done) | (simp; omega)) _ | refine Below.setCell ?_ (by first | omega | (simp; done) | (simp; omega)) _)); done) | ((repeat (first | with_reducible rfl | ((with_reducible refine heap_alloc_at ?_); focus (first | with_reducible rfl | (simp; done) | (simp; omega))) | ((with_reducible refine (Below.heap_alloc _ _ _ ?_).trans ?_); focus (first | omega | (simp; done) | (simp; omega))) | (with_reducible refine store3 (a := .int .i64 0) (b := .int .i64 0) (c := .int .i64 0) ?_) | (with_reducible refine (heap_drew _ _).trans ?_) | ((with_reducible refine (hb3.out.block _ ?_).trans ?_); focus (first | omega | (simp; done) | (simp; omega))))); done)
            case rest =>
              obtain ⟨bx, rfl, rfl, hbx, HBc⟩ := hcut
              obtain ⟨d0, d1, d2⟩ := cells3_of hbx
              have HBn := hid (HBx.out.trans (HBc.out.mono HBx.out.size))
              clear hbx KEEP cs x0 x1 x2 y0 y1 y2 n0 n1 n2 n3 q0 q1 l0 l1 hlj hlw
              cases tv
              · have HNX := hid (HNB.out false (by rw [HST.out, Bool.false_and]))
                go_wp2
                go_roundw
                case rel => exact ⟨k + 1, false, rfl, by go_num, by omega, HNX, HBn⟩
                case measure => simp [intOf]; omega
              · have HNX := hid (HNB.out iv (by rw [HST.out, Bool.true_and]))
                have hci := hid (CI.out rfl wc (HBW.out.trans (HBn.out.mono HBW.out.size)))
                go_wp2_with (first | (go_at_call 29; refine (hci.out).mono ?_; rintro e w6 ⟨rfl, hb6⟩; have HB6 := hid hb6; clear hb6) | fail)
                go_roundw
                case rel => exact ⟨k + 1, iv, rfl, by go_num, by omega, HNX, HBn.out.trans (HB6.out.mono HBn.out.size)⟩
                case measure => simp [intOf]; omega
          · obtain rfl : k = J := by omega
            have hzz : Z = i := (HLD.out true (by
              have := HBB.out.symm
              rw [HJ.out, List.take_of_length_le (Nat.le_refl _)] at this
              unfold Ov.leads; exact this)).1 rfl
            subst hzz
            go_wp2
            go_ret
            exact ⟨rfl, HUPx.out⟩
    · obtain rfl : i = M := by omega
      have hzz : Z = -1 := by
        rw [HZ.out]
        refine move_none o S _ ?_
        have := HA.out
        rwa [HM.out, List.take_of_length_le (Nat.le_refl _)] at this
      subst hzz
      go_wp2
      go_ret
      exact ⟨rfl, HBW.out.trans (HB.out.mono HBW.out.size)⟩
end Go.Proofs.YtjonbhimbhidpaaDoor

namespace Go.Proofs.YtjonbhimbhidpaaDoor
open Go.RowKit

theorem mul_bound (a b A B : Nat) (ha : a ≤ A) (hb : b ≤ B) : 0 ≤ (a : Int) * (b : Int) ∧ (a : Int) * (b : Int) ≤ ((A * B : Nat) : Int) := by
  rw [← Int.natCast_mul]
  have := Nat.mul_le_mul ha hb
  omega

set_option maxHeartbeats 2000000 in
set_option maxRecDepth 100000 in
theorem rAt_any (vs vm vj : Value) (o : Ov) (c : Sp) (w : World) (ho : IsOv w vs vm vj o) (hok : o.Ok) (hc : o.ex c = true) :
    Calls Tryd.prog 21 #[.agg #[vs, vm, vj], spv c] w fun e w' => e = .returned (.int .i64 (o.pos c)) ∧ Below w.heap.size w w' := by
  obtain ⟨p, x, y, rfl, hp, hx, hy⟩ := ex_cell o c hc
  obtain ⟨ga, ca, gb, cb, rfl, hc0, hc9⟩ := first_row ho.safe hok.p.1
  obtain ⟨k, rfl, hc1⟩ := hc9 hok.r.1
  clear hc9
  have b1 := hok.p
  have b2 := hok.r
  have b3 := hok.c
  obtain ⟨P, hP⟩ : ∃ P, P = o.P := ⟨_, rfl⟩
  obtain ⟨R, hR⟩ : ∃ R, R = o.R := ⟨_, rfl⟩
  obtain ⟨C, hC⟩ : ∃ C, C = (strB ((o.safe.getD 0 []).getD 0 [])).size := ⟨_, rfl⟩
  have hC2 : C = o.C := by rw [hC, strB_size]; rfl
  rw [show o.safe.length = P from hP.symm]
  rw [show (o.safe.getD 0 []).length = R from hR.symm] at hc0
  rw [← hP] at b1 hp
  rw [← hR] at b2 hy
  rw [← hC2] at b3 hx
  have hpos : ((o.pos ((p : Int), (x : Int), (y : Int)) : Nat) : Int) = ((p : Int) * (R : Int) + (y : Int)) * (C : Int) + (x : Int) := by
    unfold Ov.pos Ov.at'
    rw [← hR, ← hC2]
    simp
  rw [hpos]
  have hl0 := World.block_lt_of_cell? w _ hc0
  have hl1 := World.block_lt_of_cell? w _ hc1
  simp only at hl0 hl1
  generalize strB ((o.safe.getD 0 []).getD 0 []) = s at *
  subst hC
  have hm1 := mul_bound p R 4 16 (by omega) (by omega)
  have hm2 := mul_bound (p * R + y) s.size 100 16 (by
    have := Nat.mul_le_mul (show p ≤ 4 by omega) (show R ≤ 16 by omega); omega) (by omega)
  rw [Int.natCast_add, Int.natCast_mul] at hm2
  simp only [Nat.reduceMul] at hm1 hm2
  clear hP hR hC2 hpos ho hok hc
  unfold spv
  simp only
  go_enter Tryd.func21, Tryd.ntmps21
  go_wp2
  go_quiet (fail)
  go_wp2
  go_ret
  exact ⟨rfl, below_drewN_r (((Below.refl _ _).alloc (Nat.le_refl _) _).alloc (by simp) _) nq⟩

theorem info28 : (Tryd.prog.info? 28).map (fun i => (i.zero, i.size, i.bytes)) = some (some (.agg #[.int .i64 0, .int .i64 0, .int .i64 0]), 3, 24) := by kernel_rfl
/-- append of one cell, in the reference -/
theorem wpl_app_cell {ops : Array Oper} {rest : List Oper} {o : Oper} {a : Act} {Q : Exit → Act → World → Prop} {W : World} (c : Sp)
    (s x : Operand) (v : Value) (B : Nat) (xs : List Sp)
    (hgd : o.guard = none) (ho : o.op = .call { callee := .builtin .append, args := #[s, x], argTypes := #[57, 57] })
    (hs : a.eval s = v) (hx : a.eval x = .slice (some ⟨W.heap.size, 0, none⟩) 1 1)
    (hown : OwnS W B 28 v xs) (hlen : xs.length < 100000000) (hB : B ≤ W.heap.size)
    (h : ∀ v' w', OwnS w' B 28 v' (xs ++ [c]) → Below B W w' → wpList Tryd.prog ops Q rest (a.put o.dst v') w') :
    wpList Tryd.prog ops Q (o :: rest) a (W.alloc (.cells #[.int .i64 c.1, .int .i64 c.2.1, .int .i64 c.2.2] 28)) :=
  wpl_appn hgd s x 57 28 ho (.agg #[.int .i64 0, .int .i64 0, .int .i64 0]) 3 24 info28 rfl (by decide) Tryd.underlying57 v B xs.length (scells xs) hs hown [.int .i64 c.1, .int .i64 c.2.1, .int .i64 c.2.2] rfl (by simp [Value.oneCell']) hx
    (by omega) (by unfold maxLen; omega) hB
    (fun v' w' h1 h2 => h v' w' (by unfold OwnS; rw [scells_append, List.length_append]; exact h1) (((Below.refl B W).alloc hB _).trans (app_below h2 (by simp; omega) (fun k hk => (hown.lt k hk).1))))
theorem ownS_made (w : World) (B : Nat) (e : TypeId) (hB : B ≤ w.heap.size) : OwnS (w.alloc (.cells #[] e)) B e (.slice (some ⟨w.heap.size, 0, none⟩) 0 0) [] := World.ownsRow_made w #[] 0 hB (by decide) rfl
theorem ownS_slice' {w : World} {B : Nat} {e : TypeId} {v : Value} {xs : List Sp} (h : OwnS w B e v xs) : ∃ a n c, v = .slice a n c := by
  obtain ⟨a, c, h⟩ := ownS_slice h
  exact ⟨a, _, c, h⟩
theorem cells_take_len (o : Ov) (i : Nat) (h : i ≤ o.N) : (o.cells.take i).length = i := by rw [List.length_take, cells_len]; omega

set_option maxHeartbeats 2000000 in
set_option maxRecDepth 100000 in
theorem rCells_any (vs vm vj : Value) (o : Ov) (w : World) (ho : IsOv w vs vm vj o) (hok : o.Ok) :
    Calls Tryd.prog 28 #[.agg #[vs, vm, vj]] w fun e w' => ∃ v, e = .returned v ∧ OwnS w' w.heap.size 28 v o.cells ∧ Below w.heap.size w w' := by
  obtain ⟨ga, ca, gb, cb, rfl, hc0, hc9⟩ := first_row ho.safe hok.p.1
  obtain ⟨k, rfl, hc1⟩ := hc9 hok.r.1
  clear hc9
  have b1 := hok.p
  have b2 := hok.r
  have b3 := hok.c
  have hNN := N_small hok
  obtain ⟨P, hP⟩ : ∃ P, P = o.P := ⟨_, rfl⟩
  obtain ⟨R, hR⟩ : ∃ R, R = o.R := ⟨_, rfl⟩
  obtain ⟨C, hC⟩ : ∃ C, C = (strB ((o.safe.getD 0 []).getD 0 [])).size := ⟨_, rfl⟩
  have hC2 : C = o.C := by rw [hC, strB_size]; rfl
  rw [show o.safe.length = P from hP.symm]
  rw [show (o.safe.getD 0 []).length = R from hR.symm] at hc0
  rw [← hP] at b1
  rw [← hR] at b2
  rw [← hC2] at b3
  have HP := hid hP
  have HR := hid hR
  have HC := hid hC2
  have hl0 := World.block_lt_of_cell? w _ hc0
  have hl1 := World.block_lt_of_cell? w _ hc1
  simp only at hl0 hl1
  generalize strB ((o.safe.getD 0 []).getD 0 []) = s at *
  subst hC
  have HNN := hid hNN
  have HC0 := hid hc0
  have HC1 := hid hc1
  clear hP hR hC2 hok ho hNN hc0 hc1
  have hbx := heap_alloc_new w (.cells #[.slice (some ⟨ga, 0, none⟩) P ca, vm, vj] 26)
  have hbW : Below w.heap.size w (w.alloc (.cells #[.slice (some ⟨ga, 0, none⟩) P ca, vm, vj] 26)) := (Below.refl _ _).alloc (Nat.le_refl _) _
  have hszW : (w.alloc (.cells #[.slice (some ⟨ga, 0, none⟩) P ca, vm, vj] 26)).heap.size = w.heap.size + 1 := by simp
  obtain ⟨W, hW⟩ : ∃ W, W = (w.alloc (.cells #[.slice (some ⟨ga, 0, none⟩) P ca, vm, vj] 26)) := ⟨_, rfl⟩
  have HW := hid hW
  rw [← hW] at hbW hbx hszW
  have HBW := hid hbW
  have HBX := hid hbx
  have HSZ := hid hszW
  -- what is read in every round
  have HRD : Hid (∀ X, Below W.heap.size W X → X.cell? ⟨w.heap.size, 0, none⟩ = some (.slice (some ⟨ga, 0, none⟩) P ca) ∧ X.cell? ⟨ga, 0, none⟩ = some (.slice (some ⟨k, 0, none⟩) R cb) ∧ X.cell? ⟨k, 0, none⟩ = some (.string s) ∧ w.heap.size < X.heap.size ∧ ga < X.heap.size ∧ k < X.heap.size) := by
    intro X hX
    have hsz := hX.size
    rw [HSZ.out] at hsz
    refine ⟨(cells3_of ((hX.block w.heap.size (by rw [HSZ.out]; omega)).trans HBX.out)).1, ?_, ?_, by omega, by omega, by omega⟩
    · exact ((HBW.out.trans (hX.mono HBW.out.size)).cell hl0).trans HC0.out
    · exact ((HBW.out.trans (hX.mono HBW.out.size)).cell hl1).trans HC1.out
  clear hbx hbW hW hszW hl0 hl1
  go_enter Tryd.func28, Tryd.ntmps28
  go_wp2
  go_loopw [3, 4] (fun v pv wr => ∃ (p : Nat) (a : Option Addr) (n c : Nat), pv = .int .i64 p ∧ v = .slice a n c ∧ p ≤ P ∧ Hid (OwnS wr W.heap.size 28 (.slice a n c) (o.cells.take ((p * R + 0) * s.size + 0))) ∧ Hid (Below W.heap.size W wr)) (fun _ pv _ => P - (intOf pv).toNat)
  case atStart =>
    rw [← HW.out]
    exact ⟨0, _, 0, 0, rfl, rfl, Nat.zero_le _, by rw [Nat.zero_mul, Nat.zero_add, Nat.zero_mul, List.take_zero]; (have := ownS_made W W.heap.size 28 (Nat.le_refl _); rw [HSZ.out] at this; rw [HSZ.out]; exact this), (Below.refl _ _).alloc (Nat.le_refl _) _⟩
  case round =>
    obtain ⟨p, a, n, c, rfl, rfl, hp, HO, HB⟩ := hrel
    obtain ⟨r0, r1, r2, r3, r4, r5⟩ := HRD.out _ HB.out
    by_cases hlp : p < P
    · go_wp2
      go_loopw [3, 5] (fun v yv wr => ∃ (y : Nat) (a : Option Addr) (n c : Nat), yv = .int .i64 y ∧ v = .slice a n c ∧ y ≤ R ∧ Hid (OwnS wr W.heap.size 28 (.slice a n c) (o.cells.take ((p * R + y) * s.size + 0))) ∧ Hid (Below W.heap.size W wr)) (fun _ yv _ => R - (intOf yv).toNat)
      case atStart => exact ⟨0, _, _, _, rfl, rfl, Nat.zero_le _, HO, HB⟩
      case round =>
        clear HO HB r0 r1 r2 r3 r4 r5
        obtain ⟨y, a, n, c, rfl, rfl, hy, HO, HB⟩ := hrel
        obtain ⟨r0, r1, r2, r3, r4, r5⟩ := HRD.out _ HB.out
        by_cases hly : y < R
        · go_wp2
          go_loopw [3, 6] (fun v xv wr => ∃ (x : Nat) (a : Option Addr) (n c : Nat), xv = .int .i64 x ∧ v = .slice a n c ∧ x ≤ s.size ∧ Hid (OwnS wr W.heap.size 28 (.slice a n c) (o.cells.take ((p * R + y) * s.size + x))) ∧ Hid (Below W.heap.size W wr)) (fun _ xv _ => s.size - (intOf xv).toNat)
          case atStart => exact ⟨0, _, _, _, rfl, rfl, Nat.zero_le _, HO, HB⟩
          case round =>
            clear HO HB r0 r1 r2 r3 r4 r5
            obtain ⟨x, a, n, c, rfl, rfl, hx, HO, HB⟩ := hrel
            obtain ⟨r0, r1, r2, r3, r4, r5⟩ := HRD.out _ HB.out
            by_cases hlx : x < s.size
            · have e1 : o.cellAt ((p * R + y) * s.size + x) = ((p : Int), (x : Int), (y : Int)) := by
                rw [HR.out, HC.out]
                exact cellAt_at o p x y (by rw [← HC.out]; exact hlx) (by rw [← HR.out]; exact hly)
              have e2 : (p * R + y) * s.size + x < o.N := by
                rw [HR.out, HC.out]
                exact at_lt o p x y (by rw [← HP.out]; exact hlp) (by rw [← HC.out]; exact hlx) (by rw [← HR.out]; exact hly)
              have e3 := take_cells o _ e2
              rw [e1] at e3
              have E3 := hid e3
              have hln : (o.cells.take ((p * R + y) * s.size + x)).length < 100000000 := by rw [cells_take_len o _ (by omega)]; have := HNN.out; omega
              have HLN := hid hln
              clear e1 e2 e3 hln
              go_wp2_with (first | (at_builtin; refine wpl_app_cell ((p : Int), (x : Int), (y : Int)) _ _ (.slice a n c) W.heap.size _ (by rfl) (by rfl) (by rfl) (by rfl) HO.out HLN.out HB.out.size ?_; intro v' w7 ho7 hb7; rw [← E3.out] at ho7; obtain ⟨sa, sn, sc, rfl⟩ := ownS_slice' ho7; have HO7 := hid ho7; have HB7 := hid hb7; clear ho7 hb7) | fail)
              go_roundw
              case rel => exact ⟨x + 1, _, _, _, by go_num, rfl, by omega, by rw [← Nat.add_assoc]; exact HO7, HB.out.trans HB7.out⟩
              case measure => simp [intOf]; omega
            · obtain rfl : x = s.size := by omega
              go_wp2
              go_roundw
              case rel => exact ⟨y + 1, _, _, _, by go_num, rfl, by omega, by rw [show ((p * R + (y + 1)) * s.size + 0) = (p * R + y) * s.size + s.size by rw [← Nat.add_assoc, Nat.add_mul (p * R + y) 1]; omega]; exact HO, HB⟩
              case measure => simp [intOf]; omega
        · obtain rfl : y = R := by omega
          go_wp2
          go_roundw
          case rel => exact ⟨p + 1, _, _, _, by go_num, rfl, by omega, by rw [show ((p + 1) * y + 0) = p * y + y by rw [Nat.add_mul p 1]; omega]; exact HO, HB⟩
          case measure => simp [intOf]; omega
    · obtain rfl : p = P := by omega
      go_wp2
      go_ret
      refine ⟨_, rfl, ?_, HBW.out.trans (HB.out.mono HBW.out.size)⟩
      have h := HO.out
      have e : (p * R + 0) * s.size + 0 = o.N := by unfold Ov.N; rw [← HP.out, ← HR.out, ← HC.out, Nat.add_zero, Nat.add_zero, Nat.mul_assoc]
      rw [e, List.take_of_length_le (by rw [cells_len]; exact Nat.le_refl _)] at h
      exact row_mono h HBW.out.size

/-- the value v reads as the list xs of numbers -/
def IsInts (w : World) (v : Value) (xs : List Int) : Prop :=
  ∃ a c, v = .slice a xs.length c ∧ xs.length ≤ 1000000 ∧ ∀ i, i < xs.length → ∃ g, a = some ⟨g, 0, none⟩ ∧ w.cell? ⟨g, i, none⟩ = some (.int .i64 (xs.getD i 0))
theorem isInts_below {w w' : World} {v : Value} {xs : List Int} (h : IsInts w v xs) (hb : Below w.heap.size w w') : IsInts w' v xs := by
  obtain ⟨a, c, rfl, hl, hc⟩ := h
  refine ⟨a, c, rfl, hl, fun i hi => ?_⟩
  obtain ⟨g, ha, hcell⟩ := hc i hi
  exact ⟨g, ha, by rw [hb.cell (World.block_lt_of_cell? w _ hcell)]; exact hcell⟩
theorem strB_snoc (l : Str) (c : UInt8) : strB l ++ ⟨#[c]⟩ = strB (l ++ [c]) := by
  unfold strB
  apply ByteArray.ext
  rw [ByteArray.data_append]
  simp

set_option maxHeartbeats 4000000 in
set_option maxRecDepth 100000 in
theorem rWhere_any (vs vm vj vl : Value) (o : Ov) (l : List Int) (z : Int) (w : World) (ho : IsOv w vs vm vj o) (hok : o.Ok) (hl : IsInts w vl l) (hll : l.length = o.N) :
    Calls Tryd.prog 50 #[.agg #[vs, vm, vj], vl, .int .i64 z] w fun e w' => ∃ v, e = .returned v ∧ OwnG w' w.heap.size v (o.gridOf (o.whereS l z)) ∧ Below w.heap.size w w' := by
  obtain ⟨ga, ca, gb, cb, rfl, hc0, hc9⟩ := first_row ho.safe hok.p.1
  obtain ⟨k, rfl, hc1⟩ := hc9 hok.r.1
  clear hc9
  have b1 := hok.p
  have b2 := hok.r
  have b3 := hok.c
  have hNN := N_small hok
  obtain ⟨P, hP⟩ : ∃ P, P = o.P := ⟨_, rfl⟩
  obtain ⟨R, hR⟩ : ∃ R, R = o.R := ⟨_, rfl⟩
  obtain ⟨C, hC⟩ : ∃ C, C = (strB ((o.safe.getD 0 []).getD 0 [])).size := ⟨_, rfl⟩
  have hC2 : C = o.C := by rw [hC, strB_size]; rfl
  rw [show o.safe.length = P from hP.symm]
  rw [show (o.safe.getD 0 []).length = R from hR.symm] at hc0
  rw [← hP] at b1
  rw [← hR] at b2
  rw [← hC2] at b3
  have HP := hid hP
  have HR := hid hR
  have HC := hid hC2
  have hl0 := World.block_lt_of_cell? w _ hc0
  have hl1 := World.block_lt_of_cell? w _ hc1
  simp only at hl0 hl1
  generalize strB ((o.safe.getD 0 []).getD 0 []) = s at *
  subst hC
  have HNN := hid hNN
  have HC0 := hid hc0
  have HC1 := hid hc1
  obtain ⟨al, cl, rfl, hl9, hcl⟩ := hl
  have HCL := hid hcl
  have HLL := hid hll
  obtain ⟨N, hN⟩ : ∃ N, N = l.length := ⟨_, rfl⟩
  rw [← hN] at hl9 ⊢
  have HN : Hid (N = l.length ∧ N = o.N) := ⟨hN, hN.trans hll⟩
  obtain ⟨S, hS⟩ : ∃ S, S = o.whereS l z := ⟨_, rfl⟩
  rw [← hS]
  have HS := hid hS
  have hN1 : N ≤ 1024 := by rw [hN, hll]; exact hNN
  clear hP hR hC2 hok ho hNN hc0 hc1 hcl hll hN hS
  have hbx := heap_alloc_new w (.cells #[.slice (some ⟨ga, 0, none⟩) P ca, vm, vj] 26)
  have hbW : Below w.heap.size w (w.alloc (.cells #[.slice (some ⟨ga, 0, none⟩) P ca, vm, vj] 26)) := (Below.refl _ _).alloc (Nat.le_refl _) _
  have hszW : (w.alloc (.cells #[.slice (some ⟨ga, 0, none⟩) P ca, vm, vj] 26)).heap.size = w.heap.size + 1 := by simp
  obtain ⟨W, hW⟩ : ∃ W, W = (w.alloc (.cells #[.slice (some ⟨ga, 0, none⟩) P ca, vm, vj] 26)) := ⟨_, rfl⟩
  have HW := hid hW
  rw [← hW] at hbW hbx hszW
  have HBW := hid hbW
  have HBX := hid hbx
  have HSZ := hid hszW
  have HRD : Hid (∀ X, Below W.heap.size W X → X.cell? ⟨w.heap.size, 0, none⟩ = some (.slice (some ⟨ga, 0, none⟩) P ca) ∧ X.cell? ⟨ga, 0, none⟩ = some (.slice (some ⟨k, 0, none⟩) R cb) ∧ X.cell? ⟨k, 0, none⟩ = some (.string s) ∧ w.heap.size < X.heap.size ∧ ga < X.heap.size ∧ k < X.heap.size) := by
    intro X hX
    have hsz := hX.size
    rw [HSZ.out] at hsz
    refine ⟨(cells3_of ((hX.block w.heap.size (by rw [HSZ.out]; omega)).trans HBX.out)).1, ?_, ?_, by omega, by omega, by omega⟩
    · exact ((HBW.out.trans (hX.mono HBW.out.size)).cell hl0).trans HC0.out
    · exact ((HBW.out.trans (hX.mono HBW.out.size)).cell hl1).trans HC1.out
  clear hbx hbW hW hszW hl0 hl1
  go_enter Tryd.func50, Tryd.ntmps50
  go_wp2
  go_loopw [7, 8, 9] (fun v iv pv wr => ∃ (p i : Nat) (a : Option Addr) (n c : Nat), pv = .int .i64 p ∧ iv = .int .i64 i ∧ v = .slice a n c ∧ p ≤ P ∧ i = (p * R + 0) * s.size + 0 ∧ i ≤ N ∧ Hid (OwnG wr W.heap.size (.slice a n c) (o.grTo S p)) ∧ Hid (Below W.heap.size W wr)) (fun _ _ pv _ => P - (intOf pv).toNat)
  case atStart =>
    rw [← HW.out]
    exact ⟨0, 0, _, 0, 0, rfl, rfl, rfl, Nat.zero_le _, by simp, Nat.zero_le _, (by have := ownG_made W W.heap.size (Nat.le_refl _); rw [HSZ.out] at this; rw [HSZ.out]; exact this), (Below.refl _ _).alloc (Nat.le_refl _) _⟩
  case round =>
    obtain ⟨p, i, a, n, c, rfl, rfl, rfl, hp, hi, hiN, HO, HB⟩ := hrel
    obtain ⟨r0, r1, r2, r3, r4, r5⟩ := HRD.out _ HB.out
    have HI := hid hi
    clear hi
    rename World => wo
    by_cases hlp : p < P
    · go_wp2
      go_loopw [8, 10, 11] (fun iv v yv wr => ∃ (y i : Nat) (a : Option Addr) (n c : Nat), yv = .int .i64 y ∧ iv = .int .i64 i ∧ v = .slice a n c ∧ y ≤ R ∧ Hid (i = (p * R + y) * s.size + 0) ∧ i ≤ N ∧ Hid (OwnT wr wo.heap.size (.slice a n c) (o.phTo S p y)) ∧ Hid (Below wo.heap.size wo wr)) (fun _ _ yv _ => R - (intOf yv).toNat)
      case atStart => exact ⟨0, i, _, 0, 0, rfl, rfl, rfl, Nat.zero_le _, HI, hiN, ownT_made _ _ (Nat.le_refl _), (Below.refl _ _).alloc (Nat.le_refl _) _⟩
      case round =>
        clear r0 r1 r2 r3 r4 r5 HI hiN
        obtain ⟨y, i, a2, n2, c2, rfl, rfl, rfl, hy, HI, hiN, HT, HBy⟩ := hrel
        have HBo := hid (HB.out.trans (HBy.out.mono HB.out.size))
        obtain ⟨r0, r1, r2, r3, r4, r5⟩ := HRD.out _ HBo.out
        rename World => wy
        by_cases hly : y < R
        · go_wp2
          go_loopw [8, 12, 13] (fun iv v xv wr => ∃ (x i : Nat) (t : ByteArray), xv = .int .i64 x ∧ iv = .int .i64 i ∧ v = .string t ∧ t.size ≤ 16 ∧ x ≤ s.size ∧ Hid (i = (p * R + y) * s.size + x) ∧ i ≤ N ∧ Hid (t = strB (Ov.rowTo S p y x)) ∧ wr = wy) (fun _ _ xv _ => s.size - (intOf xv).toNat)
          case atStart => exact ⟨0, i, _, rfl, rfl, rfl, by decide, Nat.zero_le _, HI, hiN, rfl, rfl⟩
          case round =>
            clear HI hiN
            obtain ⟨x, i, t, rfl, rfl, rfl, ht, hx, HI, hiN, HTT, rfl⟩ := hrel
            by_cases hlx : x < s.size
            · have e2 : i < o.N := by
                rw [HI.out, HR.out, HC.out]
                exact at_lt o p x y (by rw [← HP.out]; exact hlp) (by rw [← HC.out]; exact hlx) (by rw [← HR.out]; exact hly)
              have hiN2 : i < N := by rw [HN.out.2]; exact e2
              obtain ⟨gl, rfl, hcell⟩ := HCL.out i (by rw [← HN.out.1]; exact hiN2)
              have hSx : Hid (decide (z ≤ l.getD i 0) = S ((p : Int), (x : Int), (y : Int))) := by
                have hps : i = o.pos ((p : Int), (x : Int), (y : Int)) := by
                  unfold Ov.pos Ov.at'
                  simp only [Int.toNat_natCast]
                  rw [← HR.out, ← HC.out, ← HI.out]
                show _ = _
                rw [HS.out]
                exact congrArg (fun k => decide (z ≤ l.getD k 0)) hps
              have e5 := ((HBW.out.trans (HBo.out.mono HBW.out.size)).cell (World.block_lt_of_cell? w _ hcell)).trans hcell
              have HTS := hid (rowTo_succ S p y x)
              have hts : t.size = x := by rw [HTT.out, strB_size, rowTo_len]
              generalize l.getD i 0 = q at *
              clear e2 hcell
              by_cases hq : z ≤ q
              · have HT2 : Hid (t ++ ⟨#[46]⟩ = strB (Ov.rowTo S p y (x + 1))) := by
                  show _ = _
                  rw [HTT.out, strB_snoc, HTS.out, ← hSx.out, decide_eq_true hq]; rfl
                go_wp2
                go_roundw
                case rel => exact ⟨x + 1, i + 1, _, by go_num, by go_num, rfl, by rw [ByteArray.size_append]; (show t.size + 1 ≤ 16); omega, by omega, by rw [HI.out]; rfl, by omega, HT2, trivial⟩
                case measure => simp [intOf]; omega
              · have HT2 : Hid (t ++ ⟨#[35]⟩ = strB (Ov.rowTo S p y (x + 1))) := by
                  show _ = _
                  rw [HTT.out, strB_snoc, HTS.out, ← hSx.out, decide_eq_false hq]; rfl
                go_wp2
                go_roundw
                case rel => exact ⟨x + 1, i + 1, _, by go_num, by go_num, rfl, by rw [ByteArray.size_append]; (show t.size + 1 ≤ 16); omega, by omega, by rw [HI.out]; rfl, by omega, HT2, trivial⟩
                case measure => simp [intOf]; omega
            · obtain rfl : x = s.size := by omega
              have HTR : Hid (t = strB (o.rowG S p y)) := by
                show _ = _
                rw [HTT.out]; unfold Ov.rowG; rw [← HC.out]; rfl
              obtain rfl : t = strB (o.rowG S p y) := HTR.out
              have hln : (o.phTo S p y).length < 1000000 := by rw [phTo_len]; omega
              have HLN := hid hln
              clear hln HTT HTR ht
              go_wp2_with (first | (at_builtin; refine wpl_app_str (o.rowG S p y) _ _ (.slice a2 n2 c2) wo.heap.size (o.phTo S p y) (by rfl) (by rfl) (by rfl) (by rfl) HT.out HLN.out HBy.out.size ?_; intro v' w7 ho7 hb7; rw [← phTo_succ] at ho7; obtain ⟨sa, sc, rfl⟩ := ownT_slice ho7; have HO7 := hid ho7; have HB7 := hid hb7; clear ho7 hb7) | fail)
              go_roundw
              case rel => exact ⟨y + 1, i, _, _, _, by go_num, rfl, rfl, by omega, by rw [HI.out, show ((p * R + (y + 1)) * s.size + 0) = (p * R + y) * s.size + s.size by rw [← Nat.add_assoc, Nat.add_mul (p * R + y) 1]; omega]; rfl, hiN, HO7, HBy.out.trans HB7.out⟩
              case measure => simp [intOf]; omega
        · obtain rfl : y = R := by omega
          have HL : Hid (o.phTo S p y = o.phG S p) := by show _ = _; unfold Ov.phG; rw [← HR.out]; rfl
          have HGy := hid (ownG_below HO.out HBy.out)
          have HTy : Hid (OwnT wy W.heap.size (.slice a2 n2 c2) (o.phG S p)) := by
            have := HT.out
            rw [HL.out] at this
            exact ownT_mono this HB.out.size
          have hln : (o.grTo S p).length < 1000000 := by rw [grTo_len]; omega
          have HLN := hid hln
          clear hln
          go_wp2_with (first | (at_builtin; refine wpl_app_row (.slice a2 n2 c2) (o.phG S p) _ _ (.slice a n c) W.heap.size (o.grTo S p) (by rfl) (by rfl) (by rfl) (by rfl) HGy.out HTy.out HLN.out HBo.out.size ?_; intro v' w7 ho7 hb7; rw [← grTo_succ] at ho7; obtain ⟨sa, sc, rfl⟩ := ownG_slice ho7; have HO7 := hid ho7; have HB7 := hid hb7; clear ho7 hb7) | fail)
          go_roundw
          case rel => exact ⟨p + 1, i, _, _, _, by go_num, rfl, rfl, by omega, by rw [HI.out, show ((p + 1) * y + 0) = p * y + y by rw [Nat.add_mul p 1]; omega], hiN, HO7, HBo.out.trans HB7.out⟩
          case measure => simp [intOf]; omega
    · obtain rfl : p = P := by omega
      have HL : Hid (o.grTo S p = o.gridOf S) := by show _ = _; unfold Ov.gridOf; rw [← HP.out]; rfl
      go_wp2
      go_ret
      refine ⟨_, rfl, ?_, HBW.out.trans (HB.out.mono HBW.out.size)⟩
      have h := HO.out
      rw [HL.out] at h
      exact ownG_mono h HBW.out.size
end Go.Proofs.YtjonbhimbhidpaaDoor

namespace Go.Proofs.YtjonbhimbhidpaaDoor
open Go.RowKit

def ints (xs : List Int) : List Value := xs.map (Value.int .i64)
theorem ints_length (xs : List Int) : (ints xs).length = xs.length := by simp [ints]
theorem ints_append (xs : List Int) (z : Int) : ints (xs ++ [z]) = ints xs ++ [.int .i64 z] := by simp [ints]
def OwnI (w : World) (B : Nat) (v : Value) (xs : List Int) : Prop := w.ownsRow B 3 1 v xs.length (ints xs)
theorem ownI_made (w : World) (B : Nat) (hB : B ≤ w.heap.size) : OwnI (w.alloc (.cells #[] 3)) B (.slice (some ⟨w.heap.size, 0, none⟩) 0 0) [] := World.ownsRow_made w #[] 0 hB (by decide) rfl
theorem ownI_slice {w : World} {B : Nat} {v : Value} {xs : List Int} (h : OwnI w B v xs) : ∃ a n c, v = .slice a n c := by
  obtain ⟨a, c, h⟩ := row_slice h
  exact ⟨a, _, c, h⟩
theorem ownI_below {w w' : World} {B : Nat} {v : Value} {xs : List Int} (h : OwnI w B v xs) (hb : Below w.heap.size w w') : OwnI w' B v xs := row_below h hb
theorem ownI_ints {w : World} {B : Nat} {v : Value} {xs : List Int} (h : OwnI w B v xs) (hl : xs.length ≤ 1000000) : IsInts w v xs := by
  obtain ⟨a, c, rfl, _, _, hc⟩ := row_cells1 h
  refine ⟨a, c, rfl, hl, fun i hi => ?_⟩
  obtain ⟨g, ha, hcell, _⟩ := hc i hi
  refine ⟨g, ha, hcell.trans ?_⟩
  simp [ints, hi]
theorem row_type {w : World} {B n size : Nat} {e : TypeId} {v : Value} {xs : List Value} (h : w.ownsRow B e size v n xs) : ∀ k, v.ownBlock = some k → ∃ cs, w.heap[k]? = some (.cells cs e) := by
  obtain ⟨_, ⟨rfl, h2⟩ | ⟨g, cap, cur, rfl, hB, hh, _⟩⟩ := h
  · intro k hk; simp [Value.ownBlock] at hk
  · intro k hk
    simp [Value.ownBlock] at hk
    subst hk
    exact ⟨_, hh⟩
/-- a row of one type stays where a row of another type has turned -/
theorem row_other {W W' : World} {B n size : Nat} {e e' : TypeId} {q : Value} {xs : List Value} {row : Option Nat} (h : W.ownsRow B e size q n xs) (hg : W.grownBy W' row) (ht : ∀ k, row = some k → ∃ cs, W.heap[k]? = some (.cells cs e')) (hne : e ≠ e') : W'.ownsRow B e size q n xs := by
  have hqt := row_type h
  refine World.ownsRow.kept h hg ?_
  cases hk : q.ownBlock with
  | none => exact .inl rfl
  | some k =>
    refine .inr fun e2 => ?_
    obtain ⟨c1, e1⟩ := hqt k hk
    obtain ⟨c2, e2⟩ := ht k e2.symm
    rw [e1] at e2
    simp only [Option.some.injEq, Obj.cells.injEq] at e2
    exact hne e2.2.1
theorem ownG_other {W W' : World} {B : Nat} {v : Value} {g : Grid} {row : Option Nat} (h : OwnG W B v g) (hg : W.grownBy W' row) (ht : ∀ k, row = some k → ∃ cs, W.heap[k]? = some (.cells cs 3)) : OwnG W' B v g := by
  obtain ⟨us, h1, h2, h3⟩ := h
  exact ⟨us, row_other h1 hg ht (by decide), h2, fun i hi => row_other (h3 i hi) hg ht (by decide)⟩
/-- append of one number, with a slice of cells that stays -/
theorem wpl_app_int {ops : Array Oper} {rest : List Oper} {o : Oper} {a : Act} {Q : Exit → Act → World → Prop} {W : World} (z : Int)
    (s x : Operand) (v : Value) (B : Nat) (xs : List Int)
    (hgd : o.guard = none) (ho : o.op = .call { callee := .builtin .append, args := #[s, x], argTypes := #[36, 36] })
    (hs : a.eval s = v) (hx : a.eval x = .slice (some ⟨W.heap.size, 0, none⟩) 1 1)
    (hown : OwnI W B v xs) (hlen : xs.length < 100000000) (hB : B ≤ W.heap.size)
    (h : ∀ v' w', OwnI w' B v' (xs ++ [z]) → Below B W w' → (∀ u B2 cs, OwnS W B2 28 u cs → OwnS w' B2 28 u cs) → wpList Tryd.prog ops Q rest (a.put o.dst v') w') :
    wpList Tryd.prog ops Q (o :: rest) a (W.alloc (.cells #[.int .i64 z] 3)) :=
  wpl_appn hgd s x 36 3 ho (.int .i64 0) 1 8 info3 rfl (by decide) Tryd.underlying36 v B xs.length (ints xs) hs hown [.int .i64 z] rfl (by simp [Value.oneCell']) hx
    (by omega) (by unfold maxLen; omega) hB
    (fun v' w' h1 h2 => h v' w' (by unfold OwnI; rw [ints_append, List.length_append]; exact h1) (((Below.refl B W).alloc hB _).trans (app_below h2 (by simp; omega) (fun k hk => (hown.lt k hk).1)))
      (fun u B2 cs hu => row_other (World.ownsRow.alloc hu _) h2.grown (fun k hk => by
        obtain ⟨cs2, hc⟩ := row_type hown k hk
        exact ⟨cs2, (Below.heap_alloc _ _ _ (hown.lt k hk).2).trans hc⟩) (by decide)))
/-- a store into an own slice of numbers -/
theorem ownI_set {w : World} {B g n c : Nat} {xs : List Int} (h : OwnI w B (.slice (some ⟨g, 0, none⟩) n c) xs) (j : Nat) (z : Int) :
    OwnI (w.setCell ⟨g, j, none⟩ (.int .i64 z)) B (.slice (some ⟨g, 0, none⟩) n c) (xs.set j z) ∧ w.grownBy (w.setCell ⟨g, j, none⟩ (.int .i64 z)) (some g) ∧ (∃ cs, w.heap[g]? = some (.cells cs 3)) ∧ B ≤ g := by
  have hn : n = xs.length := by
    obtain ⟨_, ⟨h2, h3⟩ | ⟨g', cap, cur, h2, _⟩⟩ := h
    · cases h2
    · cases h2; rfl
  subst hn
  have h2 := World.ownsRow.stored h j (.int .i64 z)
  refine ⟨?_, h2.2, ?_, (h.lt g rfl).1⟩
  · have e : ints (xs.set j z) = (ints xs).set j (.int .i64 z) := by simp [ints, List.map_set]
    have h3 := h2.1
    unfold OwnI
    rw [e, List.length_set]
    exact h3
  · exact row_type h g rfl
theorem ownI_frozen {w : World} {B g n c : Nat} {xs : List Int} (h : OwnI w B (.slice (some ⟨g, 0, none⟩) n c) xs) (j : Nat) : w.frozen? ⟨g, j, none⟩ = false := by
  have hn : n = xs.length := by
    obtain ⟨_, ⟨h2, h3⟩ | ⟨g', cap, cur, h2, _⟩⟩ := h
    · cases h2
    · cases h2; rfl
  subst hn
  exact World.ownsRow.frozenAt h j
theorem ownI_some {w : World} {B : Nat} {v : Value} {xs : List Int} (h : OwnI w B v xs) (h0 : 0 < xs.length) : ∃ g c, v = .slice (some ⟨g, 0, none⟩) xs.length c ∧ B ≤ g ∧ g < w.heap.size := by
  have hlt := h.lt
  obtain ⟨_, ⟨rfl, h3⟩ | ⟨g, cap, cur, rfl, hB, _⟩⟩ := h
  · omega
  · exact ⟨g, cap, rfl, hB, (hlt g rfl).2⟩
end Go.Proofs.YtjonbhimbhidpaaDoor
