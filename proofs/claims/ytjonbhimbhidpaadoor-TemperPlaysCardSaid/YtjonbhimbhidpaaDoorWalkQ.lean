/-
  Walks over chapter 6: the reference's Move.
-/
import Derived.Test.YtjonbhimbhidpaaDoorWalkP
namespace Go.Proofs.YtjonbhimbhidpaaDoor
open Go.RowKit

set_option maxHeartbeats 8000000 in
set_option maxRecDepth 100000 in
theorem rMove_any (vs vm vj v : Value) (o : Ov) (g : Grid) (c : Sp) (w : World) (ho : IsOv w vs vm vj o) (hok : o.Ok) (hg : IsGrid w v g) (hf : formB o.P o.R o.C g = true) (hc : o.ex c = true) :
    Calls Tryd.prog 22 #[.agg #[vs, vm, vj], v, spv c] w fun e w' => e = .returned (.int .i64 (o.move (fun d => o.ex d && inG g d) c)) ∧ Below w.heap.size w w' := by
  have HO := hid ho
  have HG := hid hg
  have HF := hid hf
  have HOK := hid hok
  have HCX := hid hc
  obtain ⟨⟨a1, c1, rfl, _, _⟩, ⟨a2, c2, rfl, hl2, hc2⟩, ⟨a3, c3, rfl, hl3, hc3⟩⟩ := ho
  have HC2 := hid hc2
  have HC3 := hid hc3
  clear hc2 hc3 hg hf
  obtain ⟨p, x, y⟩ := c
  obtain ⟨hbW, hzW, k0, k1⟩ := alloc2 w (.cells #[.slice a1 o.safe.length c1, .slice a2 o.moves.length c2, .slice a3 o.jolts.length c3] 26) (.cells #[.int .i64 p, .int .i64 x, .int .i64 y] 28)
  obtain ⟨W, hW⟩ : ∃ W, W = ((w.alloc (.cells #[.slice a1 o.safe.length c1, .slice a2 o.moves.length c2, .slice a3 o.jolts.length c3] 26)).alloc (.cells #[.int .i64 p, .int .i64 x, .int .i64 y] 28)) := ⟨_, rfl⟩
  rw [← hW] at hbW hzW k0 k1
  have HW := hid hW
  obtain ⟨M, hM⟩ : ∃ M, M = o.moves.length := ⟨_, rfl⟩
  obtain ⟨J, hJ⟩ : ∃ J, J = o.jolts.length := ⟨_, rfl⟩
  obtain ⟨P, hP⟩ : ∃ P, P = o.safe.length := ⟨_, rfl⟩
  have hM16 := hok.nm
  have hJ4 := hok.nj
  rw [← hM] at hM16 hl2 k0
  rw [← hJ] at hJ4 hl3 k0
  rw [← hP] at k0
  rw [← hP, ← hM, ← hJ]
  have HM := hid hM
  have HJ := hid hJ
  have HP := hid hP
  have HBW := hid hbW
  have HZW := hid hzW
  have K0 := hid k0
  have K1 := hid k1
  obtain ⟨S, hS⟩ : ∃ S, S = (fun d => o.ex d && inG g d) := ⟨_, rfl⟩
  rw [← hS]
  have HS := hid hS
  obtain ⟨Z, hZ⟩ : ∃ Z, Z = o.move S (p, x, y) := ⟨_, rfl⟩
  rw [← hZ]
  have HZ := hid hZ
  rw [← hP, ← hM, ← hJ] at hW
  have HW := hid hW
  have HIN := hid (ex_inR hok hc)
  have HCS := hid (fun (m : Mv) (j : Int × Int) (hm : (-5 ≤ m.2.2.1 ∧ m.2.2.1 ≤ 5) ∧ (-5 ≤ m.2.2.2 ∧ m.2.2.2 ≤ 5)) (hj : (-5 ≤ j.1 ∧ j.1 ≤ 5) ∧ (-5 ≤ j.2 ∧ j.2 ≤ 5)) (w' : World) (hw : Below w.heap.size w w') => rStep_any (.slice a1 o.safe.length c1) (.slice a2 o.moves.length c2) (.slice a3 o.jolts.length c3) o (p, x, y) m j w' (isOv_below HO.out hw) (dim_of_ok hok) HIN.out hm hj)
  rw [← hP, ← hM, ← hJ] at HCS
  unfold spv
  simp only
  clear hM hJ hP hbW hzW k0 k1 hS hZ hW hok hc
  go_enter Tryd.func22, Tryd.ntmps22
  go_wp2
  go_loopw [7] (fun v wr => ∃ i : Nat, v = .int .i64 i ∧ i ≤ M ∧ Hid ((o.moves.take i).any (o.leads S (p, x, y)) = false) ∧ Hid (Below W.heap.size W wr)) (fun v _ => M - (intOf v).toNat)
  case atStart => exact ⟨0, rfl, Nat.zero_le _, by rw [List.take_zero]; rfl, by rw [HW.out]; exact Below.refl _ _⟩
  case round =>
    obtain ⟨i, rfl, hi, HA, HB⟩ := hrel
    obtain ⟨x0, x1, x2⟩ := cells3_of ((HB.out.block w.heap.size (by rw [HZW.out]; omega)).trans K0.out)
    obtain ⟨y0, y1, y2⟩ := cells3_of ((HB.out.block (w.heap.size + 1) (by rw [HZW.out]; omega)).trans K1.out)
    have hzr : w.heap.size + 2 ≤ wr.heap.size := by have := HB.out.size; rw [HZW.out] at this; exact this
    by_cases hlt : i < M
    · have hlt' : i < o.moves.length := by rw [← HM.out]; exact hlt
      obtain ⟨gm, rfl, n0, n1, n2, n3⟩ := HC2.out i hlt'
      have em : mvAt o.moves i = o.moves[i] := by simp [mvAt, hlt']
      have lt3 := World.block_lt_of_cell? w _ n0
      have HUP := hid (HBW.out.trans (HB.out.mono HBW.out.size))
      have hmb := (mv_ok HOK.out i hlt').2.2
      have HLD : Hid (∀ b, o.leads S (p, x, y) o.moves[i] = b → ((b = true → Z = i) ∧ (b = false → (o.moves.take (i + 1)).any (o.leads S (p, x, y)) = false))) := by
        intro b hb
        refine ⟨fun h => ?_, fun h => ?_⟩
        · rw [HZ.out]; exact move_at o S _ i hlt' HA.out (hb.trans h)
        · rw [take_any_succ _ _ _ hlt', HA.out, hb, h]; rfl
      rw [em] at n0 n1 n2 n3
      generalize o.moves[i] = m at *
      obtain ⟨m0, m1, m2, m3⟩ := m
      simp only at n0 n1 n2 n3 hmb
      have N0 := hid n0
      have N1 := hid n1
      have N2 := hid n2
      have N3 := hid n3
      replace n0 := (HUP.out.cell lt3).trans n0
      replace n1 := (HUP.out.cell (p := ⟨gm, i * 4 + 1, none⟩) lt3).trans n1
      replace n2 := (HUP.out.cell (p := ⟨gm, i * 4 + 2, none⟩) lt3).trans n2
      replace n3 := (HUP.out.cell (p := ⟨gm, i * 4 + 3, none⟩) lt3).trans n3
      have hlw : gm < wr.heap.size := Nat.lt_of_lt_of_le lt3 HUP.out.size
      clear em hlt'
      go_wp2
      go_quiet (fail)
      go_wp2
      go_loopw [8, 9] (fun a kv wx => ∃ (k : Nat) (b : Bool), a = .bool b ∧ kv = .int .i64 k ∧ k ≤ J ∧ Hid (b = ((m0 == p) && (o.jolts.take k).all (fun j => S (stepOf (p, x, y) (m0, m1, m2, m3) j)))) ∧ Hid (Below W.heap.size W wx)) (fun _ kv _ => J - (intOf kv).toNat)
      case atStart => exact ⟨0, m0 == p, by simp, rfl, Nat.zero_le _, by rw [List.take_zero]; exact (Bool.and_true _).symm, below_drewN_r HB.out nq⟩
      case round =>
        clear x0 x1 x2 y0 y1 y2 hzr n0 n1 n2 n3 hlw
        obtain ⟨k, b, rfl, rfl, hk, HBB, HBx⟩ := hrel
        obtain ⟨x0, x1, x2⟩ := cells3_of ((HBx.out.block w.heap.size (by rw [HZW.out]; omega)).trans K0.out)
        obtain ⟨y0, y1, y2⟩ := cells3_of ((HBx.out.block (w.heap.size + 1) (by rw [HZW.out]; omega)).trans K1.out)
        have hzW := HZW.out
        have hzr : W.heap.size ≤ wr.heap.size := HBx.out.size
        have HUPx := hid (HBW.out.trans (HBx.out.mono HBW.out.size))
        have hlw : gm < wr.heap.size := Nat.lt_of_lt_of_le lt3 HUPx.out.size
        cases b
        · have HNX := hid ((HLD.out false (by
            have := HBB.out.symm
            unfold Ov.leads
            rw [Bool.and_eq_false_iff] at this ⊢
            exact this.imp_right (all_of_take _ _ _))).2 rfl)
          rcases Nat.lt_or_ge k J with hlk | hlk
          all_goals
            go_wp2
            go_roundw
            case rel => exact ⟨i + 1, by go_num, by omega, HNX, HBx⟩
            case measure => simp [intOf]; omega
        · by_cases hlk : k < J
          · have hlk' : k < o.jolts.length := by rw [← HJ.out]; exact hlk
            obtain ⟨gj, rfl, q0, q1⟩ := HC3.out k hlk'
            have ej : jlAt o.jolts k = o.jolts[k] := by simp [jlAt, hlk']
            have lt4 := World.block_lt_of_cell? w _ q0
            have hjb := jl_ok HOK.out k hlk'
            have HNB : Hid (∀ b, S (stepOf (p, x, y) (m0, m1, m2, m3) o.jolts[k]) = b → b = ((m0 == p) && (o.jolts.take (k + 1)).all (fun j => S (stepOf (p, x, y) (m0, m1, m2, m3) j)))) := by
              rintro b rfl
              have := HBB.out.symm
              rw [Bool.and_eq_true] at this
              rw [all_take_succ _ _ _ hlk', this.1, this.2]; rfl
            rw [ej] at q0 q1
            generalize o.jolts[k] = j at *
            obtain ⟨j0, j1⟩ := j
            simp only at q0 q1 hjb
            replace q0 := (HUPx.out.cell lt4).trans q0
            replace q1 := (HUPx.out.cell (p := ⟨gj, k * 2 + 1, none⟩) lt4).trans q1
            have n0 := (HBx.out.cell (p := ⟨gm, i * 4, none⟩) (Nat.lt_of_lt_of_le lt3 HBW.out.size)).trans ((HBW.out.cell lt3).trans N0.out)
            have n1 := (HBx.out.cell (p := ⟨gm, i * 4 + 1, none⟩) (Nat.lt_of_lt_of_le lt3 HBW.out.size)).trans ((HBW.out.cell (p := ⟨gm, i * 4 + 1, none⟩) lt3).trans N1.out)
            have n2 := (HBx.out.cell (p := ⟨gm, i * 4 + 2, none⟩) (Nat.lt_of_lt_of_le lt3 HBW.out.size)).trans ((HBW.out.cell (p := ⟨gm, i * 4 + 2, none⟩) lt3).trans N2.out)
            have n3 := (HBx.out.cell (p := ⟨gm, i * 4 + 3, none⟩) (Nat.lt_of_lt_of_le lt3 HBW.out.size)).trans ((HBW.out.cell (p := ⟨gm, i * 4 + 3, none⟩) lt3).trans N3.out)
            have cs := HCS.out (m0, m1, m2, m3) (j0, j1) hmb hjb
            have HST : Hid (S (stepOf (p, x, y) (m0, m1, m2, m3) (j0, j1)) = (o.ex (stepOf (p, x, y) (m0, m1, m2, m3) (j0, j1)) && inG g (stepOf (p, x, y) (m0, m1, m2, m3) (j0, j1)))) := by rw [HS.out]; exact rfl
            have CI := hid (fun (h : o.ex (stepOf (p, x, y) (m0, m1, m2, m3) (j0, j1)) = true) (w' : World) (hw : Below w.heap.size w w') => rIn_any v g o (stepOf (p, x, y) (m0, m1, m2, m3) (j0, j1)) w' (isGrid_below HG.out hw) HOK.out HF.out h)
            generalize S (stepOf (p, x, y) (m0, m1, m2, m3) (j0, j1)) = sv at *
            generalize inG g (stepOf (p, x, y) (m0, m1, m2, m3) (j0, j1)) = iv at *
            generalize o.ex (stepOf (p, x, y) (m0, m1, m2, m3) (j0, j1)) = tv at *
            simp only [spv, mvv, jlv, stepOf] at cs
            have cs := hid cs
            have HMB := hid hmb
            have HJB := hid hjb
            simp only [spv, stepOf] at CI
            have hlj : gj < wr.heap.size := Nat.lt_of_lt_of_le lt4 HUPx.out.size
            clear ej hlk' HBB HCS hmb hjb
            go_wp2
            have l0 : w.heap.size < wr.heap.size := by omega
            have l1 : w.heap.size + 1 < wr.heap.size := by omega
            have KEEP : Hid (∀ w', Below wr.heap.size wr w' → w'.cell? ⟨w.heap.size, 0, none⟩ = some (.slice a1 P c1) ∧ w'.cell? ⟨w.heap.size, 1, none⟩ = some (.slice (some ⟨gm, 0, none⟩) M c2) ∧ w'.cell? ⟨w.heap.size, 2, none⟩ = some (.slice (some ⟨gj, 0, none⟩) J c3) ∧ w'.cell? ⟨w.heap.size + 1, 0, none⟩ = some (.int .i64 p) ∧ w'.cell? ⟨w.heap.size + 1, 1, none⟩ = some (.int .i64 x) ∧ w'.cell? ⟨w.heap.size + 1, 2, none⟩ = some (.int .i64 y) ∧ w'.cell? ⟨gm, i * 4, none⟩ = some (.int .i64 m0) ∧ w'.cell? ⟨gm, i * 4 + 1, none⟩ = some (.int .i64 m1) ∧ w'.cell? ⟨gm, i * 4 + 2, none⟩ = some (.int .i64 m2) ∧ w'.cell? ⟨gm, i * 4 + 3, none⟩ = some (.int .i64 m3) ∧ w'.cell? ⟨gj, k * 2, none⟩ = some (.int .i64 j0) ∧ w'.cell? ⟨gj, k * 2 + 1, none⟩ = some (.int .i64 j1) ∧ Hid (Below wr.heap.size wr w')) := fun w' hb => ⟨(hb.cell l0).trans x0, (hb.cell (p := ⟨_, 1, none⟩) l0).trans x1, (hb.cell (p := ⟨_, 2, none⟩) l0).trans x2, (hb.cell l1).trans y0, (hb.cell (p := ⟨_, 1, none⟩) l1).trans y1, (hb.cell (p := ⟨_, 2, none⟩) l1).trans y2, (hb.cell (p := ⟨_, i * 4, none⟩) hlw).trans n0, (hb.cell (p := ⟨_, i * 4 + 1, none⟩) hlw).trans n1, (hb.cell (p := ⟨_, i * 4 + 2, none⟩) hlw).trans n2, (hb.cell (p := ⟨_, i * 4 + 3, none⟩) hlw).trans n3, (hb.cell (p := ⟨_, k * 2, none⟩) hlj).trans q0, (hb.cell (p := ⟨_, k * 2 + 1, none⟩) hlj).trans q1, hb⟩
            go_cut [10, 11] (fun v10 v11 wx => ∃ bx, v10 = .pointer (some ⟨bx, 0, none⟩) ∧ v11 = .bool tv ∧ wx.heap[bx]? = some (.cells #[.int .i64 m1, .int .i64 (x + m2 + j0), .int .i64 (y + m3 + j1)] 28) ∧ Hid (Below wr.heap.size wr wx))
            case first =>
              go_region_held3 (fun w' => w'.cell? ⟨w.heap.size, 0, none⟩ = some (.slice a1 P c1) ∧ w'.cell? ⟨w.heap.size, 1, none⟩ = some (.slice (some ⟨gm, 0, none⟩) M c2) ∧ w'.cell? ⟨w.heap.size, 2, none⟩ = some (.slice (some ⟨gj, 0, none⟩) J c3) ∧ w'.cell? ⟨w.heap.size + 1, 0, none⟩ = some (.int .i64 p) ∧ w'.cell? ⟨w.heap.size + 1, 1, none⟩ = some (.int .i64 x) ∧ w'.cell? ⟨w.heap.size + 1, 2, none⟩ = some (.int .i64 y) ∧ w'.cell? ⟨gm, i * 4, none⟩ = some (.int .i64 m0) ∧ w'.cell? ⟨gm, i * 4 + 1, none⟩ = some (.int .i64 m1) ∧ w'.cell? ⟨gm, i * 4 + 2, none⟩ = some (.int .i64 m2) ∧ w'.cell? ⟨gm, i * 4 + 3, none⟩ = some (.int .i64 m3) ∧ w'.cell? ⟨gj, k * 2, none⟩ = some (.int .i64 j0) ∧ w'.cell? ⟨gj, k * 2 + 1, none⟩ = some (.int .i64 j1) ∧ Hid (Below wr.heap.size wr w'))
                ((refine KEEP.out _ ?_; repeat (first | exact Below.refl _ _ | exact BW1.out | (apply Hid.out; assumption) | refine Below.drew ?_ | refine below_drewN_r ?_ _ | refine Below.alloc ?_ (by first | omega | (simp; done) | (simp; omega)) _ | refine Below.setCell ?_ (by first | omega | (simp; done) | (simp; omega)) _)))
                ((first | (go_at_call 30; refine Calls.mono (cs.out _ (HUPx.out.trans (Below.mono (by repeat (first | exact Below.refl _ _ | exact BW1.out | (apply Hid.out; assumption) | refine Below.drew ?_ | refine below_drewN_r ?_ _ | refine Below.alloc ?_ (by first | omega | (simp; done) | (simp; omega)) _ | refine Below.setCell ?_ (by first | omega | (simp; done) | (simp; omega)) _)) HUPx.out.size))) ?_; rintro e w3 ⟨rfl, hb3⟩; have hz : ∀ X : World, X.drew.heap = X.heap := (fun _ => rfl); have BW1 : Hid (Below wr.heap.size wr w3) := (by refine Below.trans (b := _) ?_ (hb3.mono (by simp only [hz, World.size_alloc]; omega)); repeat (first | exact Below.refl _ _ | exact BW1.out | (apply Hid.out; assumption) | refine Below.drew ?_ | refine below_drewN_r ?_ _ | refine Below.alloc ?_ (by first | omega | (simp; done) | (simp; omega)) _ | refine Below.setCell ?_ (by first | omega | (simp; done) | (simp; omega)) _)); have hsz3 := hb3.size; simp only [hz, World.size_alloc] at hsz3; have z0 := fun hg => hb3.cell (p := ⟨wr.heap.size, 0, none⟩) hg; have z1 := fun hg => hb3.cell (p := ⟨wr.heap.size, 1, none⟩) hg; have z2 := fun hg => hb3.cell (p := ⟨wr.heap.size, 2, none⟩) hg; have f0 := fun hg => hb3.frozen (p := ⟨wr.heap.size, 0, none⟩) hg; have f1 := fun hg => hb3.frozen (p := ⟨wr.heap.size, 1, none⟩) hg; have f2 := fun hg => hb3.frozen (p := ⟨wr.heap.size, 2, none⟩) hg; simp [hz, go_sem] at z0 z1 z2 f0 f1 f2; have hb3 := hid hb3)))
              all_goals (go_wp2_with fail; go_meet)
              all_goals refine ⟨_, rfl, rfl, ?_, ?_⟩
              all_goals first | ((repeat (first | exact Below.refl _ _ | exact BW1.out | (apply Hid.out; assumption) | refine Below.drew ?_ | refine below_drewN_r ?_ _ | refine Below.alloc ?_ (by first | omega | (simp; done) | (simp; omega)) _ | refine Below.setCell ?_ (by first | omega | (simp; done) | (simp; omega)) _)); done) | ((repeat (first | with_reducible rfl | ((with_reducible refine heap_alloc_at ?_); focus (first | with_reducible rfl | (simp; done) | (simp; omega))) | ((with_reducible refine (Below.heap_alloc _ _ _ ?_).trans ?_); focus (first | omega | (simp; done) | (simp; omega))) | (with_reducible refine store3 (a := .int .i64 0) (b := .int .i64 0) (c := .int .i64 0) ?_) | (with_reducible refine (heap_drew _ _).trans ?_) | ((with_reducible refine (hb3.out.block _ ?_).trans ?_); focus (first | omega | (simp; done) | (simp; omega))))); done)
            case rest =>
              obtain ⟨bx, rfl, rfl, hbx, HBc⟩ := hcut
              obtain ⟨d0, d1, d2⟩ := cells3_of hbx
              have HBn := hid (HBx.out.trans (HBc.out.mono HBx.out.size))
              clear hbx KEEP cs x0 x1 x2 y0 y1 y2 n0 n1 n2 n3 q0 q1 l0 l1 hlj hlw
              cases tv
              · have HNX := hid (HNB.out false (by rw [HST.out, Bool.false_and]))
                go_wp2
                go_roundw
                case rel => exact ⟨k + 1, false, rfl, by go_num, by omega, HNX, HBn⟩
                case measure => simp [intOf]; omega
              · have HNX := hid (HNB.out iv (by rw [HST.out, Bool.true_and]))
                have hci := hid (CI.out rfl wc (HBW.out.trans (HBn.out.mono HBW.out.size)))
                go_wp2_with (first | (go_at_call 29; refine (hci.out).mono ?_; rintro e w6 ⟨rfl, hb6⟩; have HB6 := hid hb6; clear hb6) | fail)
                go_roundw
                case rel => exact ⟨k + 1, iv, rfl, by go_num, by omega, HNX, HBn.out.trans (HB6.out.mono HBn.out.size)⟩
                case measure => simp [intOf]; omega
          · obtain rfl : k = J := by omega
            have hzz : Z = i := (HLD.out true (by
              have := HBB.out.symm
              rw [HJ.out, List.take_of_length_le (Nat.le_refl _)] at this
              unfold Ov.leads; exact this)).1 rfl
            subst hzz
            go_wp2
            go_ret
            exact ⟨rfl, HUPx.out⟩
    · obtain rfl : i = M := by omega
      have hzz : Z = -1 := by
        rw [HZ.out]
        refine move_none o S _ ?_
        have := HA.out
        rwa [HM.out, List.take_of_length_le (Nat.le_refl _)] at this
      subst hzz
      go_wp2
      go_ret
      exact ⟨rfl, HBW.out.trans (HB.out.mono HBW.out.size)⟩
end Go.Proofs.YtjonbhimbhidpaaDoor
