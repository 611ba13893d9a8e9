/-
  Walks over chapter 6: the reference's Form and Valid.
-/
import Derived.Test.YtjonbhimbhidpaaDoorWalkM
namespace Go.Proofs.YtjonbhimbhidpaaDoor
open Go.RowKit

set_option maxHeartbeats 4000000 in
set_option maxRecDepth 100000 in
theorem form_any (vs vm vj u : Value) (o : Ov) (g : Grid) (w : World) (ho : IsOv w vs vm vj o) (hd : o.Dim) (hg : IsGrid w u g) (hs : ShortG g) :
    Calls Tryd.prog 37 #[.agg #[vs, vm, vj], u] w fun e w' => e = .returned (.bool (formB o.P o.R o.C g)) ∧ Below w.heap.size w w' := by
  obtain ⟨ga, ca, gb, cb, rfl, hc0, hc9⟩ := first_row ho.safe hd.p
  obtain ⟨k, rfl, hc1⟩ := hc9 hd.r
  clear hc9
  obtain ⟨hp1, hr1, hpm, hrm, hcm⟩ := hd
  obtain ⟨P, hP⟩ : ∃ P, P = o.P := ⟨_, rfl⟩
  obtain ⟨R, hR⟩ : ∃ R, R = o.R := ⟨_, rfl⟩
  obtain ⟨C, hC⟩ : ∃ C, C = (strB ((o.safe.getD 0 []).getD 0 [])).size := ⟨_, rfl⟩
  have hC2 : C = o.C := by rw [hC, strB_size]; rfl
  rw [show o.safe.length = P from hP.symm]
  rw [show (o.safe.getD 0 []).length = R from hR.symm] at hc0
  rw [← hP] at hpm hp1 ⊢
  rw [← hR] at hrm hr1 ⊢
  rw [← hC2] at hcm ⊢
  have hl0 := World.block_lt_of_cell? w _ hc0
  have hl1 := World.block_lt_of_cell? w _ hc1
  simp only at hl0 hl1
  generalize strB ((o.safe.getD 0 []).getD 0 []) = s at *
  subst hC
  clear hP hR hC2 ho
  obtain ⟨a, cu, rfl, hl, hcg⟩ := hg
  have HC := hid hcg
  have HS := hid hs
  obtain ⟨hbW, hzW⟩ : Below w.heap.size w (w.alloc (.cells #[.slice (some ⟨ga, 0, none⟩) P ca, vm, vj] 26)) ∧ True := ⟨(Below.refl _ _).alloc (Nat.le_refl _) _, trivial⟩
  have hbx := heap_alloc_new w (.cells #[.slice (some ⟨ga, 0, none⟩) P ca, vm, vj] 26)
  have hszW : (w.alloc (.cells #[.slice (some ⟨ga, 0, none⟩) P ca, vm, vj] 26)).heap.size = w.heap.size + 1 := by simp
  obtain ⟨W, hW⟩ : ∃ W, W = (w.alloc (.cells #[.slice (some ⟨ga, 0, none⟩) P ca, vm, vj] 26)) := ⟨_, rfl⟩
  have HW := hid hW
  rw [← hW] at hbW hbx hszW
  have HBW := hid hbW
  have HBX := hid hbx
  have HSZ := hid hszW
  clear hcg hs hzW hbW hbx hW hszW
  by_cases hlen : g.length = P
  · subst hlen
    obtain ⟨F, hF⟩ : ∃ F, F = formB g.length R s.size g := ⟨_, rfl⟩
    rw [← hF]
    have HF : Hid (F = g.all (phaseOk R s.size)) := by rw [hF]; simp [formB, Hid]
    obtain ⟨N, hN⟩ : ∃ N, N = g.length := ⟨_, rfl⟩
    have HN := hid hN
    rw [← hN] at hl hp1 hpm HW HBX ⊢
    clear hF hN
    go_enter Tryd.func37, Tryd.ntmps37
    go_wp2
    go_loopw [5] (fun v wr => ∃ i : Nat, v = .int .i64 i ∧ i ≤ N ∧ Hid ((g.take i).all (phaseOk R s.size) = true) ∧ Hid (Below W.heap.size W wr)) (fun v _ => N - (intOf v).toNat)
    case atStart => exact ⟨0, rfl, Nat.zero_le _, by rw [List.take_zero]; rfl, by rw [HW.out]; exact Below.refl _ _⟩
    case round =>
      obtain ⟨i, rfl, hi, HA, HB⟩ := hrel
      by_cases hlt : i < N
      · have hlt' : i < g.length := by rw [← HN.out]; exact hlt
        obtain ⟨gu, ui, rfl, hcell, hst⟩ := HC.out i hlt'
        obtain ⟨p, hp⟩ : ∃ p, p = g.getD i [] := ⟨_, rfl⟩
        have hpe : g[i] = p := by rw [hp]; simp [hlt']
        rw [← hp] at hst
        have HUP := hid (HBW.out.trans (HB.out.mono HBW.out.size))
        have HST := hid (isStrs_below hst HUP.out)
        have hsp : ∀ s ∈ p, s.length ≤ 1000 := by have := HS.out g[i] (List.getElem_mem hlt'); rwa [hpe] at this
        have HA2 : Hid (∀ b, phaseOk R s.size p = b → (g.take (i + 1)).all (phaseOk R s.size) = b ∧ (b = false → F = false)) := by
          intro b hb
          have e : (g.take (i + 1)).all (phaseOk R s.size) = b := by rw [all_take_succ _ _ _ hlt', HA.out, hpe, hb]; rfl
          refine ⟨e, ?_⟩
          rintro rfl
          rw [HF.out, all_of_take _ _ _ e]
        obtain ⟨ap, cp, rfl, hlp, _⟩ := hst
        have e0 := (HUP.out.cell (World.block_lt_of_cell? w _ hcell)).trans hcell
        have e1 := (HUP.out.cell (World.block_lt_of_cell? w _ hc0)).trans hc0
        have e2 := (HUP.out.cell (World.block_lt_of_cell? w _ hc1)).trans hc1
        obtain ⟨e3, _⟩ := cells3_of ((HB.out.block w.heap.size (by rw [HSZ.out]; exact Nat.lt_succ_self _)).trans HBX.out)
        have HSP := hid hsp
        clear hp hpe hlt' hcell HA hsp hl0 hl1
        obtain ⟨M, hM⟩ : ∃ M, M = p.length := ⟨_, rfl⟩
        rw [← hM] at e0 hlp HST
        by_cases h2 : M = R
        · subst h2
          have q := fun x => hid (rows_any (.slice ap M cp) p s.size (wr.drewN x) HST.out HSP.out hcm)
          cases hr : rowsOk s.size p
          · rw [hr] at q
            have h4 := (HA2.out false (by unfold phaseOk; rw [hr, Bool.and_false])).2 rfl
            subst h4
            clear hr hM
            go_wp2
            go_quiet ((go_at_call 57; with_reducible exact quiet_one ((q _).out)))
            go_wp2
            go_ret
            exact ⟨rfl, below_drewN_r (HBW.out.trans (HB.out.mono HBW.out.size)) nq⟩
          · rw [hr] at q
            have H4 := hid (HA2.out true (by unfold phaseOk; rw [hr, Bool.and_true]; exact decide_eq_true hM.symm)).1
            clear hr hM
            go_wp2
            go_quiet ((go_at_call 57; with_reducible exact quiet_one ((q _).out)))
            go_wp2
            go_roundw
            case rel => exact ⟨i + 1, by go_num, by omega, H4, below_drewN_r HB.out nq⟩
            case measure => simp [intOf]; omega
        · have h4 := (HA2.out false (by unfold phaseOk; rw [decide_eq_false (fun e => h2 (hM.trans e)), Bool.false_and])).2 rfl
          subst h4
          have d : (((M : Nat) : Int) != ((R : Nat) : Int)) = true := by simp; omega
          have D := hid d
          clear d h2 hM
          go_wp2
          have d := D.out
          go_quiet (fail)
          go_wp2
          go_ret
          exact ⟨rfl, below_drewN_r (HBW.out.trans (HB.out.mono HBW.out.size)) nq⟩
      · obtain rfl : i = N := by omega
        have h4 : F = true := by
          have := HA.out
          rw [HN.out, List.take_of_length_le (Nat.le_refl _)] at this
          rw [HF.out, this]
        subst h4
        go_wp2
        go_ret
        exact ⟨rfl, HBW.out.trans (HB.out.mono HBW.out.size)⟩
  · have hF : formB P R s.size g = false := by simp [formB, hlen]
    rw [hF]
    clear hF
    go_enter Tryd.func37, Tryd.ntmps37
    go_wp2
    go_ret
    exact ⟨rfl, (Below.refl _ _).alloc (Nat.le_refl _) _⟩
end Go.Proofs.YtjonbhimbhidpaaDoor
