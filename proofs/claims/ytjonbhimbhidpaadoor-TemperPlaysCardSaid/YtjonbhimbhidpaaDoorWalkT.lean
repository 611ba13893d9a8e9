/-
  Walks over chapter 6: the reference's Same.
-/
import Derived.Test.YtjonbhimbhidpaaDoorWalkM
namespace Go.Proofs.YtjonbhimbhidpaaDoor
open Go.RowKit

theorem strB_inj {a b : Str} (h : strB a = strB b) : a = b := by
  have := congrArg (fun s : ByteArray => s.data.toList) h
  simpa [strB] using this
theorem strB_toList (l : Str) : (strB l).toList = l := by
  show (⟨⟨l⟩⟩ : ByteArray).toList = l
  simp
theorem strB_beq {a b : Str} (h : a ≠ b) : ((strB a).toList == (strB b).toList) = false := by
  rw [strB_toList, strB_toList]
  exact beq_false_of_ne h
theorem take_succ_eq {α : Type} {a b : List α} {i : Nat} (ha : i < a.length) (hb : i < b.length) (h : a.take i = b.take i) (h2 : a[i] = b[i]) : a.take (i + 1) = b.take (i + 1) := by
  rw [List.take_add_one, List.take_add_one, h]
  simp [ha, hb, h2]

set_option maxHeartbeats 4000000 in
set_option maxRecDepth 100000 in
theorem rSame_any (va vb : Value) (a b : Grid) (w : World) (ha : IsGrid w va a) (hb : IsGrid w vb b) :
    Calls Tryd.prog 31 #[va, vb] w fun e w' => e = .returned (.bool (decide (a = b))) ∧ Below w.heap.size w w' := by
  obtain ⟨aa, ca, rfl, hla, hca⟩ := ha
  obtain ⟨ab, cb, rfl, hlb, hcb⟩ := hb
  have HA := hid hca
  have HB := hid hcb
  clear hca hcb
  obtain ⟨F, hF⟩ : ∃ F, F = decide (a = b) := ⟨_, rfl⟩
  rw [← hF]
  by_cases hlen : a.length = b.length
  · obtain ⟨N, hN⟩ : ∃ N, N = a.length := ⟨_, rfl⟩
    rw [← hN] at hla ⊢
    rw [show b.length = N by omega] at hlb ⊢
    have HN := hid hN
    have HN2 : Hid (N = b.length) := hN.trans hlen
    have HF := hid hF
    clear hF hN hlen
    go_enter Tryd.func31, Tryd.ntmps31
    go_wp2
    go_loopw [5] (fun v wr => ∃ i : Nat, v = .int .i64 i ∧ i ≤ N ∧ Hid (a.take i = b.take i) ∧ Hid (Below w.heap.size w wr)) (fun v _ => N - (intOf v).toNat)
    case atStart => exact ⟨0, rfl, Nat.zero_le _, rfl, Below.refl _ _⟩
    case round =>
      obtain ⟨i, rfl, hi, HT, HBe⟩ := hrel
      by_cases hlt : i < N
      · have ha' : i < a.length := by rw [← HN.out]; exact hlt
        have hb' : i < b.length := by rw [← HN2.out]; exact hlt
        obtain ⟨ga, ua, rfl, qa, sa⟩ := HA.out i ha'
        obtain ⟨gb, ub, rfl, qb, sb⟩ := HB.out i hb'
        rw [show a.getD i [] = a[i] by simp [ha']] at sa
        rw [show b.getD i [] = b[i] by simp [hb']] at sb
        have HNE : Hid (a[i] ≠ b[i] → F = false) := by
          intro h
          rw [HF.out]
          refine decide_eq_false fun e => h ?_
          subst e; rfl
        have HEQ : Hid (a[i] = b[i] → a.take (i + 1) = b.take (i + 1)) := fun h => take_succ_eq ha' hb' HT.out h
        generalize a[i] = ra at *
        generalize b[i] = rb at *
        obtain ⟨a2, c2, rfl, hl2, hs2⟩ := sa
        obtain ⟨a3, c3, rfl, hl3, hs3⟩ := sb
        have HSA := hid hs2
        have HSB := hid hs3
        have e0 := (HBe.out.cell (World.block_lt_of_cell? w _ qa)).trans qa
        have e1 := (HBe.out.cell (World.block_lt_of_cell? w _ qb)).trans qb
        clear ha' hb' hs2 hs3 HT
        by_cases h2 : ra.length = rb.length
        · obtain ⟨M, hM⟩ : ∃ M, M = ra.length := ⟨_, rfl⟩
          rw [← hM] at hl2 e0
          rw [show rb.length = M by omega] at hl3 e1
          have HM := hid hM
          have HM2 : Hid (M = rb.length) := hM.trans h2
          clear hM h2
          go_wp2
          go_quiet (fail)
          go_wp2
          clear e0 e1
          go_loopw [6] (fun v wr2 => ∃ y : Nat, v = .int .i64 y ∧ y ≤ M ∧ Hid (ra.take y = rb.take y) ∧ Hid (Below w.heap.size w wr2)) (fun v _ => M - (intOf v).toNat)
          case atStart => exact ⟨0, rfl, Nat.zero_le _, rfl, below_drewN_r HBe.out nq⟩
          case round =>
            obtain ⟨y, rfl, hy, HT, HBy⟩ := hrel
            have e0 := (HBy.out.cell (World.block_lt_of_cell? w _ qa)).trans qa
            have e1 := (HBy.out.cell (World.block_lt_of_cell? w _ qb)).trans qb
            rw [← HM.out] at e0
            rw [← HM2.out] at e1
            by_cases hly : y < M
            · have hya : y < ra.length := by rw [← HM.out]; exact hly
              have hyb : y < rb.length := by rw [← HM2.out]; exact hly
              obtain ⟨g2, rfl, p2⟩ := HSA.out y hya
              obtain ⟨g3, rfl, p3⟩ := HSB.out y hyb
              rw [show ra.getD y [] = ra[y] by simp [hya]] at p2
              rw [show rb.getD y [] = rb[y] by simp [hyb]] at p3
              have e2 := (HBy.out.cell (World.block_lt_of_cell? w _ p2)).trans p2
              have e3 := (HBy.out.cell (World.block_lt_of_cell? w _ p3)).trans p3
              have HNE2 : Hid (ra[y] ≠ rb[y] → F = false) := by
                intro h
                refine HNE.out fun e => h ?_
                subst e; rfl
              have HEQ2 : Hid (ra[y] = rb[y] → ra.take (y + 1) = rb.take (y + 1)) := fun h => take_succ_eq hya hyb HT.out h
              clear p2 p3
              generalize ra[y] = s at *
              generalize rb[y] = t at *
              clear hya hyb HT
              by_cases hst : s = t
              · have H2 := hid (HEQ2.out hst)
                subst hst
                clear HNE2 HEQ2
                go_wp2
                go_quiet (fail)
                go_wp2
                go_roundw
                case rel => exact ⟨y + 1, by go_num, by omega, H2, below_drewN_r HBy.out nq⟩
                case measure => simp [intOf]; omega
              · have hf := HNE2.out hst
                subst hf
                have d := strB_beq hst
                clear hst HNE2 HEQ2
                go_wp2
                go_quiet (fail)
                go_wp2
                go_ret
                exact ⟨rfl, below_drewN_r HBy.out nq⟩
            · obtain rfl : y = M := by omega
              have H2 := hid (HEQ.out (by
                have := HT.out
                rw [List.take_of_length_le (by rw [← HM.out]; exact Nat.le_refl _), List.take_of_length_le (by rw [← HM2.out]; exact Nat.le_refl _)] at this
                exact this))
              go_wp2
              go_roundw
              case rel => exact ⟨i + 1, by go_num, by omega, H2, HBy⟩
              case measure => simp [intOf]; omega
        · have hf := HNE.out (fun e => h2 (by rw [e]))
          subst hf
          have d : (((ra.length : Nat) : Int) != ((rb.length : Nat) : Int)) = true := by simp; omega
          have D := hid d
          clear d h2
          go_wp2
          have d := D.out
          go_quiet (fail)
          go_wp2
          go_ret
          exact ⟨rfl, below_drewN_r HBe.out nq⟩
      · obtain rfl : i = N := by omega
        have hf : F = true := by
          rw [HF.out]
          refine decide_eq_true ?_
          have := HT.out
          rwa [List.take_of_length_le (by rw [← HN.out]; exact Nat.le_refl _), List.take_of_length_le (by rw [← HN2.out]; exact Nat.le_refl _)] at this
        subst hf
        go_wp2
        go_ret
        exact ⟨rfl, HBe.out⟩
  · have hf : F = false := by rw [hF]; exact decide_eq_false (fun e => hlen (by rw [e]))
    subst hf
    clear hF
    go_enter Tryd.func31, Tryd.ntmps31
    go_wp2
    go_ret
    exact ⟨rfl, Below.refl _ _⟩
end Go.Proofs.YtjonbhimbhidpaaDoor
