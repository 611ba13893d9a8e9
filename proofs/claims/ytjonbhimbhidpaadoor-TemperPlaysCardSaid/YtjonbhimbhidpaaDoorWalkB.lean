/-
  Walks over chapter 6: leads, move: of any test that is a closure with a contract.
-/
import Derived.Test.YtjonbhimbhidpaaDoorWalkA
namespace Go.Proofs.YtjonbhimbhidpaaDoor
open Go.RowKit

theorem below_drewN' (B : Nat) (w : World) (n : Nat) : Below B w (w.drewN n) := ⟨rfl, rfl, rfl, Nat.le_refl _, fun _ _ => rfl⟩
theorem below_drewN_r {B : Nat} {w w' : World} (h : Below B w w') (n : Nat) : Below B w (w'.drewN n) := h.trans (below_drewN' _ _ _)

theorem all_take_succ {α : Type} (f : α → Bool) (xs : List α) (k : Nat) (h : k < xs.length) : (xs.take (k + 1)).all f = ((xs.take k).all f && f xs[k]) := by
  rw [List.take_add_one, List.all_append]
  simp [h]
theorem all_of_take {α : Type} (f : α → Bool) (xs : List α) (k : Nat) (h : (xs.take k).all f = false) : xs.all f = false := by
  rw [← List.take_append_drop k xs, List.all_append, h]; rfl

/-- the closure g, with what it has captured, tells whether a cell is in S, in every world that has grown out of W0 -/
def TestC (W0 : World) (g : FuncId) (lb : Array Value) (S : Sp → Bool) : Prop :=
  (∀ args w, (callFunc g args).run Tryd.prog w = .ok (.enter g args) w) ∧
  ∀ W d, Below W0.heap.size W0 W → InR d → Calls Tryd.prog g (#[spv d] ++ lb) W fun e W' => e = .returned (.bool (S d)) ∧ Below W.heap.size W W'

set_option maxHeartbeats 1000000 in
set_option maxRecDepth 100000 in
theorem leads_any (b : Nat) (vs vm vj : Value) (o : Ov) (c : Sp) (m : Nat) (g : FuncId) (lb : Array Value) (S : Sp → Bool) (w : World) (ho : OvAt w b vs vm vj o) (hok : o.Ok) (hm : m < o.moves.length) (hc : o.ex c = true)
    (ht : TestC w g lb S) :
    Calls Tryd.prog 66 #[.pointer (some ⟨b, 0, none⟩), spv c, .int .i64 m, .func (.func g) #[] lb] w fun e w' => e = .returned (.bool (o.leads S c o.moves[m])) ∧ Below w.heap.size w w' := by
  have ho0 := ho
  obtain ⟨⟨hs, ⟨am, cm, rfl, hml, hmc⟩, ⟨aj, cj, rfl, hjl, hjc⟩⟩, c0, c1, c2, c3, c4⟩ := ho
  obtain ⟨gm, rfl, m0, m1, m2, m3⟩ := hmc m hm
  have bm := mv_ok hok m hm
  have em : mvAt o.moves m = o.moves[m] := by simp [mvAt, hm]
  rw [em] at m0 m1 m2 m3
  obtain ⟨p, x, y⟩ := c
  unfold spv
  simp only
  have HOC := hid ho0
  have HT := hid ht
  have HJ := hid hjc
  have HM := hid hmc
  clear ho0 ht hjc hmc
  obtain ⟨R, hR⟩ : ∃ R, R = o.leads S (p, x, y) o.moves[m] := ⟨_, rfl⟩
  rw [← hR]
  have HR := hid hR
  clear hR
  go_enter Tryd.func66, Tryd.ntmps66
  go_wp2
  have hb0 : Below w.heap.size w (w.alloc (Obj.cells #[Value.int IntKind.i64 p, Value.int IntKind.i64 x, Value.int IntKind.i64 y] 87)) := (Below.refl _ _).alloc (Nat.le_refl _) _
  have hc0 : (w.alloc (Obj.cells #[Value.int IntKind.i64 p, Value.int IntKind.i64 x, Value.int IntKind.i64 y] 87)).heap[w.heap.size]? = some (Obj.cells #[Value.int IntKind.i64 p, Value.int IntKind.i64 x, Value.int IntKind.i64 y] 87) := heap_alloc_new _ _
  have hsz : (w.alloc (Obj.cells #[Value.int IntKind.i64 p, Value.int IntKind.i64 x, Value.int IntKind.i64 y] 87)).heap.size = w.heap.size + 1 := by simp
  obtain ⟨W, hW⟩ : ∃ W, W = (w.alloc (Obj.cells #[Value.int IntKind.i64 p, Value.int IntKind.i64 x, Value.int IntKind.i64 y] 87)) := ⟨_, rfl⟩
  rw [← hW] at hb0 hc0 hsz ⊢
  clear hW
  obtain ⟨q0, q1, q2⟩ := cells3_of hc0
  have HB0 := hid hb0
  have HOW := hid (ovAt_below HOC.out hb0)
  have e1 := HOW.out.c1
  have e2 := HOW.out.c2
  have em0 := (hb0.cell (World.block_lt_of_cell? w _ m0)).trans m0
  obtain ⟨N, hN⟩ : ∃ N, N = o.jolts.length := ⟨_, rfl⟩
  obtain ⟨M, hM⟩ : ∃ M, M = o.moves[m] := ⟨_, rfl⟩
  rw [← hM] at em0 bm
  rw [← hN] at e2 hjl
  clear hb0 hc0 m0 m1 m2 m3 c0 c1 c2 c3 c4 em
  have HOK := hid hok
  have HCC := hid hc
  have HMM := hid hM
  have HNN := hid hN
  clear hok hc hM hN
  by_cases hf : M.1 = p
  · have hf' : (M.1 != p) = false := by simp [hf]
    have HF := hid hf
    clear hf
    go_quiet (fail)
    go_wp2
    go_loopw [9, 28] (fun _ i wr => ∃ k : Nat, k ≤ N ∧ i = .int .i64 k ∧ Hid ((o.jolts.take k).all (fun j => S (stepOf (p, x, y) M j)) = true) ∧ Hid (Below W.heap.size W wr)) (fun _ i _ => N - (intOf i).toNat)
    case atStart => exact ⟨0, Nat.zero_le _, rfl, by rw [List.take_zero]; rfl, below_drewN' _ _ _⟩
    case round =>
      obtain ⟨k, hk, rfl, HA, HB⟩ := hrel
      have r0 := (HB.out.cell (World.block_lt_of_cell? W _ q0)).trans q0
      have r1 := (HB.out.cell (World.block_lt_of_cell? W _ q1)).trans q1
      have r2 := (HB.out.cell (World.block_lt_of_cell? W _ q2)).trans q2
      by_cases hlt : k < N
      · have ho2 := ovAt_below HOW.out HB.out
        have hin : InR (p, x, y) := by
          have := HCC.out; unfold Ov.ex at this; simp only [decide_eq_true_eq] at this
          have h1 := HOK.out.p; have h2 := HOK.out.r; have h3 := HOK.out.c
          unfold InR; simp only; omega
        have cst := hid (step_any b vs _ _ o (p, x, y) m k wr ho2 HOK.out hm (by rw [← HNN.out]; exact hlt) hin)
        clear ho2
        go_wp2_with (first | (go_at_call 58; refine (cst.out).mono ?_; rintro e w2 ⟨rfl, hb2⟩) | fail)
        have hB2 : Below W.heap.size W w2 := HB.out.trans (hb2.mono HB.out.size)
        have hd : InR (stepOf (p, x, y) o.moves[m] o.jolts[k]) := by
          have h4 := jl_ok HOK.out k (by rw [← HNN.out]; exact hlt)
          have h5 := mv_ok HOK.out m hm
          have h6 := HCC.out
          unfold Ov.ex at h6
          simp only [decide_eq_true_eq] at h6
          have h1 := HOK.out.p; have h2 := HOK.out.r; have h3 := HOK.out.c
          unfold InR stepOf; simp only; omega
        have ct := hid (HT.out.2 w2 _ (HB0.out.trans (hB2.mono HB0.out.size)) hd)
        have HB2 := hid hB2
        have HA2 : Hid (∀ b, S (stepOf (p, x, y) o.moves[m] o.jolts[k]) = b → (o.jolts.take (k + 1)).all (fun j => S (stepOf (p, x, y) M j)) = b) := by
          intro b hb
          rw [all_take_succ _ _ _ (by rw [← HNN.out]; exact hlt), HA.out, HMM.out, hb]; rfl
        clear hb2 hB2 hd HA HB
        rw [HT.out.1]
        generalize S (stepOf (p, x, y) o.moves[m] o.jolts[k]) = t at *
        cases t
        · go_wp2_with (first | (refine (ct.out).mono ?_; rintro e w3 ⟨rfl, hb3⟩) | fail)
          go_ret
          refine ⟨ret_bool ?_, HB0.out.trans ((HB2.out.trans (hb3.mono HB2.out.size)).mono HB0.out.size)⟩
          rw [HR.out]
          unfold Ov.leads
          rw [← HMM.out, all_of_take _ _ (k + 1) (HA2.out false rfl), Bool.and_false]
        · go_wp2_with (first | (refine (ct.out).mono ?_; rintro e w3 ⟨rfl, hb3⟩) | fail)
          go_roundw
          case rel => exact ⟨k + 1, by omega, by go_num, HA2.out true rfl, HB2.out.trans (hb3.mono HB2.out.size)⟩
          case measure => simp [intOf]; omega
      · go_wp2
        go_ret
        refine ⟨ret_bool ?_, ?_⟩
        · obtain rfl : k = N := by omega
          have hA := HA.out
          rw [HNN.out, List.take_of_length_le (Nat.le_refl _)] at hA
          rw [HR.out]
          unfold Ov.leads
          rw [← HMM.out, hA, HF.out]
          simp
        · exact HB0.out.trans (HB.out.mono HB0.out.size)
  · have hf' : (M.1 != p) = true := by simp [hf]
    have HF := hid hf
    clear hf
    go_quiet (fail)
    go_wp2
    go_ret
    refine ⟨ret_bool ?_, HB0.out.trans ((below_drewN' _ _ _).mono HB0.out.size)⟩
    rw [HR.out]
    unfold Ov.leads
    rw [← HMM.out, beq_false_of_ne HF.out, Bool.false_and]

set_option maxHeartbeats 1000000 in
set_option maxRecDepth 100000 in
theorem move_any (b : Nat) (vs vm vj : Value) (o : Ov) (c : Sp) (g : FuncId) (lb : Array Value) (S : Sp → Bool) (w : World) (ho : OvAt w b vs vm vj o) (hok : o.Ok) (hc : o.ex c = true)
    (ht : TestC w g lb S) :
    Calls Tryd.prog 46 #[.pointer (some ⟨b, 0, none⟩), spv c, .func (.func g) #[] lb] w fun e w' => e = .returned (.int .i64 (o.move S c)) ∧ Below w.heap.size w w' := by
  have ho0 := ho
  obtain ⟨⟨hs, ⟨am, cm, rfl, hml, hmc⟩, hj⟩, c0, c1, c2, c3, c4⟩ := ho
  obtain ⟨p, x, y⟩ := c
  unfold spv
  simp only
  have HOC := hid ho0
  have HT := hid ht
  have HM := hid hmc
  have hbl := ovAt_lt ho0
  obtain ⟨N, hN⟩ : ∃ N, N = o.moves.length := ⟨_, rfl⟩
  rw [← hN] at c1 hml
  have HNN := hid hN
  clear hN
  clear ho0 ht hmc hj hs c0 c2 c3 c4
  obtain ⟨R, hR⟩ : ∃ R, R = o.move S (p, x, y) := ⟨_, rfl⟩
  rw [← hR]
  have HR := hid hR
  clear hR
  go_enter Tryd.func46, Tryd.ntmps46
  go_wp2
  have hb0 : Below w.heap.size w (w.alloc (Obj.cells #[Value.int IntKind.i64 p, Value.int IntKind.i64 x, Value.int IntKind.i64 y] 87)) := (Below.refl _ _).alloc (Nat.le_refl _) _
  have hc0 : (w.alloc (Obj.cells #[Value.int IntKind.i64 p, Value.int IntKind.i64 x, Value.int IntKind.i64 y] 87)).heap[w.heap.size]? = some (Obj.cells #[Value.int IntKind.i64 p, Value.int IntKind.i64 x, Value.int IntKind.i64 y] 87) := heap_alloc_new _ _
  obtain ⟨W, hW⟩ : ∃ W, W = (w.alloc (Obj.cells #[Value.int IntKind.i64 p, Value.int IntKind.i64 x, Value.int IntKind.i64 y] 87)) := ⟨_, rfl⟩
  rw [← hW] at hb0 hc0 ⊢
  clear hW
  obtain ⟨q0, q1, q2⟩ := cells3_of hc0
  have HB0 := hid hb0
  have HOW := hid (ovAt_below HOC.out hb0)
  have e1 := HOW.out.c1
  rw [← HNN.out] at e1
  clear hb0 hc0 c1
  have HOK := hid hok
  have HCC := hid hc
  clear hok hc
  go_loopw [7, 14] (fun _ i wr => ∃ k : Nat, k ≤ N ∧ i = .int .i64 k ∧ Hid ((o.moves.take k).any (o.leads S (p, x, y)) = false) ∧ Hid (Below W.heap.size W wr)) (fun _ i _ => N - (intOf i).toNat)
  case atStart => exact ⟨0, Nat.zero_le _, rfl, by rw [List.take_zero]; rfl, Below.refl _ _⟩
  case round =>
    obtain ⟨k, hk, rfl, HA, HB⟩ := hrel
    have r0 := (HB.out.cell (World.block_lt_of_cell? W _ q0)).trans q0
    have r1 := (HB.out.cell (World.block_lt_of_cell? W _ q1)).trans q1
    have r2 := (HB.out.cell (World.block_lt_of_cell? W _ q2)).trans q2
    by_cases hlt : k < N
    · have hbw : Below w.heap.size w wr := HB0.out.trans (HB.out.mono HB0.out.size)
      have clf := hid (leads_any b vs _ _ o (p, x, y) k g lb S wr (ovAt_below HOW.out HB.out) HOK.out (by rw [← HNN.out]; exact hlt) HCC.out ⟨HT.out.1, fun W' d hW' hd => HT.out.2 W' d (hbw.trans (hW'.mono hbw.size)) hd⟩)
      have HBW := hid hbw
      clear hbw
      have HA2 : Hid (∀ b, o.leads S (p, x, y) o.moves[k] = b → ((o.moves.take (k + 1)).any (o.leads S (p, x, y)) = b ∧ (b = true → o.move S (p, x, y) = k))) := by
        intro b hb
        refine ⟨by rw [take_any_succ _ _ _ (by rw [← HNN.out]; exact hlt), HA.out, hb]; rfl, ?_⟩
        rintro rfl
        exact move_at o S _ k (by rw [← HNN.out]; exact hlt) HA.out hb
      clear HA
      generalize o.leads S (p, x, y) o.moves[k] = t at *
      cases t
      · go_wp2_with (first | (go_at_call 66; refine (clf.out).mono ?_; rintro e w2 ⟨rfl, hb2⟩) | fail)
        go_roundw
        case rel => exact ⟨k + 1, by omega, by go_num, (HA2.out false rfl).1, HB.out.trans (hb2.mono HB.out.size)⟩
        case measure => simp [intOf]; omega
      · go_wp2_with (first | (go_at_call 66; refine (clf.out).mono ?_; rintro e w2 ⟨rfl, hb2⟩) | fail)
        go_ret
        exact ⟨ret_int (by rw [HR.out, (HA2.out true rfl).2 rfl]), HBW.out.trans (hb2.mono HBW.out.size)⟩
    · go_wp2
      go_ret
      refine ⟨ret_int ?_, HB0.out.trans (HB.out.mono HB0.out.size)⟩
      obtain rfl : k = N := by omega
      have hA := HA.out
      rw [HNN.out, List.take_of_length_le (Nat.le_refl _)] at hA
      rw [HR.out, move_none o S _ hA]
end Go.Proofs.YtjonbhimbhidpaaDoor
