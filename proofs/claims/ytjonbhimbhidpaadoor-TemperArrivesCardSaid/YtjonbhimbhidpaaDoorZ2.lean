/-
  Walks over chapter 6: leads, move: of any test that is a closure with a contract.
  Walks over chapter 6: all cells are visited, in order, by any closure with a contract.
  Walks over chapter 6: the cells of a set.
  Walks over chapter 6: the tests 'return in[d]'; what the first pass of the kernel does at a cell.
  Appends to slices of the call's own: cells.
  Walks over chapter 6: what a round of the kernel does at a cell.
  Chapter 6 in plain words: what the rounds of the kernel do to its set and its losses, cell by cell.
-/
import Derived.Test.YtjonbhimbhidpaaDoorZ1
import Derived.Deep.RegionWith
import Derived.Deep.DeepCutAuto
namespace Go.Proofs.YtjonbhimbhidpaaDoor
open Go.RowKit

theorem below_drewN' (B : Nat) (w : World) (n : Nat) : Below B w (w.drewN n) := ⟨rfl, rfl, rfl, Nat.le_refl _, fun _ _ => rfl⟩
theorem below_drewN_r {B : Nat} {w w' : World} (h : Below B w w') (n : Nat) : Below B w (w'.drewN n) := h.trans (below_drewN' _ _ _)

theorem all_take_succ {α : Type} (f : α → Bool) (xs : List α) (k : Nat) (h : k < xs.length) : (xs.take (k + 1)).all f = ((xs.take k).all f && f xs[k]) := by
  rw [List.take_add_one, List.all_append]
  simp [h]
theorem all_of_take {α : Type} (f : α → Bool) (xs : List α) (k : Nat) (h : (xs.take k).all f = false) : xs.all f = false := by
  rw [← List.take_append_drop k xs, List.all_append, h]; rfl

/-- the closure g, with what it has captured, tells whether a cell is in S, in every world that has grown out of W0 -/
def TestC (W0 : World) (g : FuncId) (lb : Array Value) (S : Sp → Bool) : Prop :=
  (∀ args w, (callFunc g args).run Tryd.prog w = .ok (.enter g args) w) ∧
  ∀ W d, Below W0.heap.size W0 W → InR d → Calls Tryd.prog g (#[spv d] ++ lb) W fun e W' => e = .returned (.bool (S d)) ∧ Below W.heap.size W W'

set_option maxHeartbeats 1000000 in
set_option maxRecDepth 100000 in
theorem leads_any (b : Nat) (vs vm vj : Value) (o : Ov) (c : Sp) (m : Nat) (g : FuncId) (lb : Array Value) (S : Sp → Bool) (w : World) (ho : OvAt w b vs vm vj o) (hok : o.Ok) (hm : m < o.moves.length) (hc : o.ex c = true)
    (ht : TestC w g lb S) :
    Calls Tryd.prog 66 #[.pointer (some ⟨b, 0, none⟩), spv c, .int .i64 m, .func (.func g) #[] lb] w fun e w' => e = .returned (.bool (o.leads S c o.moves[m])) ∧ Below w.heap.size w w' := by
  have ho0 := ho
  obtain ⟨⟨hs, ⟨am, cm, rfl, hml, hmc⟩, ⟨aj, cj, rfl, hjl, hjc⟩⟩, c0, c1, c2, c3, c4⟩ := ho
  obtain ⟨gm, rfl, m0, m1, m2, m3⟩ := hmc m hm
  have bm := mv_ok hok m hm
  have em : mvAt o.moves m = o.moves[m] := by simp [mvAt, hm]
  rw [em] at m0 m1 m2 m3
  obtain ⟨p, x, y⟩ := c
  unfold spv
  simp only
  have HOC := hid ho0
  have HT := hid ht
  have HJ := hid hjc
  have HM := hid hmc
  clear ho0 ht hjc hmc
  obtain ⟨R, hR⟩ : ∃ R, R = o.leads S (p, x, y) o.moves[m] := ⟨_, rfl⟩
  rw [← hR]
  have HR := hid hR
  clear hR
  go_enter Tryd.func66, Tryd.ntmps66
  go_wp2
  have hb0 : Below w.heap.size w (w.alloc (Obj.cells #[Value.int IntKind.i64 p, Value.int IntKind.i64 x, Value.int IntKind.i64 y] 87)) := (Below.refl _ _).alloc (Nat.le_refl _) _
  have hc0 : (w.alloc (Obj.cells #[Value.int IntKind.i64 p, Value.int IntKind.i64 x, Value.int IntKind.i64 y] 87)).heap[w.heap.size]? = some (Obj.cells #[Value.int IntKind.i64 p, Value.int IntKind.i64 x, Value.int IntKind.i64 y] 87) := heap_alloc_new _ _
  have hsz : (w.alloc (Obj.cells #[Value.int IntKind.i64 p, Value.int IntKind.i64 x, Value.int IntKind.i64 y] 87)).heap.size = w.heap.size + 1 := by simp
  obtain ⟨W, hW⟩ : ∃ W, W = (w.alloc (Obj.cells #[Value.int IntKind.i64 p, Value.int IntKind.i64 x, Value.int IntKind.i64 y] 87)) := ⟨_, rfl⟩
  rw [← hW] at hb0 hc0 hsz ⊢
  clear hW
  obtain ⟨q0, q1, q2⟩ := cells3_of hc0
  have HB0 := hid hb0
  have HOW := hid (ovAt_below HOC.out hb0)
  have e1 := HOW.out.c1
  have e2 := HOW.out.c2
  have em0 := (hb0.cell (World.block_lt_of_cell? w _ m0)).trans m0
  obtain ⟨N, hN⟩ : ∃ N, N = o.jolts.length := ⟨_, rfl⟩
  obtain ⟨M, hM⟩ : ∃ M, M = o.moves[m] := ⟨_, rfl⟩
  rw [← hM] at em0 bm
  rw [← hN] at e2 hjl
  clear hb0 hc0 m0 m1 m2 m3 c0 c1 c2 c3 c4 em
  have HOK := hid hok
  have HCC := hid hc
  have HMM := hid hM
  have HNN := hid hN
  clear hok hc hM hN
  by_cases hf : M.1 = p
  · have hf' : (M.1 != p) = false := by simp [hf]
    have HF := hid hf
    clear hf
    go_quiet (fail)
    go_wp2
    go_loopw [9, 28] (fun _ i wr => ∃ k : Nat, k ≤ N ∧ i = .int .i64 k ∧ Hid ((o.jolts.take k).all (fun j => S (stepOf (p, x, y) M j)) = true) ∧ Hid (Below W.heap.size W wr)) (fun _ i _ => N - (intOf i).toNat)
    case atStart => exact ⟨0, Nat.zero_le _, rfl, by rw [List.take_zero]; rfl, below_drewN' _ _ _⟩
    case round =>
      obtain ⟨k, hk, rfl, HA, HB⟩ := hrel
      have r0 := (HB.out.cell (World.block_lt_of_cell? W _ q0)).trans q0
      have r1 := (HB.out.cell (World.block_lt_of_cell? W _ q1)).trans q1
      have r2 := (HB.out.cell (World.block_lt_of_cell? W _ q2)).trans q2
      by_cases hlt : k < N
      · have ho2 := ovAt_below HOW.out HB.out
        have hin : InR (p, x, y) := by
          have := HCC.out; unfold Ov.ex at this; simp only [decide_eq_true_eq] at this
          have h1 := HOK.out.p; have h2 := HOK.out.r; have h3 := HOK.out.c
          unfold InR; simp only; omega
        have cst := hid (step_any b vs _ _ o (p, x, y) m k wr ho2 HOK.out hm (by rw [← HNN.out]; exact hlt) hin)
        clear ho2
        go_wp2_with (first | (go_at_call 58; refine (cst.out).mono ?_; rintro e w2 ⟨rfl, hb2⟩) | fail)
        have hB2 : Below W.heap.size W w2 := HB.out.trans (hb2.mono HB.out.size)
        have hd : InR (stepOf (p, x, y) o.moves[m] o.jolts[k]) := by
          have h4 := jl_ok HOK.out k (by rw [← HNN.out]; exact hlt)
          have h5 := mv_ok HOK.out m hm
          have h6 := HCC.out
          unfold Ov.ex at h6
          simp only [decide_eq_true_eq] at h6
          have h1 := HOK.out.p; have h2 := HOK.out.r; have h3 := HOK.out.c
          unfold InR stepOf; simp only; omega
        have ct := hid (HT.out.2 w2 _ (HB0.out.trans (hB2.mono HB0.out.size)) hd)
        have HB2 := hid hB2
        have HA2 : Hid (∀ b, S (stepOf (p, x, y) o.moves[m] o.jolts[k]) = b → (o.jolts.take (k + 1)).all (fun j => S (stepOf (p, x, y) M j)) = b) := by
          intro b hb
          rw [all_take_succ _ _ _ (by rw [← HNN.out]; exact hlt), HA.out, HMM.out, hb]; rfl
        clear hb2 hB2 hd HA HB
        rw [HT.out.1]
        generalize S (stepOf (p, x, y) o.moves[m] o.jolts[k]) = t at *
        cases t
        · go_wp2_with (first | (refine (ct.out).mono ?_; rintro e w3 ⟨rfl, hb3⟩) | fail)
          go_ret
          refine ⟨ret_bool ?_, HB0.out.trans ((HB2.out.trans (hb3.mono HB2.out.size)).mono HB0.out.size)⟩
          rw [HR.out]
          unfold Ov.leads
          rw [← HMM.out, all_of_take _ _ (k + 1) (HA2.out false rfl), Bool.and_false]
        · go_wp2_with (first | (refine (ct.out).mono ?_; rintro e w3 ⟨rfl, hb3⟩) | fail)
          go_roundw
          case rel => exact ⟨k + 1, by omega, by go_num, HA2.out true rfl, HB2.out.trans (hb3.mono HB2.out.size)⟩
          case measure => simp [intOf]; omega
      · go_wp2
        go_ret
        refine ⟨ret_bool ?_, ?_⟩
        · obtain rfl : k = N := by omega
          have hA := HA.out
          rw [HNN.out, List.take_of_length_le (Nat.le_refl _)] at hA
          rw [HR.out]
          unfold Ov.leads
          rw [← HMM.out, hA, HF.out]
          simp
        · exact HB0.out.trans (HB.out.mono HB0.out.size)
  · have hf' : (M.1 != p) = true := by simp [hf]
    have HF := hid hf
    clear hf
    go_quiet (fail)
    go_wp2
    go_ret
    refine ⟨ret_bool ?_, HB0.out.trans ((below_drewN' _ _ _).mono HB0.out.size)⟩
    rw [HR.out]
    unfold Ov.leads
    rw [← HMM.out, beq_false_of_ne HF.out, Bool.false_and]

set_option maxHeartbeats 1000000 in
set_option maxRecDepth 100000 in
theorem move_any (b : Nat) (vs vm vj : Value) (o : Ov) (c : Sp) (g : FuncId) (lb : Array Value) (S : Sp → Bool) (w : World) (ho : OvAt w b vs vm vj o) (hok : o.Ok) (hc : o.ex c = true)
    (ht : TestC w g lb S) :
    Calls Tryd.prog 46 #[.pointer (some ⟨b, 0, none⟩), spv c, .func (.func g) #[] lb] w fun e w' => e = .returned (.int .i64 (o.move S c)) ∧ Below w.heap.size w w' := by
  have ho0 := ho
  obtain ⟨⟨hs, ⟨am, cm, rfl, hml, hmc⟩, hj⟩, c0, c1, c2, c3, c4⟩ := ho
  obtain ⟨p, x, y⟩ := c
  unfold spv
  simp only
  have HOC := hid ho0
  have HT := hid ht
  have HM := hid hmc
  have hbl := ovAt_lt ho0
  obtain ⟨N, hN⟩ : ∃ N, N = o.moves.length := ⟨_, rfl⟩
  rw [← hN] at c1 hml
  have HNN := hid hN
  clear hN
  clear ho0 ht hmc hj hs c0 c2 c3 c4
  obtain ⟨R, hR⟩ : ∃ R, R = o.move S (p, x, y) := ⟨_, rfl⟩
  rw [← hR]
  have HR := hid hR
  clear hR
  go_enter Tryd.func46, Tryd.ntmps46
  go_wp2
  have hb0 : Below w.heap.size w (w.alloc (Obj.cells #[Value.int IntKind.i64 p, Value.int IntKind.i64 x, Value.int IntKind.i64 y] 87)) := (Below.refl _ _).alloc (Nat.le_refl _) _
  have hc0 : (w.alloc (Obj.cells #[Value.int IntKind.i64 p, Value.int IntKind.i64 x, Value.int IntKind.i64 y] 87)).heap[w.heap.size]? = some (Obj.cells #[Value.int IntKind.i64 p, Value.int IntKind.i64 x, Value.int IntKind.i64 y] 87) := heap_alloc_new _ _
  obtain ⟨W, hW⟩ : ∃ W, W = (w.alloc (Obj.cells #[Value.int IntKind.i64 p, Value.int IntKind.i64 x, Value.int IntKind.i64 y] 87)) := ⟨_, rfl⟩
  rw [← hW] at hb0 hc0 ⊢
  clear hW
  obtain ⟨q0, q1, q2⟩ := cells3_of hc0
  have HB0 := hid hb0
  have HOW := hid (ovAt_below HOC.out hb0)
  have e1 := HOW.out.c1
  rw [← HNN.out] at e1
  clear hb0 hc0 c1
  have HOK := hid hok
  have HCC := hid hc
  clear hok hc
  go_loopw [7, 14] (fun _ i wr => ∃ k : Nat, k ≤ N ∧ i = .int .i64 k ∧ Hid ((o.moves.take k).any (o.leads S (p, x, y)) = false) ∧ Hid (Below W.heap.size W wr)) (fun _ i _ => N - (intOf i).toNat)
  case atStart => exact ⟨0, Nat.zero_le _, rfl, by rw [List.take_zero]; rfl, Below.refl _ _⟩
  case round =>
    obtain ⟨k, hk, rfl, HA, HB⟩ := hrel
    have r0 := (HB.out.cell (World.block_lt_of_cell? W _ q0)).trans q0
    have r1 := (HB.out.cell (World.block_lt_of_cell? W _ q1)).trans q1
    have r2 := (HB.out.cell (World.block_lt_of_cell? W _ q2)).trans q2
    by_cases hlt : k < N
    · have hbw : Below w.heap.size w wr := HB0.out.trans (HB.out.mono HB0.out.size)
      have clf := hid (leads_any b vs _ _ o (p, x, y) k g lb S wr (ovAt_below HOW.out HB.out) HOK.out (by rw [← HNN.out]; exact hlt) HCC.out ⟨HT.out.1, fun W' d hW' hd => HT.out.2 W' d (hbw.trans (hW'.mono hbw.size)) hd⟩)
      have HBW := hid hbw
      clear hbw
      have HA2 : Hid (∀ b, o.leads S (p, x, y) o.moves[k] = b → ((o.moves.take (k + 1)).any (o.leads S (p, x, y)) = b ∧ (b = true → o.move S (p, x, y) = k))) := by
        intro b hb
        refine ⟨by rw [take_any_succ _ _ _ (by rw [← HNN.out]; exact hlt), HA.out, hb]; rfl, ?_⟩
        rintro rfl
        exact move_at o S _ k (by rw [← HNN.out]; exact hlt) HA.out hb
      clear HA
      generalize o.leads S (p, x, y) o.moves[k] = t at *
      cases t
      · go_wp2_with (first | (go_at_call 66; refine (clf.out).mono ?_; rintro e w2 ⟨rfl, hb2⟩) | fail)
        go_roundw
        case rel => exact ⟨k + 1, by omega, by go_num, (HA2.out false rfl).1, HB.out.trans (hb2.mono HB.out.size)⟩
        case measure => simp [intOf]; omega
      · go_wp2_with (first | (go_at_call 66; refine (clf.out).mono ?_; rintro e w2 ⟨rfl, hb2⟩) | fail)
        go_ret
        exact ⟨ret_int (by rw [HR.out, (HA2.out true rfl).2 rfl]), HBW.out.trans (hb2.mono HBW.out.size)⟩
    · go_wp2
      go_ret
      refine ⟨ret_int ?_, HB0.out.trans (HB.out.mono HB0.out.size)⟩
      obtain rfl : k = N := by omega
      have hA := HA.out
      rw [HNN.out, List.take_of_length_le (Nat.le_refl _)] at hA
      rw [HR.out, move_none o S _ hA]
end Go.Proofs.YtjonbhimbhidpaaDoor

namespace Go.Proofs.YtjonbhimbhidpaaDoor
open Go.RowKit

/-- what a closure does at the i-th cell -/
def VisitC (o : Ov) (g : FuncId) (lb : Array Value) (J : Nat → World → Prop) : Prop :=
  (∀ args w, (callFunc g args).run Tryd.prog w = .ok (.enter g args) w) ∧
  ∀ i W, i < o.N → J i W → Calls Tryd.prog g (#[spv (o.cellAt i)] ++ lb) W fun e W' => e = .returned (.tuple #[]) ∧ J (i + 1) W'

set_option maxHeartbeats 1000000 in
set_option maxRecDepth 100000 in
theorem cells_any (b : Nat) (vs vm vj : Value) (o : Ov) (g : FuncId) (lb : Array Value) (J : Nat → World → Prop) (w : World) (ho : ∀ i W, J i W → OvAt W b vs vm vj o) (hok : o.Ok)
    (h0 : J 0 w) (ht : VisitC o g lb J) :
    Calls Tryd.prog 61 #[.pointer (some ⟨b, 0, none⟩), .func (.func g) #[] lb] w fun e w' => e = .returned (.tuple #[]) ∧ J o.N w' := by
  have ho0 := ho 0 w h0
  obtain ⟨⟨⟨a1, cs, rfl, hsl, hsc⟩, hm, hj⟩, c0, c1, c2, c3, c4⟩ := ho0
  have HT := hid ht
  have HO := hid ho
  have HJ0 := hid h0
  have HOK := hid hok
  obtain ⟨P, hP⟩ : ∃ P, P = o.P := ⟨_, rfl⟩
  obtain ⟨R, hR⟩ : ∃ R, R = o.R := ⟨_, rfl⟩
  obtain ⟨C, hC⟩ : ∃ C, C = o.C := ⟨_, rfl⟩
  have b1 := hok.p
  have b2 := hok.r
  have b3 := hok.c
  rw [← hP] at b1
  rw [← hR] at b2
  rw [← hC] at b3
  rw [show o.safe.length = P from hP.symm] at c0 hsl
  have HP := hid hP
  have HR := hid hR
  have HC := hid hC
  clear ht ho h0 hok hP hR hC hsc hm hj c1 c2 c3 c4
  go_enter Tryd.func61, Tryd.ntmps61
  go_wp2
  go_loopw [4, 13] (fun _ i wr => ∃ p : Nat, p ≤ P ∧ i = .int .i64 p ∧ Hid (J ((p * R + 0) * C + 0) wr)) (fun _ i _ => P - (intOf i).toNat)
  case atStart => exact ⟨0, Nat.zero_le _, rfl, by rw [Nat.zero_mul, Nat.zero_add, Nat.zero_mul]; exact HJ0.out⟩
  case round =>
    obtain ⟨p, hp, rfl, HJ⟩ := hrel
    have hcr := (HO.out _ _ HJ.out).c3
    rw [← HR.out] at hcr
    by_cases hlp : p < P
    · go_wp2
      clear hcr
      go_loopw [5, 20] (fun _ i wr => ∃ y : Nat, y ≤ R ∧ i = .int .i64 y ∧ Hid (J ((p * R + y) * C + 0) wr)) (fun _ i _ => R - (intOf i).toNat)
      case atStart => exact ⟨0, Nat.zero_le _, rfl, HJ.out⟩
      case round =>
        clear HJ
        obtain ⟨y, hy, rfl, HJ⟩ := hrel
        have hcc := (HO.out _ _ HJ.out).c4
        rw [← HC.out] at hcc
        by_cases hly : y < R
        · go_wp2
          clear hcc
          go_loopw [6, 27] (fun _ i wr => ∃ x : Nat, x ≤ C ∧ i = .int .i64 x ∧ Hid (J ((p * R + y) * C + x) wr)) (fun _ i _ => C - (intOf i).toNat)
          case atStart => exact ⟨0, Nat.zero_le _, rfl, HJ.out⟩
          case round =>
            clear HJ
            obtain ⟨x, hx, rfl, HJ⟩ := hrel
            by_cases hlx : x < C
            · have e1 : o.cellAt ((p * R + y) * C + x) = ((p : Int), (x : Int), (y : Int)) := by
                rw [HR.out, HC.out]
                exact cellAt_at o p x y (by rw [← HC.out]; exact hlx) (by rw [← HR.out]; exact hly)
              have e2 : (p * R + y) * C + x < o.N := by
                rw [HR.out, HC.out]
                exact at_lt o p x y (by rw [← HP.out]; exact hlp) (by rw [← HC.out]; exact hlx) (by rw [← HR.out]; exact hly)
              have ct := hid (HT.out.2 _ _ e2 HJ.out)
              rw [e1] at ct
              clear e1 e2
              go_wp2
              rw [HT.out.1]
              go_wp2_with (first | (refine (ct.out).mono ?_; rintro e w3 ⟨rfl, hb3⟩) | fail)
              go_roundw
              case rel => exact ⟨x + 1, by omega, by go_num, hb3⟩
              case measure => simp [intOf]; omega
            · go_wp2
              go_roundw
              case rel =>
                obtain rfl : x = C := by omega
                exact ⟨y + 1, by omega, by go_num, by rw [show ((p * R + (y + 1)) * x + 0) = (p * R + y) * x + x by rw [← Nat.add_assoc, Nat.add_mul (p * R + y) 1]; omega]; exact HJ.out⟩
              case measure => simp [intOf]; omega
        · go_wp2
          go_roundw
          case rel =>
            obtain rfl : y = R := by omega
            exact ⟨p + 1, by omega, by go_num, by rw [show ((p + 1) * y + 0) = p * y + y by rw [Nat.add_mul p 1]; omega]; exact HJ.out⟩
          case measure => simp [intOf]; omega
    · go_wp2
      go_end0
      obtain rfl : p = P := by omega
      refine ⟨rfl, ?_⟩
      have := HJ.out
      unfold Ov.N
      rw [← HP.out, ← HR.out, ← HC.out, ← Nat.mul_assoc]
      simpa using this
end Go.Proofs.YtjonbhimbhidpaaDoor

namespace Go.Proofs.YtjonbhimbhidpaaDoor
open Go.RowKit

/-- 'm[c] = true' -/
theorem wpl_put_set {ops : Array Oper} {rest : List Oper} {o : Oper} {a : Act} {Q : Exit → Act → World → Prop} {W : World}
    (hg : o.guard = none) (m x v : Operand) (hop : o.op = Op.mapUpdate 90 m x v) (b : Nat) (L : List Sp) (hm : a.eval m = .map (some b)) (h : SetW W b L)
    (c : Sp) (hx : a.eval x = spv c) (hv : a.eval v = .bool true) (hc : InR c) (hn : c ∉ L) (hl : L.length < 1000000)
    (hK : ∀ W', SetW W' b (L ++ [c]) → W.grownBy W' (some b) → W'.heap.size = W.heap.size → wpList Tryd.prog ops Q rest (a.put o.dst undef) W') :
    wpList Tryd.prog ops Q (o :: rest) a W := by
  refine wpList_plain hg fun K' hK' => ?_
  obtain ⟨w', hrun, r1, r2, r3⟩ := setW_put h hc hn hl
  unfold Oper.wp
  simp [execOp, hop, hm, hx, hv, hrun, Result.andThen]
  exact hK' _ _ (hK w' r1 r2 r3)

theorem grown_trans {A B C : World} {row : Option Nat} (h : A.grownBy B row) (k : B.grownBy C row) : A.grownBy C row :=
  ⟨k.os.trans h.os, k.tape.trans h.tape, k.output.trans h.output, Nat.le_trans h.size k.size, fun i hi hr => (k.block i (Nat.lt_of_lt_of_le hi h.size) hr).trans (h.block i hi hr)⟩
theorem setW_drew {w : World} {m : Nat} {L : List Sp} (h : SetW w m L) (n : Nat) : SetW (w.drewN n) m L := h
theorem box1 {W : World} {g : Nat} {v : Value} {t : TypeId} (h : W.heap[g]? = some (.cells #[v] t)) : W.cell? ⟨g, 0, none⟩ = some v := by simp [World.cell?, h]

/-- the letter of a cell, as the walk reads it -/
theorem grid_row {W : World} {v : Value} {g : Grid} {P R C : Nat} (h : IsGrid W v g) (hf : formB P R C g = true) (p y x : Nat) (hp : p < P) (hy : y < R) (hx : x < C) :
    ∃ ga ca gb n cb s, v = .slice (some ⟨ga, 0, none⟩) P ca ∧ W.cell? ⟨ga, p, none⟩ = some (.slice (some ⟨gb, 0, none⟩) n cb) ∧ y < n ∧ W.cell? ⟨gb, y, none⟩ = some (.string s) ∧ s.size = C ∧ ∃ hx : x < s.size, ((((s[x]'hx).toNat : Nat) : Int) == 46) = (chAt g p y x == 46) := by
  obtain ⟨h1, h2, h3, h4⟩ := form_row hf p y hp hy
  obtain ⟨a, ca, rfl, hl, hc⟩ := h
  obtain ⟨ga, u, rfl, hcell, hs⟩ := hc p h3
  obtain ⟨a2, cb, rfl, hl2, hc2⟩ := hs
  obtain ⟨gb, rfl, hcell2⟩ := hc2 y h4
  have hxs : x < (strB ((g.getD p []).getD y [])).size := by rw [strB_size]; unfold rowAt at h1; omega
  refine ⟨ga, ca, gb, _, cb, _, by rw [form_len hf], hcell, h4, hcell2, ?_, hxs, ?_⟩
  · rw [strB_size]; exact h1
  · have e : (strB ((g.getD p []).getD y []))[x]'hxs = chAt g p y x := by
      unfold chAt rowAt
      rw [strB_size] at hxs
      generalize (g.getD p []).getD y [] = s at *
      show (strB s).data[x] = _
      simp [strB, hxs]
    rw [e, Bool.eq_iff_iff, beq_iff_eq, beq_iff_eq, ← UInt8.toNat_inj]
    show _ ↔ _ = 46
    omega

set_option maxHeartbeats 1000000 in
set_option maxRecDepth 100000 in
theorem in1_any (g : Grid) (v : Value) (o : Ov) (bs bb m : Nat) (c : Sp) (L : List Sp) (w : World) (hok : o.Ok) (hf : formB o.P o.R o.C g = true) (hc : o.ex c = true)
    (hv : w.cell? ⟨bs, 0, none⟩ = some v) (hg : IsGrid w v g) (hb : w.cell? ⟨bb, 0, none⟩ = some (.map (some m))) (hS : SetW w m L) (hn : c ∉ L) (hl : L.length < 1000000) :
    Calls Tryd.prog 69 #[spv c, .pointer (some ⟨bs, 0, none⟩), .pointer (some ⟨bb, 0, none⟩)] w fun e w' => e = .returned (.tuple #[]) ∧ SetW w' m (if inG g c then L ++ [c] else L) ∧ w.grownBy w' (some m) := by
  obtain ⟨p, x, y, rfl, hp, hx, hy⟩ := ex_cell o c hc
  obtain ⟨ga, ca, gb, n, cb, s, rfl, d1, hyn, d2, hss, hxs, d3⟩ := grid_row hg hf p y x hp hy hx
  have hin : InR ((p : Int), (x : Int), (y : Int)) := by
    have h1 := hok.p; have h2 := hok.r; have h3 := hok.c
    unfold InR; simp only; omega
  have hig : inG g ((p : Int), (x : Int), (y : Int)) = (chAt g p y x == 46) := by simp [inG]
  rw [hig]
  generalize chAt g p y x = q at *
  have l1 := World.block_lt_of_cell? w _ hv
  have l2 := World.block_lt_of_cell? w _ d1
  have l3 := World.block_lt_of_cell? w _ d2
  have l4 := World.block_lt_of_cell? w _ hb
  have HS := hid hS
  have HIN := hid hin
  have HN := hid hn
  clear hS hin hn hig hg hf hok
  unfold spv
  simp only at l1 l2 l3 l4 ⊢
  obtain ⟨P, hP⟩ : ∃ P, P = o.P := ⟨_, rfl⟩
  obtain ⟨C, hC⟩ : ∃ C, C = o.C := ⟨_, rfl⟩
  rw [← hP] at hv hp
  rw [← hC] at hx hss
  clear hP hC hy hc
  subst hss
  cases hq : (q == 46)
  · rw [hq] at d3
    clear hq
    go_enter Tryd.func69, Tryd.ntmps69
    go_wp2
    go_quiet (fail)
    go_wp2
    go_end0
    have hg1 := (World.grownBy_alloc w (Obj.cells #[Value.int IntKind.i64 p, Value.int IntKind.i64 x, Value.int IntKind.i64 y] 87) (some m))
    have hg2 : w.grownBy ((w.alloc (Obj.cells #[Value.int IntKind.i64 p, Value.int IntKind.i64 x, Value.int IntKind.i64 y] 87)).drewN nq) (some m) := ⟨hg1.os, hg1.tape, hg1.output, hg1.size, hg1.block⟩
    refine ⟨rfl, ?_, hg2⟩
    have hm := setW_lt HS.out
    exact setW_drew (setW_kept (row := none) HS.out (World.grownBy_alloc w _ none) (by simp)) nq
  · rw [hq] at d3
    clear hq
    go_enter Tryd.func69, Tryd.ntmps69
    go_wp2
    go_quiet (fail)
    have hg1 := (World.grownBy_alloc w (Obj.cells #[Value.int IntKind.i64 p, Value.int IntKind.i64 x, Value.int IntKind.i64 y] 87) (some m))
    have hg2 : w.grownBy ((w.alloc (Obj.cells #[Value.int IntKind.i64 p, Value.int IntKind.i64 x, Value.int IntKind.i64 y] 87)).drewN nq) (some m) := ⟨hg1.os, hg1.tape, hg1.output, hg1.size, hg1.block⟩
    have hS2 : Hid (SetW ((w.alloc (Obj.cells #[Value.int IntKind.i64 p, Value.int IntKind.i64 x, Value.int IntKind.i64 y] 87)).drewN nq) m L) := setW_drew (setW_kept (row := none) HS.out (World.grownBy_alloc w _ none) (by simp)) nq
    have HG2 := hid hg2
    clear hg1 hg2
    go_wp2_with (first | (at_mapUpdate; refine wpl_put_set (by rfl) _ _ _ (by rfl) m L (by rfl) hS2.out ((p : Int), (x : Int), (y : Int)) (by rfl) (by rfl) HIN.out HN.out hl ?_; intro W' h1 h2 h3) | fail)
    go_end0
    exact ⟨rfl, h1, grown_trans HG2.out h2⟩

/-- three blocks are made -/
theorem alloc3 (w : World) (a b c : Obj) : Below w.heap.size w (((w.alloc a).alloc b).alloc c) ∧ (((w.alloc a).alloc b).alloc c).heap.size = w.heap.size + 3 ∧ (((w.alloc a).alloc b).alloc c).heap[w.heap.size]? = some a ∧ (((w.alloc a).alloc b).alloc c).heap[w.heap.size + 1]? = some b ∧ (((w.alloc a).alloc b).alloc c).heap[w.heap.size + 2]? = some c := by
  refine ⟨(((Below.refl _ _).alloc (Nat.le_refl _) _).alloc (by simp) _).alloc (by simp; omega) _, by simp, ?_, ?_, ?_⟩
  · rw [Below.heap_alloc _ _ _ (by simp; omega), Below.heap_alloc _ _ _ (by simp)]
    exact heap_alloc_new _ _
  · rw [Below.heap_alloc _ _ _ (by simp)]
    rw [show w.heap.size + 1 = (w.alloc a).heap.size by simp]
    exact heap_alloc_new _ _
  · rw [show w.heap.size + 2 = ((w.alloc a).alloc b).heap.size by simp]
    exact heap_alloc_new _ _
theorem setW_of_block {W : World} {b : Nat} (h : W.heap[b]? = some (.map #[] 0)) : SetW W b [] := by
  have h0 := World.ownsMap_made (H := Unit) W Tryd.prog 87 (plainElem Tryd.prog 4)
  obtain ⟨es, clock, hh, F, hs, hE⟩ := h0
  rw [heap_alloc_new] at hh
  cases hh
  exact ⟨_, ⟨_, _, h, F, hs, hE⟩, setD_nil⟩

theorem enters_f {f : FuncId} {fn : Func} {c : Code} (hf : Tryd.prog.funcs[f]? = some fn) (hname : (fn.name == "runtime.NumGoroutine") = false) (hb : fn.body = some c) : ∀ args w, (callFunc f args).run Tryd.prog w = .ok (.enter f args) w :=
  fun args w => enters_of hf hname hb args w
theorem cells_len (o : Ov) : o.cells.length = o.N := by simp [Ov.cells]
theorem cells_at (o : Ov) (i : Nat) (h : i < o.N) : o.cells[i]'(by rw [cells_len]; exact h) = o.cellAt i := by simp [Ov.cells]
theorem take_cells (o : Ov) (i : Nat) (h : i < o.N) : o.cells.take (i + 1) = o.cells.take i ++ [o.cellAt i] := by
  rw [List.take_add_one]
  have : o.cells[i]? = some (o.cellAt i) := by
    rw [List.getElem?_eq_getElem (by rw [cells_len]; exact h), cells_at o i h]
  rw [this]; rfl
theorem filter_take_succ (o : Ov) (f : Sp → Bool) (i : Nat) (h : i < o.N) : (o.cells.take (i + 1)).filter f = if f (o.cellAt i) then (o.cells.take i).filter f ++ [o.cellAt i] else (o.cells.take i).filter f := by
  rw [take_cells o i h, List.filter_append]
  by_cases hf : f (o.cellAt i) = true <;> simp [hf]
theorem not_mem_take (o : Ov) (i : Nat) (h : i < o.N) : o.cellAt i ∉ o.cells.take i := by
  have h2 : (o.cells.take (i + 1)).Nodup := (nodup_cells o).sublist (List.take_sublist _ _)
  rw [take_cells o i h, List.nodup_append] at h2
  intro hm
  exact h2.2.2 _ hm _ (by simp) rfl
theorem N_small {o : Ov} (h : o.Ok) : o.N ≤ 1024 := by
  unfold Ov.N
  have h1 : o.R * o.C ≤ 16 * 16 := Nat.mul_le_mul h.r.2 h.c.2
  have h2 : o.P * (o.R * o.C) ≤ 4 * (16 * 16) := Nat.mul_le_mul h.p.2 h1
  omega
theorem filter_small {o : Ov} (h : o.Ok) (f : Sp → Bool) (i : Nat) : ((o.cells.take i).filter f).length < 1000000 := by
  have h1 := List.length_filter_le f (o.cells.take i)
  have h2 : (o.cells.take i).length ≤ o.N := by rw [List.length_take, cells_len]; omega
  have := N_small h
  omega

set_option maxHeartbeats 1000000 in
set_option maxRecDepth 100000 in
theorem in_any (b : Nat) (vs vm vj : Value) (o : Ov) (v : Value) (g : Grid) (w : World) (ho : OvAt w b vs vm vj o) (hok : o.Ok) (hg : IsGrid w v g) (hf : formB o.P o.R o.C g = true) :
    Calls Tryd.prog 54 #[.pointer (some ⟨b, 0, none⟩), v] w fun e w' => ∃ m, e = .returned (.map (some m)) ∧ w.heap.size ≤ m ∧ SetW w' m (o.cells.filter (inG g)) ∧ Below w.heap.size w w' := by
  have hmf : ∀ (fn : Fn) (first cap : Array Value) (w : World), (Instr.makeFunc fn first cap).run Tryd.prog w = .ok (.func fn first cap) w := fun _ _ _ _ => rfl
  have hmm := @run_makeMap Tryd.prog
  have HG := hid hg
  obtain ⟨ag, cg, rfl, _, _⟩ := hg
  obtain ⟨hb3, hz3, k0, k1, k2⟩ := alloc3 w (Obj.cells #[Value.slice ag g.length cg] 22) (Obj.map #[] 0) (Obj.cells #[Value.map (some (w.heap.size + 1))] 90)
  have cc := hid (cells_any b vs vm vj o 69 #[.pointer (some ⟨w.heap.size, 0, none⟩), .pointer (some ⟨w.heap.size + 1 + 1, 0, none⟩)]
    (fun i W => Below w.heap.size w W ∧ W.heap[w.heap.size]? = some (Obj.cells #[Value.slice ag g.length cg] 22) ∧ W.heap[w.heap.size + 2]? = some (Obj.cells #[Value.map (some (w.heap.size + 1))] 90) ∧ SetW W (w.heap.size + 1) ((o.cells.take i).filter (inG g)))
    (((w.alloc (Obj.cells #[Value.slice ag g.length cg] 22)).alloc (Obj.map #[] 0)).alloc (Obj.cells #[Value.map (some (w.heap.size + 1))] 90))
    (fun i W hJ => ovAt_below ho hJ.1) hok ⟨hb3, k0, k2, by rw [List.take_zero]; exact setW_of_block k1⟩
    ⟨enters_f Tryd.func69 (by kernel_rfl) rfl, by
      rintro i W hi ⟨j1, j2, j3, j4⟩
      have hex := cellAt_ex o i hi
      have hm1 : ∀ k, k < w.heap.size → (some k : Option Nat) ≠ some (w.heap.size + 1) := fun k hk e => by injection e; omega
      refine (in1_any g _ o w.heap.size (w.heap.size + 1 + 1) (w.heap.size + 1) (o.cellAt i) _ W hok hf hex (box1 j2) (isGrid_below HG.out j1) (box1 j3) j4 (fun hm => not_mem_take o i hi (List.mem_filter.1 hm).1) (filter_small hok _ _)).mono ?_
      rintro e W' ⟨rfl, h1, h2⟩
      have hs2 := (Array.getElem?_eq_some_iff.1 j2).1
      have hs3 := (Array.getElem?_eq_some_iff.1 j3).1
      refine ⟨rfl, j1.grown h2 j1.size (fun k hk => by injection hk; omega), (h2.block _ hs2 (by intro e; injection e; omega)).trans j2, (h2.block _ hs3 (by intro e; injection e; omega)).trans j3, ?_⟩
      rw [filter_take_succ o _ i hi]
      exact h1⟩)
  have hbl := ovAt_lt ho
  clear ho hok hf hb3 hz3 k0 k1 k2
  go_enter Tryd.func54, Tryd.ntmps54
  go_wp2_with (first | (go_at_call 61; refine (cc.out).mono ?_; rintro e w4 ⟨rfl, h1, h2, h3, h4⟩; have q : w4.cell? ⟨w.heap.size + 1 + 1, 0, none⟩ = some (Value.map (some (w.heap.size + 1))) := box1 h3; have H4 := hid h4; have H1 := hid h1; clear h1 h2 h3 h4) | fail)
  go_ret
  refine ⟨_, rfl, Nat.le_succ _, ?_, H1.out⟩
  have := H4.out
  rw [List.take_of_length_le (by rw [cells_len]; exact Nat.le_refl _)] at this
  exact this
end Go.Proofs.YtjonbhimbhidpaaDoor

namespace Go.Proofs.YtjonbhimbhidpaaDoor
open Go.RowKit

set_option maxHeartbeats 1000000 in
set_option maxRecDepth 100000 in
theorem test65 (bi m : Nat) (L : List Sp) (d : Sp) (w : World) (hb : w.cell? ⟨bi, 0, none⟩ = some (.map (some m))) (hS : SetW w m L) (hd : InR d) :
    Calls Tryd.prog 65 #[spv d, .pointer (some ⟨bi, 0, none⟩)] w fun e w' => e = .returned (.bool (decide (d ∈ L))) ∧ Below w.heap.size w w' := by
  obtain ⟨p, x, y⟩ := d
  have hl := World.block_lt_of_cell? w _ hb
  have hlk := setW_look (setW_kept (row := none) hS (World.grownBy_alloc w (Obj.cells #[Value.int IntKind.i64 p, Value.int IntKind.i64 x, Value.int IntKind.i64 y] 87) none) (by simp)) hd
  unfold spv at hlk ⊢
  simp only at hl hlk ⊢
  generalize decide ((p, x, y) ∈ L) = t at *
  clear hS hd
  go_enter Tryd.func65, Tryd.ntmps65
  go_wp2
  go_ret
  exact ⟨rfl, (Below.refl _ _).alloc (Nat.le_refl _) _⟩
theorem testC65 {bi m : Nat} {L : List Sp} {w : World} (hb : w.cell? ⟨bi, 0, none⟩ = some (.map (some m))) (hS : SetW w m L) : TestC w 65 #[.pointer (some ⟨bi, 0, none⟩)] (fun d => decide (d ∈ L)) :=
  ⟨enters_f Tryd.func65 (by kernel_rfl) rfl, fun W d hW hd => test65 bi m L d W ((hW.cell (World.block_lt_of_cell? w _ hb)).trans hb) (setW_below hS hW (setW_lt hS)) hd⟩

set_option maxHeartbeats 1000000 in
set_option maxRecDepth 100000 in
theorem test47 (bi m : Nat) (L : List Sp) (d : Sp) (w : World) (hb : w.cell? ⟨bi, 0, none⟩ = some (.map (some m))) (hS : SetW w m L) (hd : InR d) :
    Calls Tryd.prog 47 #[spv d, .pointer (some ⟨bi, 0, none⟩)] w fun e w' => e = .returned (.bool (decide (d ∈ L))) ∧ Below w.heap.size w w' := by
  obtain ⟨p, x, y⟩ := d
  have hl := World.block_lt_of_cell? w _ hb
  have hlk := setW_look (setW_kept (row := none) hS (World.grownBy_alloc w (Obj.cells #[Value.int IntKind.i64 p, Value.int IntKind.i64 x, Value.int IntKind.i64 y] 87) none) (by simp)) hd
  unfold spv at hlk ⊢
  simp only at hl hlk ⊢
  generalize decide ((p, x, y) ∈ L) = t at *
  clear hS hd
  go_enter Tryd.func47, Tryd.ntmps47
  go_wp2
  go_ret
  exact ⟨rfl, (Below.refl _ _).alloc (Nat.le_refl _) _⟩
theorem testC47 {bi m : Nat} {L : List Sp} {w : World} (hb : w.cell? ⟨bi, 0, none⟩ = some (.map (some m))) (hS : SetW w m L) : TestC w 47 #[.pointer (some ⟨bi, 0, none⟩)] (fun d => decide (d ∈ L)) :=
  ⟨enters_f Tryd.func47 (by kernel_rfl) rfl, fun W d hW hd => test47 bi m L d W ((hW.cell (World.block_lt_of_cell? w _ hb)).trans hb) (setW_below hS hW (setW_lt hS)) hd⟩

set_option maxHeartbeats 1000000 in
set_option maxRecDepth 100000 in
theorem test56 (bi m : Nat) (L : List Sp) (d : Sp) (w : World) (hb : w.cell? ⟨bi, 0, none⟩ = some (.map (some m))) (hS : SetW w m L) (hd : InR d) :
    Calls Tryd.prog 56 #[spv d, .pointer (some ⟨bi, 0, none⟩)] w fun e w' => e = .returned (.bool (decide (d ∈ L))) ∧ Below w.heap.size w w' := by
  obtain ⟨p, x, y⟩ := d
  have hl := World.block_lt_of_cell? w _ hb
  have hlk := setW_look (setW_kept (row := none) hS (World.grownBy_alloc w (Obj.cells #[Value.int IntKind.i64 p, Value.int IntKind.i64 x, Value.int IntKind.i64 y] 87) none) (by simp)) hd
  unfold spv at hlk ⊢
  simp only at hl hlk ⊢
  generalize decide ((p, x, y) ∈ L) = t at *
  clear hS hd
  go_enter Tryd.func56, Tryd.ntmps56
  go_wp2
  go_ret
  exact ⟨rfl, (Below.refl _ _).alloc (Nat.le_refl _) _⟩
theorem testC56 {bi m : Nat} {L : List Sp} {w : World} (hb : w.cell? ⟨bi, 0, none⟩ = some (.map (some m))) (hS : SetW w m L) : TestC w 56 #[.pointer (some ⟨bi, 0, none⟩)] (fun d => decide (d ∈ L)) :=
  ⟨enters_f Tryd.func56 (by kernel_rfl) rfl, fun W d hW hd => test56 bi m L d W ((hW.cell (World.block_lt_of_cell? w _ hb)).trans hb) (setW_below hS hW (setW_lt hS)) hd⟩

set_option maxHeartbeats 1000000 in
set_option maxRecDepth 100000 in
theorem test59 (bi m : Nat) (L : List Sp) (d : Sp) (w : World) (hb : w.cell? ⟨bi, 0, none⟩ = some (.map (some m))) (hS : SetW w m L) (hd : InR d) :
    Calls Tryd.prog 59 #[spv d, .pointer (some ⟨bi, 0, none⟩)] w fun e w' => e = .returned (.bool (decide (d ∈ L))) ∧ Below w.heap.size w w' := by
  obtain ⟨p, x, y⟩ := d
  have hl := World.block_lt_of_cell? w _ hb
  have hlk := setW_look (setW_kept (row := none) hS (World.grownBy_alloc w (Obj.cells #[Value.int IntKind.i64 p, Value.int IntKind.i64 x, Value.int IntKind.i64 y] 87) none) (by simp)) hd
  unfold spv at hlk ⊢
  simp only at hl hlk ⊢
  generalize decide ((p, x, y) ∈ L) = t at *
  clear hS hd
  go_enter Tryd.func59, Tryd.ntmps59
  go_wp2
  go_ret
  exact ⟨rfl, (Below.refl _ _).alloc (Nat.le_refl _) _⟩
theorem testC59 {bi m : Nat} {L : List Sp} {w : World} (hb : w.cell? ⟨bi, 0, none⟩ = some (.map (some m))) (hS : SetW w m L) : TestC w 59 #[.pointer (some ⟨bi, 0, none⟩)] (fun d => decide (d ∈ L)) :=
  ⟨enters_f Tryd.func59 (by kernel_rfl) rfl, fun W d hW hd => test59 bi m L d W ((hW.cell (World.block_lt_of_cell? w _ hb)).trans hb) (setW_below hS hW (setW_lt hS)) hd⟩

set_option maxHeartbeats 1000000 in
set_option maxRecDepth 100000 in
theorem test60 (bi m : Nat) (L : List Sp) (d : Sp) (w : World) (hb : w.cell? ⟨bi, 0, none⟩ = some (.map (some m))) (hS : SetW w m L) (hd : InR d) :
    Calls Tryd.prog 60 #[spv d, .pointer (some ⟨bi, 0, none⟩)] w fun e w' => e = .returned (.bool (decide (d ∈ L))) ∧ Below w.heap.size w w' := by
  obtain ⟨p, x, y⟩ := d
  have hl := World.block_lt_of_cell? w _ hb
  have hlk := setW_look (setW_kept (row := none) hS (World.grownBy_alloc w (Obj.cells #[Value.int IntKind.i64 p, Value.int IntKind.i64 x, Value.int IntKind.i64 y] 87) none) (by simp)) hd
  unfold spv at hlk ⊢
  simp only at hl hlk ⊢
  generalize decide ((p, x, y) ∈ L) = t at *
  clear hS hd
  go_enter Tryd.func60, Tryd.ntmps60
  go_wp2
  go_ret
  exact ⟨rfl, (Below.refl _ _).alloc (Nat.le_refl _) _⟩
theorem testC60 {bi m : Nat} {L : List Sp} {w : World} (hb : w.cell? ⟨bi, 0, none⟩ = some (.map (some m))) (hS : SetW w m L) : TestC w 60 #[.pointer (some ⟨bi, 0, none⟩)] (fun d => decide (d ∈ L)) :=
  ⟨enters_f Tryd.func60 (by kernel_rfl) rfl, fun W d hW hd => test60 bi m L d W ((hW.cell (World.block_lt_of_cell? w _ hb)).trans hb) (setW_below hS hW (setW_lt hS)) hd⟩

/-- 'm[c] = n' -/
theorem wpl_put_num {ops : Array Oper} {rest : List Oper} {o : Oper} {a : Act} {Q : Exit → Act → World → Prop} {W : World}
    (hg : o.guard = none) (m x v : Operand) (hop : o.op = Op.mapUpdate 91 m x v) (b n : Nat) (f : Sp → Option Nat) (hm : a.eval m = .map (some b)) (h : NumW W b n f)
    (c : Sp) (hx : a.eval x = spv c) (k : Nat) (hv : a.eval v = .int .i64 k) (hc : InR c) (hk : k ≤ 1000000) (hl : n < 1000000000)
    (hK : ∀ W', NumW W' b (n + 1) (fun d => if d = c then some k else f d) → W.grownBy W' (some b) → W'.heap.size = W.heap.size → wpList Tryd.prog ops Q rest (a.put o.dst undef) W') :
    wpList Tryd.prog ops Q (o :: rest) a W := by
  refine wpList_plain hg fun K' hK' => ?_
  obtain ⟨w', hrun, r1, r2, r3⟩ := numW_put h hc k hk hl
  unfold Oper.wp
  simp [execOp, hop, hm, hx, hv, hrun, Result.andThen]
  exact hK' _ _ (hK w' r1 r2 r3)
theorem numW_mono {W : World} {b n n' : Nat} {f : Sp → Option Nat} (h : NumW W b n f) (hn : n ≤ n') : NumW W b n' f := by
  obtain ⟨D, h, hD⟩ := h
  exact ⟨D, h.mono hn, hD⟩
theorem grown_refl (A : World) (row : Option Nat) : A.grownBy A row := ⟨rfl, rfl, rfl, Nat.le_refl _, fun _ _ _ => rfl⟩

set_option maxHeartbeats 1000000 in
set_option maxRecDepth 100000 in
theorem kernel1_any (bi bl m ml n : Nat) (L : List Sp) (f : Sp → Option Nat) (c : Sp) (w : World) (hb : w.cell? ⟨bi, 0, none⟩ = some (.map (some m))) (hbl : w.cell? ⟨bl, 0, none⟩ = some (.map (some ml))) (hS : SetW w m L) (hN : NumW w ml n f)
    (hc : InR c) (hn : n < 1000000000) :
    Calls Tryd.prog 63 #[spv c, .pointer (some ⟨bi, 0, none⟩), .pointer (some ⟨bl, 0, none⟩)] w fun e w' => e = .returned (.tuple #[]) ∧ NumW w' ml (n + 1) (if c ∈ L then f else fun d => if d = c then some 0 else f d) ∧ w.grownBy w' (some ml) := by
  obtain ⟨p, x, y⟩ := c
  have hl := World.block_lt_of_cell? w _ hb
  have hl2 := World.block_lt_of_cell? w _ hbl
  have hg := World.grownBy_alloc w (Obj.cells #[Value.int IntKind.i64 p, Value.int IntKind.i64 x, Value.int IntKind.i64 y] 87) none
  have hlk := setW_look (setW_kept (row := none) hS hg (by simp)) hc
  have HN := hid (numW_kept (row := none) hN hg (by simp))
  have HG := hid (World.grownBy_alloc w (Obj.cells #[Value.int IntKind.i64 p, Value.int IntKind.i64 x, Value.int IntKind.i64 y] 87) (some ml))
  have HC := hid hc
  unfold spv at hlk ⊢
  simp only at hl hl2 hlk ⊢
  clear hS hN hg hc
  by_cases ht : (p, x, y) ∈ L
  · rw [show decide ((p, x, y) ∈ L) = true by simpa using ht] at hlk
    rw [if_pos ht]
    clear ht
    go_enter Tryd.func63, Tryd.ntmps63
    go_wp2
    go_end0
    exact ⟨rfl, numW_mono HN.out (Nat.le_succ _), HG.out⟩
  · rw [show decide ((p, x, y) ∈ L) = false by simpa using ht] at hlk
    rw [if_neg ht]
    clear ht
    go_enter Tryd.func63, Tryd.ntmps63
    go_wp2_with (first | (at_mapUpdate; refine wpl_put_num (by rfl) _ _ _ (by rfl) ml n f (by rfl) HN.out (p, x, y) (by rfl) 0 (by rfl) HC.out (by omega) hn ?_; intro W' h1 h2 h3) | fail)
    go_end0
    exact ⟨rfl, h1, grown_trans HG.out h2⟩
end Go.Proofs.YtjonbhimbhidpaaDoor

namespace Go.Proofs.YtjonbhimbhidpaaDoor
open Go.RowKit

theorem run_app {P : Program} (w : World) (base : Nat) (t ty e : TypeId) (i : TypeInfo) (z : Value) (size bytes : Nat) (ht : P.underlying t = some (.slice e)) (hi : P.info? e = some i) (hz : i.zero = some z)
    (hsize : i.size = size) (hby : i.bytes = bytes) (hzs : z.cells.size = size) (hsz : 0 < size)
    (v : Value) (n : Nat) (xs : List Value) (hown : w.ownsRow base e size v n xs)
    (a : Addr) (m c : Nat) (news : List Value) (hm0 : 0 < m) (hl : news.length = m * size) (hnews : ∀ (j : Nat) u, news[j]? = some u → w.cell? (a.add j) = some u) (h1 : ∀ u ∈ news, u.oneCell' = true)
    (h63 : n + m ≤ maxLen) (hbytes : (n + m) * bytes ≤ 140737488355328) (hbase : base ≤ w.heap.size) :
    ∃ v' w', (Builtin.append_ #[t, t] ty #[v, .slice (some a) m c]).run P w = .ok v' w' ∧ w'.ownsRow base e size v' (n + m) (xs ++ news) ∧ w.grownBy w' v.ownBlock ∧
      (v'.ownBlock = v.ownBlock ∨ v'.ownBlock = some w.heap.size) := by
  obtain ⟨v', w', hr, h2, h3, _⟩ := run_append_own (P := P) w base t ty e i z size bytes ht hi hz hsize hby hzs hsz v n xs hown a m c news hl hnews h1 h63 hbytes hbase
  refine ⟨v', w', hr, h2, h3, ?_⟩
  subst hsize
  subst hby
  simp only [maxLen] at h63
  rcases hown.2 with ⟨rfl, rfl⟩ | ⟨g, cap, cur, rfl, hbg, hg, hnc, hcm, hcs, htake⟩
  · have hr2 := run_append_nil (P := P) w t ty e i z ht hi hz a m c news hl hnews hm0 (by omega) (by simp only [Nat.zero_add] at hbytes; omega)
    rw [hr2] at hr
    injection hr with e1 _
    subst e1
    exact .inr rfl
  · by_cases hroom : n + m ≤ cap
    · have hfit : n * i.size + news.length ≤ cur.size := by rw [hl, hcs, ← Nat.add_mul]; exact Nat.mul_le_mul_right _ hroom
      have hr2 := run_append_room (P := P) w t ty e i ht hi g n cap cur hg a m c news hl hnews h1 hroom hfit
      rw [hr2] at hr
      injection hr with e1 _
      subst e1
      exact .inl rfl
    · have holds : ∀ (j : Nat) u, xs[j]? = some u → w.cell? ((⟨g, 0, none⟩ : Addr).add j) = some u := hown.cells (g := g) rfl
      have hr2 := run_append_grow (P := P) w t ty e i z ht hi hz ⟨g, 0, none⟩ n cap xs hown.1 holds a m c news hl hnews (by omega) (by omega) (growslice_fits (by omega) hbytes)
      rw [hr2] at hr
      injection hr with e1 _
      subst e1
      exact .inr rfl

/-- what an append leaves: the world has grown, of what was there the row that was appended to alone may have turned -/
structure AppTo (w : World) (v : Value) (w' : World) (v' : Value) : Prop where
  grown : w.grownBy w' v.ownBlock
  block : v'.ownBlock = v.ownBlock ∨ v'.ownBlock = some w.heap.size

theorem below_app {w w' : World} {v v' : Value} {B : Nat} (ha : AppTo w v w' v') (hB : B ≤ w.heap.size) (hv : ∀ k, v.ownBlock = some k → B ≤ k) : Below B w w' :=
  (Below.refl B w).grown ha.grown hB hv
/-- append of one value of 'size' cells, that the walk has just laid in a block of its own -/
theorem wpl_appn {P : Program} {ops : Array Oper} {rest : List Oper} {o : Oper} {a : Act} {Q : Exit → Act → World → Prop} {W : World}
    (hgd : o.guard = none) (s x : Operand) (t e : TypeId) (ho : o.op = .call { callee := .builtin .append, args := #[s, x], argTypes := #[t, t] })
    (z : Value) (size bytes : Nat) (hi : (P.info? e).map (fun i => (i.zero, i.size, i.bytes)) = some (some z, size, bytes)) (hz : z.cells.size = size) (hsz : 0 < size)
    (ht : P.underlying t = some (.slice e)) (v : Value) (B n : Nat) (xs : List Value) (hs : a.eval s = v) (hown : W.ownsRow B e size v n xs)
    (us : List Value) (hul : us.length = size) (hu : ∀ u ∈ us, u.oneCell' = true) (hx : a.eval x = .slice (some ⟨W.heap.size, 0, none⟩) 1 1)
    (hlen : (n + 1) * bytes ≤ 140737488355328) (hl2 : n + 1 ≤ maxLen) (hB : B ≤ W.heap.size)
    (h : ∀ v' w', w'.ownsRow B e size v' (n + 1) (xs ++ us) → AppTo (W.alloc (.cells us.toArray e)) v w' v' → wpList P ops Q rest (a.put o.dst v') w') :
    wpList P ops Q (o :: rest) a (W.alloc (.cells us.toArray e)) := by
  cases hi0 : P.info? e with
  | none => rw [hi0] at hi; cases hi
  | some i =>
    rw [hi0] at hi
    simp only [Option.map_some, Option.some.injEq, Prod.mk.injEq] at hi
    obtain ⟨h1, h2, h3⟩ := hi
    have hcells : ∀ (j : Nat) u, us[j]? = some u → (W.alloc (.cells us.toArray e)).cell? ((⟨W.heap.size, 0, none⟩ : Addr).add j) = some u := by
      intro j u hu
      have hadd : (⟨W.heap.size, 0, none⟩ : Addr).add j = ⟨W.heap.size, j, none⟩ := by unfold Addr.add; split <;> simp_all
      rw [hadd, World.cell?, heap_alloc_new]
      simpa using hu
    obtain ⟨v', w', hr, g1, g2, g3⟩ := run_app (P := P) (W.alloc (.cells us.toArray e)) B t o.type e i z size bytes ht hi0 h1 h2 h3 hz hsz v n xs (World.ownsRow.alloc hown _)
      ⟨W.heap.size, 0, none⟩ 1 1 us (by decide) (by rw [hul]; simp) hcells hu hl2 hlen (by simp; omega)
    refine wpList_plain hgd fun K hK => ?_
    unfold Oper.wp execOp
    simp only [ho, resolve, invoke, builtin, Sem.run_bind, Sem.run_pure, Result.andThen_ok, List.map_toArray, List.map_cons, List.map_nil, hs, hx, hr]
    exact hK _ _ (h v' w' g1 ⟨g2, g3⟩)

/-- the cells of a list of cells -/
def scells (xs : List Sp) : List Value := xs.flatMap fun c => [.int .i64 c.1, .int .i64 c.2.1, .int .i64 c.2.2]
theorem scells_append (xs : List Sp) (r : Sp) : scells (xs ++ [r]) = scells xs ++ [.int .i64 r.1, .int .i64 r.2.1, .int .i64 r.2.2] := by simp [scells]
theorem scells_length (xs : List Sp) : (scells xs).length = xs.length * 3 := by
  induction xs with
  | nil => rfl
  | cons a xs ih => simp only [scells, List.flatMap_cons, List.length_append, List.length_cons, List.length_nil] at *; omega
def sAt (xs : List Sp) (i : Nat) : Sp := xs.getD i (0, 0, 0)
theorem scells_at (xs : List Sp) : ∀ i, i < xs.length → (scells xs)[i * 3]? = some (.int .i64 (sAt xs i).1) ∧ (scells xs)[i * 3 + 1]? = some (.int .i64 (sAt xs i).2.1) ∧ (scells xs)[i * 3 + 2]? = some (.int .i64 (sAt xs i).2.2) := by
  induction xs with
  | nil => intro i h; simp at h
  | cons a xs ih =>
    intro i h
    cases i with
    | zero => simp [scells, sAt]
    | succ i =>
      have := ih i (by simpa using h)
      have e1 : (i + 1) * 3 = i * 3 + 3 := by omega
      rw [e1]
      have h2 : sAt (a :: xs) (i + 1) = sAt xs i := by simp [sAt]
      rw [h2]
      simpa [scells] using this
/-- the call's own slice of cells, of type e -/
def OwnS (w : World) (B : Nat) (e : TypeId) (v : Value) (xs : List Sp) : Prop := w.ownsRow B e 3 v xs.length (scells xs)
theorem ownS_nil (w : World) (B : Nat) (e : TypeId) : OwnS w B e (.slice none 0 0) [] := World.ownsRow_nil _ _ _ _
/-- the value v reads as the list xs of cells -/
def IsSp (w : World) (v : Value) (xs : List Sp) : Prop :=
  ∃ a c, v = .slice a xs.length c ∧ xs.length ≤ maxLen ∧ ∀ i, i < xs.length → ∃ g, a = some ⟨g, 0, none⟩ ∧
    w.cell? ⟨g, i * 3, none⟩ = some (.int .i64 (sAt xs i).1) ∧ w.cell? ⟨g, i * 3 + 1, none⟩ = some (.int .i64 (sAt xs i).2.1) ∧ w.cell? ⟨g, i * 3 + 2, none⟩ = some (.int .i64 (sAt xs i).2.2)
theorem ownS_isSp {w : World} {B : Nat} {e : TypeId} {v : Value} {xs : List Sp} (h : OwnS w B e v xs) : IsSp w v xs := by
  obtain ⟨h1, h2 | ⟨g, cap, cur, rfl, hB, hh, hn, hm, hs, ht⟩⟩ := h
  · obtain ⟨rfl, h0⟩ := h2
    refine ⟨none, 0, by rw [h0], by omega, fun i hi => by omega⟩
  · refine ⟨_, cap, rfl, by omega, fun i hi => ⟨g, rfl, ?_⟩⟩
    obtain ⟨c0, c1, c2⟩ := scells_at xs i hi
    have hc : ∀ j, j < xs.length * 3 → w.cell? ⟨g, j, none⟩ = (scells xs)[j]? := by
      intro j hj
      rw [← ht, List.getElem?_take, if_pos hj, World.cell?, hh]
      simp
    exact ⟨by rw [hc _ (by omega)]; exact c0, by rw [hc _ (by omega)]; exact c1, by rw [hc _ (by omega)]; exact c2⟩
theorem isSp_below {w w' : World} {v : Value} {xs : List Sp} (h : IsSp w v xs) (hb : Below w.heap.size w w') : IsSp w' v xs := by
  obtain ⟨a, c, rfl, hl, hc⟩ := h
  refine ⟨a, c, rfl, hl, fun i hi => ?_⟩
  obtain ⟨g, ha, c0, c1, c2⟩ := hc i hi
  have hlt := World.block_lt_of_cell? w _ c0
  exact ⟨g, ha, (hb.cell (p := ⟨g, i * 3, none⟩) hlt).trans c0, (hb.cell (p := ⟨g, i * 3 + 1, none⟩) hlt).trans c1, (hb.cell (p := ⟨g, i * 3 + 2, none⟩) hlt).trans c2⟩
theorem ownS_below {w w' : World} {B : Nat} {e : TypeId} {v : Value} {xs : List Sp} (h : OwnS w B e v xs) (hb : Below w.heap.size w w') : OwnS w' B e v xs := by
  have hlt := h.lt
  obtain ⟨h1, h2⟩ := h
  refine ⟨h1, h2.imp_right ?_⟩
  rintro ⟨g, cap, cur, rfl, hB, hh, r⟩
  exact ⟨g, cap, cur, rfl, hB, by rw [hb.block g (hlt g rfl).2]; exact hh, r⟩
theorem ownS_lt {w : World} {B : Nat} {e : TypeId} {v : Value} {xs : List Sp} (h : OwnS w B e v xs) : ∀ k, v.ownBlock = some k → B ≤ k ∧ k < w.heap.size := h.lt
/-- a slice that is not nil has cells -/
theorem ownS_empty {w : World} {B : Nat} {e : TypeId} {a : Option Addr} {n c : Nat} {xs : List Sp} (h : OwnS w B e (.slice a n c) xs) : n = xs.length := by
  obtain ⟨h1, h2 | ⟨g, cap, cur, hv, hB, hh, hn, hm, hs, ht⟩⟩ := h
  · obtain ⟨hv, h0⟩ := h2
    cases hv; exact h0.symm
  · cases hv; rfl
theorem info87 : (Tryd.prog.info? 87).map (fun i => (i.zero, i.size, i.bytes)) = some (some (.agg #[.int .i64 0, .int .i64 0, .int .i64 0]), 3, 24) := by kernel_rfl
/-- append of one cell -/
theorem wpl_app_sp {ops : Array Oper} {rest : List Oper} {o : Oper} {a : Act} {Q : Exit → Act → World → Prop} {W : World} (c : Sp)
    (s x : Operand) (v : Value) (B : Nat) (xs : List Sp)
    (hgd : o.guard = none) (ho : o.op = .call { callee := .builtin .append, args := #[s, x], argTypes := #[114, 114] })
    (hs : a.eval s = v) (hx : a.eval x = .slice (some ⟨W.heap.size, 0, none⟩) 1 1)
    (hown : OwnS W B 87 v xs) (hlen : xs.length < 100000000) (hB : B ≤ W.heap.size)
    (h : ∀ v' w', OwnS w' B 87 v' (xs ++ [c]) → AppTo (W.alloc (.cells #[.int .i64 c.1, .int .i64 c.2.1, .int .i64 c.2.2] 87)) v w' v' → wpList Tryd.prog ops Q rest (a.put o.dst v') w') :
    wpList Tryd.prog ops Q (o :: rest) a (W.alloc (.cells #[.int .i64 c.1, .int .i64 c.2.1, .int .i64 c.2.2] 87)) :=
  wpl_appn hgd s x 114 87 ho (.agg #[.int .i64 0, .int .i64 0, .int .i64 0]) 3 24 info87 rfl (by decide) Tryd.underlying114 v B xs.length (scells xs) hs hown [.int .i64 c.1, .int .i64 c.2.1, .int .i64 c.2.2] rfl (by simp [Value.oneCell']) hx
    (by omega) (by unfold maxLen; omega) hB
    (fun v' w' h1 h2 => h v' w' (by unfold OwnS; rw [scells_append, List.length_append]; exact h1) h2)
end Go.Proofs.YtjonbhimbhidpaaDoor

namespace Go.Proofs.YtjonbhimbhidpaaDoor
open Go.RowKit

theorem box1_free {W : World} {g : Nat} {v : Value} {t : TypeId} (h : W.heap[g]? = some (.cells #[v] t)) : W.frozen? ⟨g, 0, none⟩ = false := by simp [World.frozen?, h]
theorem heap_setCell1 {W : World} {g : Nat} {v u : Value} {t : TypeId} (h : W.heap[g]? = some (.cells #[v] t)) : (W.setCell ⟨g, 0, none⟩ u).heap[g]? = some (.cells #[u] t) := by
  simp [World.setCell, Array.getElem?_modify, h]

theorem ownS_setCell {w : World} {B M : Nat} {e : TypeId} {v : Value} {xs : List Sp} (h : OwnS w B e v xs) (hM : M < B) (u : Value) : OwnS (w.setCell ⟨M, 0, none⟩ u) B e v xs := by
  obtain ⟨h1, h2⟩ := h
  refine ⟨h1, h2.imp_right ?_⟩
  rintro ⟨g, cap, cur, rfl, hB, hh, r⟩
  exact ⟨g, cap, cur, rfl, hB, by rw [Below.heap_setCell _ _ _ _ (by show g ≠ M; omega)]; exact hh, r⟩
theorem ownS_slice {w : World} {B : Nat} {e : TypeId} {v : Value} {xs : List Sp} (h : OwnS w B e v xs) : ∃ a c, v = .slice a xs.length c := by
  obtain ⟨a, c, h, _⟩ := ownS_isSp h
  exact ⟨a, c, h⟩

set_option maxHeartbeats 1000000 in
set_option maxRecDepth 100000 in
theorem kernel2_any (b bi bo m : Nat) (vs vm vj : Value) (o : Ov) (c : Sp) (L : List Sp) (v : Value) (xs : List Sp) (w0 w : World) (M : Nat) (hM : w0.heap.size = M) (hbi : w0.cell? ⟨bi, 0, none⟩ = some (.map (some m))) (hbo : w0.cell? ⟨bo, 0, none⟩ = some (.pointer (some ⟨b, 0, none⟩)))
    (ho : OvAt w0 b vs vm vj o) (hok : o.Ok) (hc : o.ex c = true) (hS : SetW w0 m L) (hb : Below M w0 w) (hv : w.heap[M]? = some (.cells #[v] 114)) (hO : OwnS w (M + 1) 87 v xs) (hx : xs.length < 1000000) (hR : InR c) :
    Calls Tryd.prog 64 #[spv c, .pointer (some ⟨bi, 0, none⟩), .pointer (some ⟨bo, 0, none⟩), .pointer (some ⟨M, 0, none⟩)] w fun e w' => e = .returned (.tuple #[]) ∧ Below M w0 w' ∧
      ∃ v', w'.heap[M]? = some (.cells #[v'] 114) ∧ OwnS w' (M + 1) 87 v' (if (decide (c ∈ L) && !o.canM (fun d => decide (d ∈ L)) c) = true then xs ++ [c] else xs) ∧ Hid ((decide (c ∈ L) && !o.canM (fun d => decide (d ∈ L)) c) = false → v' = v) := by
  have hmf : ∀ (fn : Fn) (first cap : Array Value) (w : World), (Instr.makeFunc fn first cap).run Tryd.prog w = .ok (.func fn first cap) w := fun _ _ _ _ => rfl
  obtain ⟨p, x, y⟩ := c
  have hl := World.block_lt_of_cell? w0 _ hbi
  have hl2 := World.block_lt_of_cell? w0 _ hbo
  have hl3 := setW_lt hS
  have hsz := hb.size
  rw [hM] at hl hl2 hl3 hsz
  have ho' : ∀ X, Below M w0 X → OvAt X b vs vm vj o := fun X hX => ovAt_below ho (by rw [hM]; exact hX)
  have gi := (hb.cell (p := ⟨bi, 0, none⟩) hl).trans hbi
  have go' := (hb.cell (p := ⟨bo, 0, none⟩) hl2).trans hbo
  have hMw : M < w.heap.size := (Array.getElem?_eq_some_iff.1 hv).1
  have gl : bi < w.heap.size := Nat.lt_of_lt_of_le hl hsz
  have gl2 : bo < w.heap.size := Nat.lt_of_lt_of_le hl2 hsz
  -- the world behind the box
  obtain ⟨W, hW⟩ : ∃ W, W = w.alloc (Obj.cells #[Value.int IntKind.i64 p, Value.int IntKind.i64 x, Value.int IntKind.i64 y] 87) := ⟨_, rfl⟩
  have hbW : Below M w0 W := by rw [hW]; exact hb.alloc hsz _
  have hlk := setW_look (setW_below hS hbW hl3) hR
  have cm := hid (move_any b vs vm vj o (p, x, y) 65 #[.pointer (some ⟨bi, 0, none⟩)] _ W (ho' W hbW) hok hc (testC65 ((hbW.cell (p := ⟨bi, 0, none⟩) hl).trans hbi) (setW_below hS hbW hl3)))
  have gv := hid hv
  have HO := hid hO
  have HBW := hid hbW
  have HB := hid hb
  have hneg := move_neg' o (fun d => decide (d ∈ L)) (p, x, y)
  unfold spv at hlk cm ⊢
  simp only at hl hl2 hlk cm ⊢
  rw [hW] at hlk
  generalize o.canM (fun d => decide (d ∈ L)) (p, x, y) = t at *
  generalize o.move (fun d => decide (d ∈ L)) (p, x, y) = r at *
  generalize decide ((p, x, y) ∈ L) = u at *
  have HW := hid hW
  have gvW : Hid (W.heap[M]? = some (.cells #[v] 114)) := by rw [hW]; exact (Below.heap_alloc _ _ _ hMw).trans hv
  have HOW : Hid (OwnS W (M + 1) 87 v xs) := by rw [hW]; exact World.ownsRow.alloc hO _
  have boxW : Hid (W.heap[w.heap.size]? = some (.cells #[.int .i64 p, .int .i64 x, .int .i64 y] 87)) := by rw [hW]; exact heap_alloc_new _ _
  have hne : Hid (some M ≠ v.ownBlock) := fun e => by have := (ownS_lt hO M e.symm).1; omega
  have hWsz : W.heap.size = w.heap.size + 1 := by rw [hW]; simp
  clear hbW hS ho ho' hok hc hR hO hv hbi hbo hb hW hM
  cases u
  · go_enter Tryd.func64, Tryd.ntmps64
    go_wp2
    go_end0
    refine ⟨rfl, ?_, v, ?_, ?_, (rfl : v = v)⟩
    · rw [← HW.out]; exact HBW.out
    · exact (Below.heap_alloc _ _ _ hMw).trans gv.out
    · exact World.ownsRow.alloc HO.out _
  · cases t
    · go_enter Tryd.func64, Tryd.ntmps64
      go_wp2_with (first
        | (go_at_call 46; rw [← HW.out]; refine (cm.out).mono ?_; rintro e w2 ⟨rfl, hb2⟩; have g2 := (hb2.block M (by omega)).trans gvW.out; have c2 := box1 g2; have f2 := box1_free g2; obtain ⟨k0, k1, k2⟩ := cells3_of ((hb2.block w.heap.size (by omega)).trans boxW.out); have h2sz := hb2.size; have hm2 : M < w2.heap.size := (by omega); have G2 := hid g2; have HO2 := hid (ownS_below HOW.out hb2); have HB2 := hid hb2; clear g2 hb2)
        | (at_builtin; refine wpl_app_sp (p, x, y) _ _ v (M + 1) xs (by rfl) (by rfl) (by rfl) (by rfl) HO2.out (by omega) (by omega) ?_; intro v' w3 hown3 happ3; obtain ⟨sa, sc, rfl⟩ := ownS_slice hown3; have g3 := (happ3.grown.block M (by simp; omega) hne.out).trans ((Below.heap_alloc _ _ _ hm2).trans G2.out); have c3 := box1 g3; have f3 := box1_free g3; have G3 := hid g3; have HO3 := hid hown3; have HA3 := hid happ3; clear g3 hown3 happ3)
        | fail)
      go_end0
      refine ⟨rfl, ?_, .slice sa (xs.length + 1) sc, heap_setCell1 G3.out, ?_, trivial⟩
      · have b2 : Below M w0 w2 := HBW.out.trans (HB2.out.mono (by omega))
        have b3 := (b2.alloc (by omega) (Obj.cells #[Value.int IntKind.i64 p, Value.int IntKind.i64 x, Value.int IntKind.i64 y] 87)).grown HA3.out.grown (by simp; omega) (fun k hk => Nat.le_of_lt (ownS_lt HO2.out k hk).1)
        exact b3.setCell (p := ⟨M, 0, none⟩) (Nat.le_refl _) _
      · exact ownS_setCell (by have := HO3.out; rwa [List.length_append] at this) (Nat.lt_succ_self M) _
    · go_enter Tryd.func64, Tryd.ntmps64
      go_wp2_with (first | (go_at_call 46; rw [← HW.out]; refine (cm.out).mono ?_; rintro e w2 ⟨rfl, hb2⟩; have g2 := (hb2.block M (by omega)).trans gvW.out; have G2 := hid g2; have HB2 := hid hb2; clear g2 hb2) | fail)
      go_end0
      refine ⟨rfl, HBW.out.trans (HB2.out.mono (by omega)), v, G2.out, ?_, (rfl : v = v)⟩
      exact ownS_below HOW.out HB2.out
end Go.Proofs.YtjonbhimbhidpaaDoor

namespace Go.Proofs.YtjonbhimbhidpaaDoor

def Ov.lostE (o : Ov) (k : Nat) (c : Sp) : Option Nat := if o.ex c then o.lost k c else none
def Ov.ker (o : Ov) (k : Nat) : List Sp := o.cells.filter (o.K k)
def Ov.outF (o : Ov) (k : Nat) (c : Sp) : Bool := o.K k c && !o.canM (o.K k) c
def Ov.outL (o : Ov) (k : Nat) : List Sp := o.cells.filter (o.outF k)
def Ov.inL (o : Ov) (k i : Nat) : List Sp := o.cells.filter fun c => o.K k c && !decide (c ∈ (o.outL k).take i)
def Ov.lostI (o : Ov) (k i : Nat) (c : Sp) : Option Nat := if c ∈ (o.outL k).take i then some (k + 1) else o.lostE k c
def Ov.first (o : Ov) (i : Nat) (c : Sp) : Option Nat := if decide (c ∈ o.cells.take i) && !decide (c ∈ o.ker 0) then some 0 else none

theorem mem_ker (o : Ov) (k : Nat) (c : Sp) : c ∈ o.ker k ↔ o.K k c = true := by
  unfold Ov.ker
  rw [List.mem_filter, mem_cells]
  exact ⟨fun h => h.2, fun h => ⟨K_ex o k c h, h⟩⟩
theorem dec_ker (o : Ov) (k : Nat) : (fun d => decide (d ∈ o.ker k)) = o.K k := by
  funext d
  rw [Bool.eq_iff_iff, decide_eq_true_eq, mem_ker]
theorem mem_outL (o : Ov) (k : Nat) (c : Sp) : c ∈ o.outL k ↔ o.outF k c = true := by
  unfold Ov.outL
  rw [List.mem_filter, mem_cells]
  refine ⟨fun h => h.2, fun h => ⟨?_, h⟩⟩
  unfold Ov.outF at h
  simp only [Bool.and_eq_true] at h
  exact K_ex o k c h.1
theorem nodup_outL (o : Ov) (k : Nat) : (o.outL k).Nodup := (nodup_cells o).filter _
theorem ker0 (o : Ov) : o.cells.filter (inG o.safe) = o.ker 0 := by
  unfold Ov.ker
  refine List.filter_congr fun c hc => ?_
  rw [mem_cells] at hc
  simp [Ov.K, hc]
theorem take_cells' (o : Ov) (i : Nat) (h : i < o.N) : o.cells.take (i + 1) = o.cells.take i ++ [o.cellAt i] := by
  rw [List.take_add_one]
  simp [Ov.cells, h]
theorem first_zero (o : Ov) : o.first 0 = fun _ => none := by funext c; simp [Ov.first]
theorem first_succ (o : Ov) (i : Nat) (h : i < o.N) : (if o.cellAt i ∈ o.ker 0 then o.first i else fun d => if d = o.cellAt i then some 0 else o.first i d) = o.first (i + 1) := by
  funext c
  unfold Ov.first
  rw [take_cells' o i h]
  by_cases hk : o.cellAt i ∈ o.ker 0
  · rw [if_pos hk]
    by_cases e : c = o.cellAt i
    · subst e; simp [hk]
    · simp [e]
  · rw [if_neg hk]
    by_cases e : c = o.cellAt i
    · subst e; simp [hk]
    · simp [e]
theorem first_end (o : Ov) : o.first o.N = o.lostE 0 := by
  funext c
  unfold Ov.first Ov.lostE
  rw [List.take_of_length_le (by simp [Ov.cells])]
  simp only [Ov.lost]
  by_cases h : o.ex c = true
  · by_cases h2 : o.K 0 c = true
    · simp [mem_cells, mem_ker, h, h2]
    · simp [mem_cells, mem_ker, h, h2]
  · simp [mem_cells, h]
theorem inL_zero (o : Ov) (k : Nat) : o.inL k 0 = o.ker k := by simp [Ov.inL, Ov.ker]
theorem inL_end (o : Ov) (k : Nat) : o.inL k (o.outL k).length = o.ker (k + 1) := by
  unfold Ov.inL Ov.ker
  refine List.filter_congr fun c hc => ?_
  rw [List.take_length]
  simp only [Ov.K, mem_outL, Ov.outF]
  cases o.K k c <;> simp
theorem out_take_succ (o : Ov) (k i : Nat) (h : i < (o.outL k).length) : (o.outL k).take (i + 1) = (o.outL k).take i ++ [(o.outL k)[i]] := by
  rw [List.take_add_one]; simp [h]
theorem mem_out_succ (o : Ov) (k i : Nat) (h : i < (o.outL k).length) (c : Sp) : c ∈ (o.outL k).take (i + 1) ↔ c ∈ (o.outL k).take i ∨ c = (o.outL k)[i] := by
  rw [out_take_succ o k i h, List.mem_append, List.mem_singleton]
theorem out_not_mem (o : Ov) (k i : Nat) (h : i < (o.outL k).length) : (o.outL k)[i] ∉ (o.outL k).take i := by
  have h2 : ((o.outL k).take (i + 1)).Nodup := (nodup_outL o k).sublist (List.take_sublist _ _)
  rw [out_take_succ o k i h, List.nodup_append] at h2
  intro hm
  exact h2.2.2 _ hm _ (by simp) rfl
theorem out_mem (o : Ov) (k i : Nat) (h : i < (o.outL k).length) : (o.outL k)[i] ∈ o.inL k i := by
  have h1 := (mem_outL o k _).1 (List.getElem_mem h)
  have h2 := out_not_mem o k i h
  unfold Ov.outF at h1
  simp only [Bool.and_eq_true] at h1
  unfold Ov.inL
  rw [List.mem_filter, mem_cells]
  exact ⟨K_ex o k _ h1.1, by simp [h1.1, h2]⟩
theorem inL_succ (o : Ov) (k i : Nat) (h : i < (o.outL k).length) : (o.inL k i).erase (o.outL k)[i] = o.inL k (i + 1) := by
  unfold Ov.inL
  rw [List.Nodup.erase_eq_filter ((nodup_cells o).filter _), List.filter_filter]
  refine List.filter_congr fun c hc => ?_
  have hm := mem_out_succ o k i h c
  generalize (o.outL k)[i] = q at *
  by_cases e : c = q
  · simp [e] at hm; simp [e, hm]
  · simp [e] at hm; simp [e, hm]
theorem lostI_zero (o : Ov) (k : Nat) : o.lostI k 0 = o.lostE k := by funext c; simp [Ov.lostI]
theorem lostI_succ (o : Ov) (k i : Nat) (h : i < (o.outL k).length) : (fun d => if d = (o.outL k)[i] then some (k + 1) else o.lostI k i d) = o.lostI k (i + 1) := by
  funext c
  unfold Ov.lostI
  have hm := mem_out_succ o k i h c
  generalize (o.outL k)[i] = q at *
  by_cases e : c = q
  · simp [e] at hm; simp [e, hm]
  · simp [e] at hm; simp [e, hm]
theorem lostI_end (o : Ov) (k : Nat) : o.lostI k (o.outL k).length = o.lostE (k + 1) := by
  funext c
  unfold Ov.lostI Ov.lostE
  rw [List.take_length]
  have h0 := lost_none o k c
  by_cases h : c ∈ o.outL k
  · rw [if_pos h]
    have h1 := (mem_outL o k c).1 h
    unfold Ov.outF at h1
    simp only [Bool.and_eq_true, Bool.not_eq_true'] at h1
    rw [K_ex o k c h1.1]
    simp only [Ov.lost, h0.2 h1.1]
    simp [Ov.K, h1.2]
  · rw [if_neg h]
    have h1 : o.outF k c = false := by
      cases e : o.outF k c
      · rfl
      · exact absurd ((mem_outL o k c).2 e) h
    unfold Ov.outF at h1
    simp only [Ov.lost]
    cases e : o.lost k c with
    | some j => rfl
    | none =>
      have h2 := h0.1 e
      have h4 : o.K (k + 1) c = true := by simp [h2] at h1; simp [Ov.K, h2, h1]
      simp [h4]
theorem still_of_out (o : Ov) (k : Nat) (h : o.outL k = []) : o.still k := by
  intro c
  simp only [Ov.K]
  cases e : o.K k c
  · rfl
  · cases e2 : o.canM (o.K k) c
    · have : c ∈ o.outL k := (mem_outL o k c).2 (by simp [Ov.outF, e, e2])
      rw [h] at this; simp at this
    · rfl
theorem count_out (o : Ov) (k : Nat) : (o.ker (k + 1)).length + (o.outL k).length = (o.ker k).length := by
  unfold Ov.ker Ov.outL
  have : ∀ l : List Sp, (l.filter (o.K (k + 1))).length + (l.filter (o.outF k)).length = (l.filter (o.K k)).length := by
    intro l
    induction l with
    | nil => rfl
    | cons a l ih =>
      have e1 : o.K (k + 1) a = (o.K k a && o.canM (o.K k) a) := rfl
      have e2 : o.outF k a = (o.K k a && !o.canM (o.K k) a) := rfl
      simp only [List.filter_cons]
      generalize o.K (k + 1) a = x at *
      generalize o.outF k a = y at *
      generalize o.K k a = z at *
      generalize o.canM (o.K k) a = t at *
      subst e1 e2
      cases z <;> cases t <;> simp <;> omega
  exact this o.cells
theorem ker_le (o : Ov) (k : Nat) : (o.ker k).length ≤ o.N := by
  unfold Ov.ker
  have := List.length_filter_le (o.K k) o.cells
  simp [Ov.cells] at this ⊢
  omega
theorem outL_le (o : Ov) (k : Nat) : (o.outL k).length ≤ o.N := by
  have := count_out o k
  have := ker_le o k
  omega
theorem outF_take (o : Ov) (k : Nat) : ∀ i, ((o.cells.take i).filter (o.outF k)).length ≤ o.N := by
  intro i
  have h1 := List.length_filter_le (o.outF k) (o.cells.take i)
  have h2 : (o.cells.take i).length ≤ o.cells.length := by rw [List.length_take]; omega
  simp [Ov.cells] at h1 h2 ⊢
  omega
end Go.Proofs.YtjonbhimbhidpaaDoor
