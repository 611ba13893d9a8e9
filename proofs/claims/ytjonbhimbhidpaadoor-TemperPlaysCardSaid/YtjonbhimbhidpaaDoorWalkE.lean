/-
  Walks over chapter 6: the tests 'return in[d]'; what the first pass of the kernel does at a cell.
-/
import Derived.Test.YtjonbhimbhidpaaDoorWalkD
namespace Go.Proofs.YtjonbhimbhidpaaDoor
open Go.RowKit

set_option maxHeartbeats 1000000 in
set_option maxRecDepth 100000 in
theorem test65 (bi m : Nat) (L : List Sp) (d : Sp) (w : World) (hb : w.cell? ⟨bi, 0, none⟩ = some (.map (some m))) (hS : SetW w m L) (hd : InR d) :
    Calls Tryd.prog 65 #[spv d, .pointer (some ⟨bi, 0, none⟩)] w fun e w' => e = .returned (.bool (decide (d ∈ L))) ∧ Below w.heap.size w w' := by
  obtain ⟨p, x, y⟩ := d
  have hl := World.block_lt_of_cell? w _ hb
  have hlk := setW_look (setW_kept (row := none) hS (World.grownBy_alloc w (Obj.cells #[Value.int IntKind.i64 p, Value.int IntKind.i64 x, Value.int IntKind.i64 y] 87) none) (by simp)) hd
  unfold spv at hlk ⊢
  simp only at hl hlk ⊢
  generalize decide ((p, x, y) ∈ L) = t at *
  clear hS hd
  go_enter Tryd.func65, Tryd.ntmps65
  go_wp2
  go_ret
  exact ⟨rfl, (Below.refl _ _).alloc (Nat.le_refl _) _⟩
theorem testC65 {bi m : Nat} {L : List Sp} {w : World} (hb : w.cell? ⟨bi, 0, none⟩ = some (.map (some m))) (hS : SetW w m L) : TestC w 65 #[.pointer (some ⟨bi, 0, none⟩)] (fun d => decide (d ∈ L)) :=
  ⟨enters_f Tryd.func65 (by kernel_rfl) rfl, fun W d hW hd => test65 bi m L d W ((hW.cell (World.block_lt_of_cell? w _ hb)).trans hb) (setW_below hS hW (setW_lt hS)) hd⟩

set_option maxHeartbeats 1000000 in
set_option maxRecDepth 100000 in
theorem test47 (bi m : Nat) (L : List Sp) (d : Sp) (w : World) (hb : w.cell? ⟨bi, 0, none⟩ = some (.map (some m))) (hS : SetW w m L) (hd : InR d) :
    Calls Tryd.prog 47 #[spv d, .pointer (some ⟨bi, 0, none⟩)] w fun e w' => e = .returned (.bool (decide (d ∈ L))) ∧ Below w.heap.size w w' := by
  obtain ⟨p, x, y⟩ := d
  have hl := World.block_lt_of_cell? w _ hb
  have hlk := setW_look (setW_kept (row := none) hS (World.grownBy_alloc w (Obj.cells #[Value.int IntKind.i64 p, Value.int IntKind.i64 x, Value.int IntKind.i64 y] 87) none) (by simp)) hd
  unfold spv at hlk ⊢
  simp only at hl hlk ⊢
  generalize decide ((p, x, y) ∈ L) = t at *
  clear hS hd
  go_enter Tryd.func47, Tryd.ntmps47
  go_wp2
  go_ret
  exact ⟨rfl, (Below.refl _ _).alloc (Nat.le_refl _) _⟩
theorem testC47 {bi m : Nat} {L : List Sp} {w : World} (hb : w.cell? ⟨bi, 0, none⟩ = some (.map (some m))) (hS : SetW w m L) : TestC w 47 #[.pointer (some ⟨bi, 0, none⟩)] (fun d => decide (d ∈ L)) :=
  ⟨enters_f Tryd.func47 (by kernel_rfl) rfl, fun W d hW hd => test47 bi m L d W ((hW.cell (World.block_lt_of_cell? w _ hb)).trans hb) (setW_below hS hW (setW_lt hS)) hd⟩

set_option maxHeartbeats 1000000 in
set_option maxRecDepth 100000 in
theorem test56 (bi m : Nat) (L : List Sp) (d : Sp) (w : World) (hb : w.cell? ⟨bi, 0, none⟩ = some (.map (some m))) (hS : SetW w m L) (hd : InR d) :
    Calls Tryd.prog 56 #[spv d, .pointer (some ⟨bi, 0, none⟩)] w fun e w' => e = .returned (.bool (decide (d ∈ L))) ∧ Below w.heap.size w w' := by
  obtain ⟨p, x, y⟩ := d
  have hl := World.block_lt_of_cell? w _ hb
  have hlk := setW_look (setW_kept (row := none) hS (World.grownBy_alloc w (Obj.cells #[Value.int IntKind.i64 p, Value.int IntKind.i64 x, Value.int IntKind.i64 y] 87) none) (by simp)) hd
  unfold spv at hlk ⊢
  simp only at hl hlk ⊢
  generalize decide ((p, x, y) ∈ L) = t at *
  clear hS hd
  go_enter Tryd.func56, Tryd.ntmps56
  go_wp2
  go_ret
  exact ⟨rfl, (Below.refl _ _).alloc (Nat.le_refl _) _⟩
theorem testC56 {bi m : Nat} {L : List Sp} {w : World} (hb : w.cell? ⟨bi, 0, none⟩ = some (.map (some m))) (hS : SetW w m L) : TestC w 56 #[.pointer (some ⟨bi, 0, none⟩)] (fun d => decide (d ∈ L)) :=
  ⟨enters_f Tryd.func56 (by kernel_rfl) rfl, fun W d hW hd => test56 bi m L d W ((hW.cell (World.block_lt_of_cell? w _ hb)).trans hb) (setW_below hS hW (setW_lt hS)) hd⟩

set_option maxHeartbeats 1000000 in
set_option maxRecDepth 100000 in
theorem test59 (bi m : Nat) (L : List Sp) (d : Sp) (w : World) (hb : w.cell? ⟨bi, 0, none⟩ = some (.map (some m))) (hS : SetW w m L) (hd : InR d) :
    Calls Tryd.prog 59 #[spv d, .pointer (some ⟨bi, 0, none⟩)] w fun e w' => e = .returned (.bool (decide (d ∈ L))) ∧ Below w.heap.size w w' := by
  obtain ⟨p, x, y⟩ := d
  have hl := World.block_lt_of_cell? w _ hb
  have hlk := setW_look (setW_kept (row := none) hS (World.grownBy_alloc w (Obj.cells #[Value.int IntKind.i64 p, Value.int IntKind.i64 x, Value.int IntKind.i64 y] 87) none) (by simp)) hd
  unfold spv at hlk ⊢
  simp only at hl hlk ⊢
  generalize decide ((p, x, y) ∈ L) = t at *
  clear hS hd
  go_enter Tryd.func59, Tryd.ntmps59
  go_wp2
  go_ret
  exact ⟨rfl, (Below.refl _ _).alloc (Nat.le_refl _) _⟩
theorem testC59 {bi m : Nat} {L : List Sp} {w : World} (hb : w.cell? ⟨bi, 0, none⟩ = some (.map (some m))) (hS : SetW w m L) : TestC w 59 #[.pointer (some ⟨bi, 0, none⟩)] (fun d => decide (d ∈ L)) :=
  ⟨enters_f Tryd.func59 (by kernel_rfl) rfl, fun W d hW hd => test59 bi m L d W ((hW.cell (World.block_lt_of_cell? w _ hb)).trans hb) (setW_below hS hW (setW_lt hS)) hd⟩

set_option maxHeartbeats 1000000 in
set_option maxRecDepth 100000 in
theorem test60 (bi m : Nat) (L : List Sp) (d : Sp) (w : World) (hb : w.cell? ⟨bi, 0, none⟩ = some (.map (some m))) (hS : SetW w m L) (hd : InR d) :
    Calls Tryd.prog 60 #[spv d, .pointer (some ⟨bi, 0, none⟩)] w fun e w' => e = .returned (.bool (decide (d ∈ L))) ∧ Below w.heap.size w w' := by
  obtain ⟨p, x, y⟩ := d
  have hl := World.block_lt_of_cell? w _ hb
  have hlk := setW_look (setW_kept (row := none) hS (World.grownBy_alloc w (Obj.cells #[Value.int IntKind.i64 p, Value.int IntKind.i64 x, Value.int IntKind.i64 y] 87) none) (by simp)) hd
  unfold spv at hlk ⊢
  simp only at hl hlk ⊢
  generalize decide ((p, x, y) ∈ L) = t at *
  clear hS hd
  go_enter Tryd.func60, Tryd.ntmps60
  go_wp2
  go_ret
  exact ⟨rfl, (Below.refl _ _).alloc (Nat.le_refl _) _⟩
theorem testC60 {bi m : Nat} {L : List Sp} {w : World} (hb : w.cell? ⟨bi, 0, none⟩ = some (.map (some m))) (hS : SetW w m L) : TestC w 60 #[.pointer (some ⟨bi, 0, none⟩)] (fun d => decide (d ∈ L)) :=
  ⟨enters_f Tryd.func60 (by kernel_rfl) rfl, fun W d hW hd => test60 bi m L d W ((hW.cell (World.block_lt_of_cell? w _ hb)).trans hb) (setW_below hS hW (setW_lt hS)) hd⟩

/-- 'm[c] = n' -/
theorem wpl_put_num {ops : Array Oper} {rest : List Oper} {o : Oper} {a : Act} {Q : Exit → Act → World → Prop} {W : World}
    (hg : o.guard = none) (m x v : Operand) (hop : o.op = Op.mapUpdate 91 m x v) (b n : Nat) (f : Sp → Option Nat) (hm : a.eval m = .map (some b)) (h : NumW W b n f)
    (c : Sp) (hx : a.eval x = spv c) (k : Nat) (hv : a.eval v = .int .i64 k) (hc : InR c) (hk : k ≤ 1000000) (hl : n < 1000000000)
    (hK : ∀ W', NumW W' b (n + 1) (fun d => if d = c then some k else f d) → W.grownBy W' (some b) → W'.heap.size = W.heap.size → wpList Tryd.prog ops Q rest (a.put o.dst undef) W') :
    wpList Tryd.prog ops Q (o :: rest) a W := by
  refine wpList_plain hg fun K' hK' => ?_
  obtain ⟨w', hrun, r1, r2, r3⟩ := numW_put h hc k hk hl
  unfold Oper.wp
  simp [execOp, hop, hm, hx, hv, hrun, Result.andThen]
  exact hK' _ _ (hK w' r1 r2 r3)
theorem numW_mono {W : World} {b n n' : Nat} {f : Sp → Option Nat} (h : NumW W b n f) (hn : n ≤ n') : NumW W b n' f := by
  obtain ⟨D, h, hD⟩ := h
  exact ⟨D, h.mono hn, hD⟩
theorem grown_refl (A : World) (row : Option Nat) : A.grownBy A row := ⟨rfl, rfl, rfl, Nat.le_refl _, fun _ _ _ => rfl⟩

set_option maxHeartbeats 1000000 in
set_option maxRecDepth 100000 in
theorem kernel1_any (bi bl m ml n : Nat) (L : List Sp) (f : Sp → Option Nat) (c : Sp) (w : World) (hb : w.cell? ⟨bi, 0, none⟩ = some (.map (some m))) (hbl : w.cell? ⟨bl, 0, none⟩ = some (.map (some ml))) (hS : SetW w m L) (hN : NumW w ml n f)
    (hc : InR c) (hn : n < 1000000000) :
    Calls Tryd.prog 63 #[spv c, .pointer (some ⟨bi, 0, none⟩), .pointer (some ⟨bl, 0, none⟩)] w fun e w' => e = .returned (.tuple #[]) ∧ NumW w' ml (n + 1) (if c ∈ L then f else fun d => if d = c then some 0 else f d) ∧ w.grownBy w' (some ml) := by
  obtain ⟨p, x, y⟩ := c
  have hl := World.block_lt_of_cell? w _ hb
  have hl2 := World.block_lt_of_cell? w _ hbl
  have hg := World.grownBy_alloc w (Obj.cells #[Value.int IntKind.i64 p, Value.int IntKind.i64 x, Value.int IntKind.i64 y] 87) none
  have hlk := setW_look (setW_kept (row := none) hS hg (by simp)) hc
  have HN := hid (numW_kept (row := none) hN hg (by simp))
  have HG := hid (World.grownBy_alloc w (Obj.cells #[Value.int IntKind.i64 p, Value.int IntKind.i64 x, Value.int IntKind.i64 y] 87) (some ml))
  have HC := hid hc
  unfold spv at hlk ⊢
  simp only at hl hl2 hlk ⊢
  clear hS hN hg hc
  by_cases ht : (p, x, y) ∈ L
  · rw [show decide ((p, x, y) ∈ L) = true by simpa using ht] at hlk
    rw [if_pos ht]
    clear ht
    go_enter Tryd.func63, Tryd.ntmps63
    go_wp2
    go_end0
    exact ⟨rfl, numW_mono HN.out (Nat.le_succ _), HG.out⟩
  · rw [show decide ((p, x, y) ∈ L) = false by simpa using ht] at hlk
    rw [if_neg ht]
    clear ht
    go_enter Tryd.func63, Tryd.ntmps63
    go_wp2_with (first | (at_mapUpdate; refine wpl_put_num (by rfl) _ _ _ (by rfl) ml n f (by rfl) HN.out (p, x, y) (by rfl) 0 (by rfl) HC.out (by omega) hn ?_; intro W' h1 h2 h3) | fail)
    go_end0
    exact ⟨rfl, h1, grown_trans HG.out h2⟩
end Go.Proofs.YtjonbhimbhidpaaDoor
