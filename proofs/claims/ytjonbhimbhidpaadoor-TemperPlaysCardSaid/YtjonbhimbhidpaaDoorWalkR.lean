/-
  Walks over chapter 6: the reference's At, Cells and Where.
-/
import Derived.Test.YtjonbhimbhidpaaDoorWalkM
namespace Go.Proofs.YtjonbhimbhidpaaDoor
open Go.RowKit

theorem mul_bound (a b A B : Nat) (ha : a ≤ A) (hb : b ≤ B) : 0 ≤ (a : Int) * (b : Int) ∧ (a : Int) * (b : Int) ≤ ((A * B : Nat) : Int) := by
  rw [← Int.natCast_mul]
  have := Nat.mul_le_mul ha hb
  omega

set_option maxHeartbeats 2000000 in
set_option maxRecDepth 100000 in
theorem rAt_any (vs vm vj : Value) (o : Ov) (c : Sp) (w : World) (ho : IsOv w vs vm vj o) (hok : o.Ok) (hc : o.ex c = true) :
    Calls Tryd.prog 21 #[.agg #[vs, vm, vj], spv c] w fun e w' => e = .returned (.int .i64 (o.pos c)) ∧ Below w.heap.size w w' := by
  obtain ⟨p, x, y, rfl, hp, hx, hy⟩ := ex_cell o c hc
  obtain ⟨ga, ca, gb, cb, rfl, hc0, hc9⟩ := first_row ho.safe hok.p.1
  obtain ⟨k, rfl, hc1⟩ := hc9 hok.r.1
  clear hc9
  have b1 := hok.p
  have b2 := hok.r
  have b3 := hok.c
  obtain ⟨P, hP⟩ : ∃ P, P = o.P := ⟨_, rfl⟩
  obtain ⟨R, hR⟩ : ∃ R, R = o.R := ⟨_, rfl⟩
  obtain ⟨C, hC⟩ : ∃ C, C = (strB ((o.safe.getD 0 []).getD 0 [])).size := ⟨_, rfl⟩
  have hC2 : C = o.C := by rw [hC, strB_size]; rfl
  rw [show o.safe.length = P from hP.symm]
  rw [show (o.safe.getD 0 []).length = R from hR.symm] at hc0
  rw [← hP] at b1 hp
  rw [← hR] at b2 hy
  rw [← hC2] at b3 hx
  have hpos : ((o.pos ((p : Int), (x : Int), (y : Int)) : Nat) : Int) = ((p : Int) * (R : Int) + (y : Int)) * (C : Int) + (x : Int) := by
    unfold Ov.pos Ov.at'
    rw [← hR, ← hC2]
    simp
  rw [hpos]
  have hl0 := World.block_lt_of_cell? w _ hc0
  have hl1 := World.block_lt_of_cell? w _ hc1
  simp only at hl0 hl1
  generalize strB ((o.safe.getD 0 []).getD 0 []) = s at *
  subst hC
  have hm1 := mul_bound p R 4 16 (by omega) (by omega)
  have hm2 := mul_bound (p * R + y) s.size 100 16 (by
    have := Nat.mul_le_mul (show p ≤ 4 by omega) (show R ≤ 16 by omega); omega) (by omega)
  rw [Int.natCast_add, Int.natCast_mul] at hm2
  simp only [Nat.reduceMul] at hm1 hm2
  clear hP hR hC2 hpos ho hok hc
  unfold spv
  simp only
  go_enter Tryd.func21, Tryd.ntmps21
  go_wp2
  go_quiet (fail)
  go_wp2
  go_ret
  exact ⟨rfl, below_drewN_r (((Below.refl _ _).alloc (Nat.le_refl _) _).alloc (by simp) _) nq⟩

theorem info28 : (Tryd.prog.info? 28).map (fun i => (i.zero, i.size, i.bytes)) = some (some (.agg #[.int .i64 0, .int .i64 0, .int .i64 0]), 3, 24) := by kernel_rfl
/-- append of one cell, in the reference -/
theorem wpl_app_cell {ops : Array Oper} {rest : List Oper} {o : Oper} {a : Act} {Q : Exit → Act → World → Prop} {W : World} (c : Sp)
    (s x : Operand) (v : Value) (B : Nat) (xs : List Sp)
    (hgd : o.guard = none) (ho : o.op = .call { callee := .builtin .append, args := #[s, x], argTypes := #[57, 57] })
    (hs : a.eval s = v) (hx : a.eval x = .slice (some ⟨W.heap.size, 0, none⟩) 1 1)
    (hown : OwnS W B 28 v xs) (hlen : xs.length < 100000000) (hB : B ≤ W.heap.size)
    (h : ∀ v' w', OwnS w' B 28 v' (xs ++ [c]) → Below B W w' → wpList Tryd.prog ops Q rest (a.put o.dst v') w') :
    wpList Tryd.prog ops Q (o :: rest) a (W.alloc (.cells #[.int .i64 c.1, .int .i64 c.2.1, .int .i64 c.2.2] 28)) :=
  wpl_appn hgd s x 57 28 ho (.agg #[.int .i64 0, .int .i64 0, .int .i64 0]) 3 24 info28 rfl (by decide) Tryd.underlying57 v B xs.length (scells xs) hs hown [.int .i64 c.1, .int .i64 c.2.1, .int .i64 c.2.2] rfl (by simp [Value.oneCell']) hx
    (by omega) (by unfold maxLen; omega) hB
    (fun v' w' h1 h2 => h v' w' (by unfold OwnS; rw [scells_append, List.length_append]; exact h1) (((Below.refl B W).alloc hB _).trans (app_below h2 (by simp; omega) (fun k hk => (hown.lt k hk).1))))
theorem ownS_made (w : World) (B : Nat) (e : TypeId) (hB : B ≤ w.heap.size) : OwnS (w.alloc (.cells #[] e)) B e (.slice (some ⟨w.heap.size, 0, none⟩) 0 0) [] := World.ownsRow_made w #[] 0 hB (by decide) rfl
theorem ownS_slice' {w : World} {B : Nat} {e : TypeId} {v : Value} {xs : List Sp} (h : OwnS w B e v xs) : ∃ a n c, v = .slice a n c := by
  obtain ⟨a, c, h⟩ := ownS_slice h
  exact ⟨a, _, c, h⟩
theorem cells_take_len (o : Ov) (i : Nat) (h : i ≤ o.N) : (o.cells.take i).length = i := by rw [List.length_take, cells_len]; omega

set_option maxHeartbeats 2000000 in
set_option maxRecDepth 100000 in
theorem rCells_any (vs vm vj : Value) (o : Ov) (w : World) (ho : IsOv w vs vm vj o) (hok : o.Ok) :
    Calls Tryd.prog 28 #[.agg #[vs, vm, vj]] w fun e w' => ∃ v, e = .returned v ∧ OwnS w' w.heap.size 28 v o.cells ∧ Below w.heap.size w w' := by
  obtain ⟨ga, ca, gb, cb, rfl, hc0, hc9⟩ := first_row ho.safe hok.p.1
  obtain ⟨k, rfl, hc1⟩ := hc9 hok.r.1
  clear hc9
  have b1 := hok.p
  have b2 := hok.r
  have b3 := hok.c
  have hNN := N_small hok
  obtain ⟨P, hP⟩ : ∃ P, P = o.P := ⟨_, rfl⟩
  obtain ⟨R, hR⟩ : ∃ R, R = o.R := ⟨_, rfl⟩
  obtain ⟨C, hC⟩ : ∃ C, C = (strB ((o.safe.getD 0 []).getD 0 [])).size := ⟨_, rfl⟩
  have hC2 : C = o.C := by rw [hC, strB_size]; rfl
  rw [show o.safe.length = P from hP.symm]
  rw [show (o.safe.getD 0 []).length = R from hR.symm] at hc0
  rw [← hP] at b1
  rw [← hR] at b2
  rw [← hC2] at b3
  have HP := hid hP
  have HR := hid hR
  have HC := hid hC2
  have hl0 := World.block_lt_of_cell? w _ hc0
  have hl1 := World.block_lt_of_cell? w _ hc1
  simp only at hl0 hl1
  generalize strB ((o.safe.getD 0 []).getD 0 []) = s at *
  subst hC
  have HNN := hid hNN
  have HC0 := hid hc0
  have HC1 := hid hc1
  clear hP hR hC2 hok ho hNN hc0 hc1
  have hbx := heap_alloc_new w (.cells #[.slice (some ⟨ga, 0, none⟩) P ca, vm, vj] 26)
  have hbW : Below w.heap.size w (w.alloc (.cells #[.slice (some ⟨ga, 0, none⟩) P ca, vm, vj] 26)) := (Below.refl _ _).alloc (Nat.le_refl _) _
  have hszW : (w.alloc (.cells #[.slice (some ⟨ga, 0, none⟩) P ca, vm, vj] 26)).heap.size = w.heap.size + 1 := by simp
  obtain ⟨W, hW⟩ : ∃ W, W = (w.alloc (.cells #[.slice (some ⟨ga, 0, none⟩) P ca, vm, vj] 26)) := ⟨_, rfl⟩
  have HW := hid hW
  rw [← hW] at hbW hbx hszW
  have HBW := hid hbW
  have HBX := hid hbx
  have HSZ := hid hszW
  -- what is read in every round
  have HRD : Hid (∀ X, Below W.heap.size W X → X.cell? ⟨w.heap.size, 0, none⟩ = some (.slice (some ⟨ga, 0, none⟩) P ca) ∧ X.cell? ⟨ga, 0, none⟩ = some (.slice (some ⟨k, 0, none⟩) R cb) ∧ X.cell? ⟨k, 0, none⟩ = some (.string s) ∧ w.heap.size < X.heap.size ∧ ga < X.heap.size ∧ k < X.heap.size) := by
    intro X hX
    have hsz := hX.size
    rw [HSZ.out] at hsz
    refine ⟨(cells3_of ((hX.block w.heap.size (by rw [HSZ.out]; omega)).trans HBX.out)).1, ?_, ?_, by omega, by omega, by omega⟩
    · exact ((HBW.out.trans (hX.mono HBW.out.size)).cell hl0).trans HC0.out
    · exact ((HBW.out.trans (hX.mono HBW.out.size)).cell hl1).trans HC1.out
  clear hbx hbW hW hszW hl0 hl1
  go_enter Tryd.func28, Tryd.ntmps28
  go_wp2
  go_loopw [3, 4] (fun v pv wr => ∃ (p : Nat) (a : Option Addr) (n c : Nat), pv = .int .i64 p ∧ v = .slice a n c ∧ p ≤ P ∧ Hid (OwnS wr W.heap.size 28 (.slice a n c) (o.cells.take ((p * R + 0) * s.size + 0))) ∧ Hid (Below W.heap.size W wr)) (fun _ pv _ => P - (intOf pv).toNat)
  case atStart =>
    rw [← HW.out]
    exact ⟨0, _, 0, 0, rfl, rfl, Nat.zero_le _, by rw [Nat.zero_mul, Nat.zero_add, Nat.zero_mul, List.take_zero]; (have := ownS_made W W.heap.size 28 (Nat.le_refl _); rw [HSZ.out] at this; rw [HSZ.out]; exact this), (Below.refl _ _).alloc (Nat.le_refl _) _⟩
  case round =>
    obtain ⟨p, a, n, c, rfl, rfl, hp, HO, HB⟩ := hrel
    obtain ⟨r0, r1, r2, r3, r4, r5⟩ := HRD.out _ HB.out
    by_cases hlp : p < P
    · go_wp2
      go_loopw [3, 5] (fun v yv wr => ∃ (y : Nat) (a : Option Addr) (n c : Nat), yv = .int .i64 y ∧ v = .slice a n c ∧ y ≤ R ∧ Hid (OwnS wr W.heap.size 28 (.slice a n c) (o.cells.take ((p * R + y) * s.size + 0))) ∧ Hid (Below W.heap.size W wr)) (fun _ yv _ => R - (intOf yv).toNat)
      case atStart => exact ⟨0, _, _, _, rfl, rfl, Nat.zero_le _, HO, HB⟩
      case round =>
        clear HO HB r0 r1 r2 r3 r4 r5
        obtain ⟨y, a, n, c, rfl, rfl, hy, HO, HB⟩ := hrel
        obtain ⟨r0, r1, r2, r3, r4, r5⟩ := HRD.out _ HB.out
        by_cases hly : y < R
        · go_wp2
          go_loopw [3, 6] (fun v xv wr => ∃ (x : Nat) (a : Option Addr) (n c : Nat), xv = .int .i64 x ∧ v = .slice a n c ∧ x ≤ s.size ∧ Hid (OwnS wr W.heap.size 28 (.slice a n c) (o.cells.take ((p * R + y) * s.size + x))) ∧ Hid (Below W.heap.size W wr)) (fun _ xv _ => s.size - (intOf xv).toNat)
          case atStart => exact ⟨0, _, _, _, rfl, rfl, Nat.zero_le _, HO, HB⟩
          case round =>
            clear HO HB r0 r1 r2 r3 r4 r5
            obtain ⟨x, a, n, c, rfl, rfl, hx, HO, HB⟩ := hrel
            obtain ⟨r0, r1, r2, r3, r4, r5⟩ := HRD.out _ HB.out
            by_cases hlx : x < s.size
            · have e1 : o.cellAt ((p * R + y) * s.size + x) = ((p : Int), (x : Int), (y : Int)) := by
                rw [HR.out, HC.out]
                exact cellAt_at o p x y (by rw [← HC.out]; exact hlx) (by rw [← HR.out]; exact hly)
              have e2 : (p * R + y) * s.size + x < o.N := by
                rw [HR.out, HC.out]
                exact at_lt o p x y (by rw [← HP.out]; exact hlp) (by rw [← HC.out]; exact hlx) (by rw [← HR.out]; exact hly)
              have e3 := take_cells o _ e2
              rw [e1] at e3
              have E3 := hid e3
              have hln : (o.cells.take ((p * R + y) * s.size + x)).length < 100000000 := by rw [cells_take_len o _ (by omega)]; have := HNN.out; omega
              have HLN := hid hln
              clear e1 e2 e3 hln
              go_wp2_with (first | (at_builtin; refine wpl_app_cell ((p : Int), (x : Int), (y : Int)) _ _ (.slice a n c) W.heap.size _ (by rfl) (by rfl) (by rfl) (by rfl) HO.out HLN.out HB.out.size ?_; intro v' w7 ho7 hb7; rw [← E3.out] at ho7; obtain ⟨sa, sn, sc, rfl⟩ := ownS_slice' ho7; have HO7 := hid ho7; have HB7 := hid hb7; clear ho7 hb7) | fail)
              go_roundw
              case rel => exact ⟨x + 1, _, _, _, by go_num, rfl, by omega, by rw [← Nat.add_assoc]; exact HO7, HB.out.trans HB7.out⟩
              case measure => simp [intOf]; omega
            · obtain rfl : x = s.size := by omega
              go_wp2
              go_roundw
              case rel => exact ⟨y + 1, _, _, _, by go_num, rfl, by omega, by rw [show ((p * R + (y + 1)) * s.size + 0) = (p * R + y) * s.size + s.size by rw [← Nat.add_assoc, Nat.add_mul (p * R + y) 1]; omega]; exact HO, HB⟩
              case measure => simp [intOf]; omega
        · obtain rfl : y = R := by omega
          go_wp2
          go_roundw
          case rel => exact ⟨p + 1, _, _, _, by go_num, rfl, by omega, by rw [show ((p + 1) * y + 0) = p * y + y by rw [Nat.add_mul p 1]; omega]; exact HO, HB⟩
          case measure => simp [intOf]; omega
    · obtain rfl : p = P := by omega
      go_wp2
      go_ret
      refine ⟨_, rfl, ?_, HBW.out.trans (HB.out.mono HBW.out.size)⟩
      have h := HO.out
      have e : (p * R + 0) * s.size + 0 = o.N := by unfold Ov.N; rw [← HP.out, ← HR.out, ← HC.out, Nat.add_zero, Nat.add_zero, Nat.mul_assoc]
      rw [e, List.take_of_length_le (by rw [cells_len]; exact Nat.le_refl _)] at h
      exact row_mono h HBW.out.size

/-- the value v reads as the list xs of numbers -/
def IsInts (w : World) (v : Value) (xs : List Int) : Prop :=
  ∃ a c, v = .slice a xs.length c ∧ xs.length ≤ 1000000 ∧ ∀ i, i < xs.length → ∃ g, a = some ⟨g, 0, none⟩ ∧ w.cell? ⟨g, i, none⟩ = some (.int .i64 (xs.getD i 0))
theorem isInts_below {w w' : World} {v : Value} {xs : List Int} (h : IsInts w v xs) (hb : Below w.heap.size w w') : IsInts w' v xs := by
  obtain ⟨a, c, rfl, hl, hc⟩ := h
  refine ⟨a, c, rfl, hl, fun i hi => ?_⟩
  obtain ⟨g, ha, hcell⟩ := hc i hi
  exact ⟨g, ha, by rw [hb.cell (World.block_lt_of_cell? w _ hcell)]; exact hcell⟩
theorem strB_snoc (l : Str) (c : UInt8) : strB l ++ ⟨#[c]⟩ = strB (l ++ [c]) := by
  unfold strB
  apply ByteArray.ext
  rw [ByteArray.data_append]
  simp

set_option maxHeartbeats 4000000 in
set_option maxRecDepth 100000 in
theorem rWhere_any (vs vm vj vl : Value) (o : Ov) (l : List Int) (z : Int) (w : World) (ho : IsOv w vs vm vj o) (hok : o.Ok) (hl : IsInts w vl l) (hll : l.length = o.N) :
    Calls Tryd.prog 50 #[.agg #[vs, vm, vj], vl, .int .i64 z] w fun e w' => ∃ v, e = .returned v ∧ OwnG w' w.heap.size v (o.gridOf (o.whereS l z)) ∧ Below w.heap.size w w' := by
  obtain ⟨ga, ca, gb, cb, rfl, hc0, hc9⟩ := first_row ho.safe hok.p.1
  obtain ⟨k, rfl, hc1⟩ := hc9 hok.r.1
  clear hc9
  have b1 := hok.p
  have b2 := hok.r
  have b3 := hok.c
  have hNN := N_small hok
  obtain ⟨P, hP⟩ : ∃ P, P = o.P := ⟨_, rfl⟩
  obtain ⟨R, hR⟩ : ∃ R, R = o.R := ⟨_, rfl⟩
  obtain ⟨C, hC⟩ : ∃ C, C = (strB ((o.safe.getD 0 []).getD 0 [])).size := ⟨_, rfl⟩
  have hC2 : C = o.C := by rw [hC, strB_size]; rfl
  rw [show o.safe.length = P from hP.symm]
  rw [show (o.safe.getD 0 []).length = R from hR.symm] at hc0
  rw [← hP] at b1
  rw [← hR] at b2
  rw [← hC2] at b3
  have HP := hid hP
  have HR := hid hR
  have HC := hid hC2
  have hl0 := World.block_lt_of_cell? w _ hc0
  have hl1 := World.block_lt_of_cell? w _ hc1
  simp only at hl0 hl1
  generalize strB ((o.safe.getD 0 []).getD 0 []) = s at *
  subst hC
  have HNN := hid hNN
  have HC0 := hid hc0
  have HC1 := hid hc1
  obtain ⟨al, cl, rfl, hl9, hcl⟩ := hl
  have HCL := hid hcl
  have HLL := hid hll
  obtain ⟨N, hN⟩ : ∃ N, N = l.length := ⟨_, rfl⟩
  rw [← hN] at hl9 ⊢
  have HN : Hid (N = l.length ∧ N = o.N) := ⟨hN, hN.trans hll⟩
  obtain ⟨S, hS⟩ : ∃ S, S = o.whereS l z := ⟨_, rfl⟩
  rw [← hS]
  have HS := hid hS
  have hN1 : N ≤ 1024 := by rw [hN, hll]; exact hNN
  clear hP hR hC2 hok ho hNN hc0 hc1 hcl hll hN hS
  have hbx := heap_alloc_new w (.cells #[.slice (some ⟨ga, 0, none⟩) P ca, vm, vj] 26)
  have hbW : Below w.heap.size w (w.alloc (.cells #[.slice (some ⟨ga, 0, none⟩) P ca, vm, vj] 26)) := (Below.refl _ _).alloc (Nat.le_refl _) _
  have hszW : (w.alloc (.cells #[.slice (some ⟨ga, 0, none⟩) P ca, vm, vj] 26)).heap.size = w.heap.size + 1 := by simp
  obtain ⟨W, hW⟩ : ∃ W, W = (w.alloc (.cells #[.slice (some ⟨ga, 0, none⟩) P ca, vm, vj] 26)) := ⟨_, rfl⟩
  have HW := hid hW
  rw [← hW] at hbW hbx hszW
  have HBW := hid hbW
  have HBX := hid hbx
  have HSZ := hid hszW
  have HRD : Hid (∀ X, Below W.heap.size W X → X.cell? ⟨w.heap.size, 0, none⟩ = some (.slice (some ⟨ga, 0, none⟩) P ca) ∧ X.cell? ⟨ga, 0, none⟩ = some (.slice (some ⟨k, 0, none⟩) R cb) ∧ X.cell? ⟨k, 0, none⟩ = some (.string s) ∧ w.heap.size < X.heap.size ∧ ga < X.heap.size ∧ k < X.heap.size) := by
    intro X hX
    have hsz := hX.size
    rw [HSZ.out] at hsz
    refine ⟨(cells3_of ((hX.block w.heap.size (by rw [HSZ.out]; omega)).trans HBX.out)).1, ?_, ?_, by omega, by omega, by omega⟩
    · exact ((HBW.out.trans (hX.mono HBW.out.size)).cell hl0).trans HC0.out
    · exact ((HBW.out.trans (hX.mono HBW.out.size)).cell hl1).trans HC1.out
  clear hbx hbW hW hszW hl0 hl1
  go_enter Tryd.func50, Tryd.ntmps50
  go_wp2
  go_loopw [7, 8, 9] (fun v iv pv wr => ∃ (p i : Nat) (a : Option Addr) (n c : Nat), pv = .int .i64 p ∧ iv = .int .i64 i ∧ v = .slice a n c ∧ p ≤ P ∧ i = (p * R + 0) * s.size + 0 ∧ i ≤ N ∧ Hid (OwnG wr W.heap.size (.slice a n c) (o.grTo S p)) ∧ Hid (Below W.heap.size W wr)) (fun _ _ pv _ => P - (intOf pv).toNat)
  case atStart =>
    rw [← HW.out]
    exact ⟨0, 0, _, 0, 0, rfl, rfl, rfl, Nat.zero_le _, by simp, Nat.zero_le _, (by have := ownG_made W W.heap.size (Nat.le_refl _); rw [HSZ.out] at this; rw [HSZ.out]; exact this), (Below.refl _ _).alloc (Nat.le_refl _) _⟩
  case round =>
    obtain ⟨p, i, a, n, c, rfl, rfl, rfl, hp, hi, hiN, HO, HB⟩ := hrel
    obtain ⟨r0, r1, r2, r3, r4, r5⟩ := HRD.out _ HB.out
    have HI := hid hi
    clear hi
    rename World => wo
    by_cases hlp : p < P
    · go_wp2
      go_loopw [8, 10, 11] (fun iv v yv wr => ∃ (y i : Nat) (a : Option Addr) (n c : Nat), yv = .int .i64 y ∧ iv = .int .i64 i ∧ v = .slice a n c ∧ y ≤ R ∧ Hid (i = (p * R + y) * s.size + 0) ∧ i ≤ N ∧ Hid (OwnT wr wo.heap.size (.slice a n c) (o.phTo S p y)) ∧ Hid (Below wo.heap.size wo wr)) (fun _ _ yv _ => R - (intOf yv).toNat)
      case atStart => exact ⟨0, i, _, 0, 0, rfl, rfl, rfl, Nat.zero_le _, HI, hiN, ownT_made _ _ (Nat.le_refl _), (Below.refl _ _).alloc (Nat.le_refl _) _⟩
      case round =>
        clear r0 r1 r2 r3 r4 r5 HI hiN
        obtain ⟨y, i, a2, n2, c2, rfl, rfl, rfl, hy, HI, hiN, HT, HBy⟩ := hrel
        have HBo := hid (HB.out.trans (HBy.out.mono HB.out.size))
        obtain ⟨r0, r1, r2, r3, r4, r5⟩ := HRD.out _ HBo.out
        rename World => wy
        by_cases hly : y < R
        · go_wp2
          go_loopw [8, 12, 13] (fun iv v xv wr => ∃ (x i : Nat) (t : ByteArray), xv = .int .i64 x ∧ iv = .int .i64 i ∧ v = .string t ∧ t.size ≤ 16 ∧ x ≤ s.size ∧ Hid (i = (p * R + y) * s.size + x) ∧ i ≤ N ∧ Hid (t = strB (Ov.rowTo S p y x)) ∧ wr = wy) (fun _ _ xv _ => s.size - (intOf xv).toNat)
          case atStart => exact ⟨0, i, _, rfl, rfl, rfl, by decide, Nat.zero_le _, HI, hiN, rfl, rfl⟩
          case round =>
            clear HI hiN
            obtain ⟨x, i, t, rfl, rfl, rfl, ht, hx, HI, hiN, HTT, rfl⟩ := hrel
            by_cases hlx : x < s.size
            · have e2 : i < o.N := by
                rw [HI.out, HR.out, HC.out]
                exact at_lt o p x y (by rw [← HP.out]; exact hlp) (by rw [← HC.out]; exact hlx) (by rw [← HR.out]; exact hly)
              have hiN2 : i < N := by rw [HN.out.2]; exact e2
              obtain ⟨gl, rfl, hcell⟩ := HCL.out i (by rw [← HN.out.1]; exact hiN2)
              have hSx : Hid (decide (z ≤ l.getD i 0) = S ((p : Int), (x : Int), (y : Int))) := by
                have hps : i = o.pos ((p : Int), (x : Int), (y : Int)) := by
                  unfold Ov.pos Ov.at'
                  simp only [Int.toNat_natCast]
                  rw [← HR.out, ← HC.out, ← HI.out]
                show _ = _
                rw [HS.out]
                exact congrArg (fun k => decide (z ≤ l.getD k 0)) hps
              have e5 := ((HBW.out.trans (HBo.out.mono HBW.out.size)).cell (World.block_lt_of_cell? w _ hcell)).trans hcell
              have HTS := hid (rowTo_succ S p y x)
              have hts : t.size = x := by rw [HTT.out, strB_size, rowTo_len]
              generalize l.getD i 0 = q at *
              clear e2 hcell
              by_cases hq : z ≤ q
              · have HT2 : Hid (t ++ ⟨#[46]⟩ = strB (Ov.rowTo S p y (x + 1))) := by
                  show _ = _
                  rw [HTT.out, strB_snoc, HTS.out, ← hSx.out, decide_eq_true hq]; rfl
                go_wp2
                go_roundw
                case rel => exact ⟨x + 1, i + 1, _, by go_num, by go_num, rfl, by rw [ByteArray.size_append]; (show t.size + 1 ≤ 16); omega, by omega, by rw [HI.out]; rfl, by omega, HT2, trivial⟩
                case measure => simp [intOf]; omega
              · have HT2 : Hid (t ++ ⟨#[35]⟩ = strB (Ov.rowTo S p y (x + 1))) := by
                  show _ = _
                  rw [HTT.out, strB_snoc, HTS.out, ← hSx.out, decide_eq_false hq]; rfl
                go_wp2
                go_roundw
                case rel => exact ⟨x + 1, i + 1, _, by go_num, by go_num, rfl, by rw [ByteArray.size_append]; (show t.size + 1 ≤ 16); omega, by omega, by rw [HI.out]; rfl, by omega, HT2, trivial⟩
                case measure => simp [intOf]; omega
            · obtain rfl : x = s.size := by omega
              have HTR : Hid (t = strB (o.rowG S p y)) := by
                show _ = _
                rw [HTT.out]; unfold Ov.rowG; rw [← HC.out]; rfl
              obtain rfl : t = strB (o.rowG S p y) := HTR.out
              have hln : (o.phTo S p y).length < 1000000 := by rw [phTo_len]; omega
              have HLN := hid hln
              clear hln HTT HTR ht
              go_wp2_with (first | (at_builtin; refine wpl_app_str (o.rowG S p y) _ _ (.slice a2 n2 c2) wo.heap.size (o.phTo S p y) (by rfl) (by rfl) (by rfl) (by rfl) HT.out HLN.out HBy.out.size ?_; intro v' w7 ho7 hb7; rw [← phTo_succ] at ho7; obtain ⟨sa, sc, rfl⟩ := ownT_slice ho7; have HO7 := hid ho7; have HB7 := hid hb7; clear ho7 hb7) | fail)
              go_roundw
              case rel => exact ⟨y + 1, i, _, _, _, by go_num, rfl, rfl, by omega, by rw [HI.out, show ((p * R + (y + 1)) * s.size + 0) = (p * R + y) * s.size + s.size by rw [← Nat.add_assoc, Nat.add_mul (p * R + y) 1]; omega]; rfl, hiN, HO7, HBy.out.trans HB7.out⟩
              case measure => simp [intOf]; omega
        · obtain rfl : y = R := by omega
          have HL : Hid (o.phTo S p y = o.phG S p) := by show _ = _; unfold Ov.phG; rw [← HR.out]; rfl
          have HGy := hid (ownG_below HO.out HBy.out)
          have HTy : Hid (OwnT wy W.heap.size (.slice a2 n2 c2) (o.phG S p)) := by
            have := HT.out
            rw [HL.out] at this
            exact ownT_mono this HB.out.size
          have hln : (o.grTo S p).length < 1000000 := by rw [grTo_len]; omega
          have HLN := hid hln
          clear hln
          go_wp2_with (first | (at_builtin; refine wpl_app_row (.slice a2 n2 c2) (o.phG S p) _ _ (.slice a n c) W.heap.size (o.grTo S p) (by rfl) (by rfl) (by rfl) (by rfl) HGy.out HTy.out HLN.out HBo.out.size ?_; intro v' w7 ho7 hb7; rw [← grTo_succ] at ho7; obtain ⟨sa, sc, rfl⟩ := ownG_slice ho7; have HO7 := hid ho7; have HB7 := hid hb7; clear ho7 hb7) | fail)
          go_roundw
          case rel => exact ⟨p + 1, i, _, _, _, by go_num, rfl, rfl, by omega, by rw [HI.out, show ((p + 1) * y + 0) = p * y + y by rw [Nat.add_mul p 1]; omega], hiN, HO7, HBo.out.trans HB7.out⟩
          case measure => simp [intOf]; omega
    · obtain rfl : p = P := by omega
      have HL : Hid (o.grTo S p = o.gridOf S) := by show _ = _; unfold Ov.gridOf; rw [← HP.out]; rfl
      go_wp2
      go_ret
      refine ⟨_, rfl, ?_, HBW.out.trans (HB.out.mono HBW.out.size)⟩
      have h := HO.out
      rw [HL.out] at h
      exact ownG_mono h HBW.out.size
end Go.Proofs.YtjonbhimbhidpaaDoor
