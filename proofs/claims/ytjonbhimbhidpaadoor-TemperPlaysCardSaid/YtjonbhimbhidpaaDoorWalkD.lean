/-
  Walks over chapter 6: the cells of a set.
-/
import Derived.Test.YtjonbhimbhidpaaDoorWalkC
namespace Go.Proofs.YtjonbhimbhidpaaDoor
open Go.RowKit

/-- 'm[c] = true' -/
theorem wpl_put_set {ops : Array Oper} {rest : List Oper} {o : Oper} {a : Act} {Q : Exit → Act → World → Prop} {W : World}
    (hg : o.guard = none) (m x v : Operand) (hop : o.op = Op.mapUpdate 90 m x v) (b : Nat) (L : List Sp) (hm : a.eval m = .map (some b)) (h : SetW W b L)
    (c : Sp) (hx : a.eval x = spv c) (hv : a.eval v = .bool true) (hc : InR c) (hn : c ∉ L) (hl : L.length < 1000000)
    (hK : ∀ W', SetW W' b (L ++ [c]) → W.grownBy W' (some b) → W'.heap.size = W.heap.size → wpList Tryd.prog ops Q rest (a.put o.dst undef) W') :
    wpList Tryd.prog ops Q (o :: rest) a W := by
  refine wpList_plain hg fun K' hK' => ?_
  obtain ⟨w', hrun, r1, r2, r3⟩ := setW_put h hc hn hl
  unfold Oper.wp
  simp [execOp, hop, hm, hx, hv, hrun, Result.andThen]
  exact hK' _ _ (hK w' r1 r2 r3)

theorem grown_trans {A B C : World} {row : Option Nat} (h : A.grownBy B row) (k : B.grownBy C row) : A.grownBy C row :=
  ⟨k.os.trans h.os, k.tape.trans h.tape, k.output.trans h.output, Nat.le_trans h.size k.size, fun i hi hr => (k.block i (Nat.lt_of_lt_of_le hi h.size) hr).trans (h.block i hi hr)⟩
theorem setW_drew {w : World} {m : Nat} {L : List Sp} (h : SetW w m L) (n : Nat) : SetW (w.drewN n) m L := h
theorem box1 {W : World} {g : Nat} {v : Value} {t : TypeId} (h : W.heap[g]? = some (.cells #[v] t)) : W.cell? ⟨g, 0, none⟩ = some v := by simp [World.cell?, h]

/-- the letter of a cell, as the walk reads it -/
theorem grid_row {W : World} {v : Value} {g : Grid} {P R C : Nat} (h : IsGrid W v g) (hf : formB P R C g = true) (p y x : Nat) (hp : p < P) (hy : y < R) (hx : x < C) :
    ∃ ga ca gb n cb s, v = .slice (some ⟨ga, 0, none⟩) P ca ∧ W.cell? ⟨ga, p, none⟩ = some (.slice (some ⟨gb, 0, none⟩) n cb) ∧ y < n ∧ W.cell? ⟨gb, y, none⟩ = some (.string s) ∧ s.size = C ∧ ∃ hx : x < s.size, ((((s[x]'hx).toNat : Nat) : Int) == 46) = (chAt g p y x == 46) := by
  obtain ⟨h1, h2, h3, h4⟩ := form_row hf p y hp hy
  obtain ⟨a, ca, rfl, hl, hc⟩ := h
  obtain ⟨ga, u, rfl, hcell, hs⟩ := hc p h3
  obtain ⟨a2, cb, rfl, hl2, hc2⟩ := hs
  obtain ⟨gb, rfl, hcell2⟩ := hc2 y h4
  have hxs : x < (strB ((g.getD p []).getD y [])).size := by rw [strB_size]; unfold rowAt at h1; omega
  refine ⟨ga, ca, gb, _, cb, _, by rw [form_len hf], hcell, h4, hcell2, ?_, hxs, ?_⟩
  · rw [strB_size]; exact h1
  · have e : (strB ((g.getD p []).getD y []))[x]'hxs = chAt g p y x := by
      unfold chAt rowAt
      rw [strB_size] at hxs
      generalize (g.getD p []).getD y [] = s at *
      show (strB s).data[x] = _
      simp [strB, hxs]
    rw [e, Bool.eq_iff_iff, beq_iff_eq, beq_iff_eq, ← UInt8.toNat_inj]
    show _ ↔ _ = 46
    omega

set_option maxHeartbeats 1000000 in
set_option maxRecDepth 100000 in
theorem in1_any (g : Grid) (v : Value) (o : Ov) (bs bb m : Nat) (c : Sp) (L : List Sp) (w : World) (hok : o.Ok) (hf : formB o.P o.R o.C g = true) (hc : o.ex c = true)
    (hv : w.cell? ⟨bs, 0, none⟩ = some v) (hg : IsGrid w v g) (hb : w.cell? ⟨bb, 0, none⟩ = some (.map (some m))) (hS : SetW w m L) (hn : c ∉ L) (hl : L.length < 1000000) :
    Calls Tryd.prog 69 #[spv c, .pointer (some ⟨bs, 0, none⟩), .pointer (some ⟨bb, 0, none⟩)] w fun e w' => e = .returned (.tuple #[]) ∧ SetW w' m (if inG g c then L ++ [c] else L) ∧ w.grownBy w' (some m) := by
  obtain ⟨p, x, y, rfl, hp, hx, hy⟩ := ex_cell o c hc
  obtain ⟨ga, ca, gb, n, cb, s, rfl, d1, hyn, d2, hss, hxs, d3⟩ := grid_row hg hf p y x hp hy hx
  have hin : InR ((p : Int), (x : Int), (y : Int)) := by
    have h1 := hok.p; have h2 := hok.r; have h3 := hok.c
    unfold InR; simp only; omega
  have hig : inG g ((p : Int), (x : Int), (y : Int)) = (chAt g p y x == 46) := by simp [inG]
  rw [hig]
  generalize chAt g p y x = q at *
  have l1 := World.block_lt_of_cell? w _ hv
  have l2 := World.block_lt_of_cell? w _ d1
  have l3 := World.block_lt_of_cell? w _ d2
  have l4 := World.block_lt_of_cell? w _ hb
  have HS := hid hS
  have HIN := hid hin
  have HN := hid hn
  clear hS hin hn hig hg hf hok
  unfold spv
  simp only at l1 l2 l3 l4 ⊢
  obtain ⟨P, hP⟩ : ∃ P, P = o.P := ⟨_, rfl⟩
  obtain ⟨C, hC⟩ : ∃ C, C = o.C := ⟨_, rfl⟩
  rw [← hP] at hv hp
  rw [← hC] at hx hss
  clear hP hC hy hc
  subst hss
  cases hq : (q == 46)
  · rw [hq] at d3
    clear hq
    go_enter Tryd.func69, Tryd.ntmps69
    go_wp2
    go_quiet (fail)
    go_wp2
    go_end0
    have hg1 := (World.grownBy_alloc w (Obj.cells #[Value.int IntKind.i64 p, Value.int IntKind.i64 x, Value.int IntKind.i64 y] 87) (some m))
    have hg2 : w.grownBy ((w.alloc (Obj.cells #[Value.int IntKind.i64 p, Value.int IntKind.i64 x, Value.int IntKind.i64 y] 87)).drewN nq) (some m) := ⟨hg1.os, hg1.tape, hg1.output, hg1.size, hg1.block⟩
    refine ⟨rfl, ?_, hg2⟩
    have hm := setW_lt HS.out
    exact setW_drew (setW_kept (row := none) HS.out (World.grownBy_alloc w _ none) (by simp)) nq
  · rw [hq] at d3
    clear hq
    go_enter Tryd.func69, Tryd.ntmps69
    go_wp2
    go_quiet (fail)
    have hg1 := (World.grownBy_alloc w (Obj.cells #[Value.int IntKind.i64 p, Value.int IntKind.i64 x, Value.int IntKind.i64 y] 87) (some m))
    have hg2 : w.grownBy ((w.alloc (Obj.cells #[Value.int IntKind.i64 p, Value.int IntKind.i64 x, Value.int IntKind.i64 y] 87)).drewN nq) (some m) := ⟨hg1.os, hg1.tape, hg1.output, hg1.size, hg1.block⟩
    have hS2 : Hid (SetW ((w.alloc (Obj.cells #[Value.int IntKind.i64 p, Value.int IntKind.i64 x, Value.int IntKind.i64 y] 87)).drewN nq) m L) := setW_drew (setW_kept (row := none) HS.out (World.grownBy_alloc w _ none) (by simp)) nq
    have HG2 := hid hg2
    clear hg1 hg2
    go_wp2_with (first | (at_mapUpdate; refine wpl_put_set (by rfl) _ _ _ (by rfl) m L (by rfl) hS2.out ((p : Int), (x : Int), (y : Int)) (by rfl) (by rfl) HIN.out HN.out hl ?_; intro W' h1 h2 h3) | fail)
    go_end0
    exact ⟨rfl, h1, grown_trans HG2.out h2⟩

/-- three blocks are made -/
theorem alloc3 (w : World) (a b c : Obj) : Below w.heap.size w (((w.alloc a).alloc b).alloc c) ∧ (((w.alloc a).alloc b).alloc c).heap.size = w.heap.size + 3 ∧ (((w.alloc a).alloc b).alloc c).heap[w.heap.size]? = some a ∧ (((w.alloc a).alloc b).alloc c).heap[w.heap.size + 1]? = some b ∧ (((w.alloc a).alloc b).alloc c).heap[w.heap.size + 2]? = some c := by
  refine ⟨(((Below.refl _ _).alloc (Nat.le_refl _) _).alloc (by simp) _).alloc (by simp; omega) _, by simp, ?_, ?_, ?_⟩
  · rw [Below.heap_alloc _ _ _ (by simp; omega), Below.heap_alloc _ _ _ (by simp)]
    exact heap_alloc_new _ _
  · rw [Below.heap_alloc _ _ _ (by simp)]
    rw [show w.heap.size + 1 = (w.alloc a).heap.size by simp]
    exact heap_alloc_new _ _
  · rw [show w.heap.size + 2 = ((w.alloc a).alloc b).heap.size by simp]
    exact heap_alloc_new _ _
theorem setW_of_block {W : World} {b : Nat} (h : W.heap[b]? = some (.map #[] 0)) : SetW W b [] := by
  have h0 := World.ownsMap_made (H := Unit) W Tryd.prog 87 (plainElem Tryd.prog 4)
  obtain ⟨es, clock, hh, F, hs, hE⟩ := h0
  rw [heap_alloc_new] at hh
  cases hh
  exact ⟨_, ⟨_, _, h, F, hs, hE⟩, setD_nil⟩

theorem enters_f {f : FuncId} {fn : Func} {c : Code} (hf : Tryd.prog.funcs[f]? = some fn) (hname : (fn.name == "runtime.NumGoroutine") = false) (hb : fn.body = some c) : ∀ args w, (callFunc f args).run Tryd.prog w = .ok (.enter f args) w :=
  fun args w => enters_of hf hname hb args w
theorem cells_len (o : Ov) : o.cells.length = o.N := by simp [Ov.cells]
theorem cells_at (o : Ov) (i : Nat) (h : i < o.N) : o.cells[i]'(by rw [cells_len]; exact h) = o.cellAt i := by simp [Ov.cells]
theorem take_cells (o : Ov) (i : Nat) (h : i < o.N) : o.cells.take (i + 1) = o.cells.take i ++ [o.cellAt i] := by
  rw [List.take_add_one]
  have : o.cells[i]? = some (o.cellAt i) := by
    rw [List.getElem?_eq_getElem (by rw [cells_len]; exact h), cells_at o i h]
  rw [this]; rfl
theorem filter_take_succ (o : Ov) (f : Sp → Bool) (i : Nat) (h : i < o.N) : (o.cells.take (i + 1)).filter f = if f (o.cellAt i) then (o.cells.take i).filter f ++ [o.cellAt i] else (o.cells.take i).filter f := by
  rw [take_cells o i h, List.filter_append]
  by_cases hf : f (o.cellAt i) = true <;> simp [hf]
theorem not_mem_take (o : Ov) (i : Nat) (h : i < o.N) : o.cellAt i ∉ o.cells.take i := by
  have h2 : (o.cells.take (i + 1)).Nodup := (nodup_cells o).sublist (List.take_sublist _ _)
  rw [take_cells o i h, List.nodup_append] at h2
  intro hm
  exact h2.2.2 _ hm _ (by simp) rfl
theorem N_small {o : Ov} (h : o.Ok) : o.N ≤ 1024 := by
  unfold Ov.N
  have h1 : o.R * o.C ≤ 16 * 16 := Nat.mul_le_mul h.r.2 h.c.2
  have h2 : o.P * (o.R * o.C) ≤ 4 * (16 * 16) := Nat.mul_le_mul h.p.2 h1
  omega
theorem filter_small {o : Ov} (h : o.Ok) (f : Sp → Bool) (i : Nat) : ((o.cells.take i).filter f).length < 1000000 := by
  have h1 := List.length_filter_le f (o.cells.take i)
  have h2 : (o.cells.take i).length ≤ o.N := by rw [List.length_take, cells_len]; omega
  have := N_small h
  omega

set_option maxHeartbeats 1000000 in
set_option maxRecDepth 100000 in
theorem in_any (b : Nat) (vs vm vj : Value) (o : Ov) (v : Value) (g : Grid) (w : World) (ho : OvAt w b vs vm vj o) (hok : o.Ok) (hg : IsGrid w v g) (hf : formB o.P o.R o.C g = true) :
    Calls Tryd.prog 54 #[.pointer (some ⟨b, 0, none⟩), v] w fun e w' => ∃ m, e = .returned (.map (some m)) ∧ w.heap.size ≤ m ∧ SetW w' m (o.cells.filter (inG g)) ∧ Below w.heap.size w w' := by
  have hmf : ∀ (fn : Fn) (first cap : Array Value) (w : World), (Instr.makeFunc fn first cap).run Tryd.prog w = .ok (.func fn first cap) w := fun _ _ _ _ => rfl
  have hmm := @run_makeMap Tryd.prog
  have HG := hid hg
  obtain ⟨ag, cg, rfl, _, _⟩ := hg
  obtain ⟨hb3, hz3, k0, k1, k2⟩ := alloc3 w (Obj.cells #[Value.slice ag g.length cg] 22) (Obj.map #[] 0) (Obj.cells #[Value.map (some (w.heap.size + 1))] 90)
  have cc := hid (cells_any b vs vm vj o 69 #[.pointer (some ⟨w.heap.size, 0, none⟩), .pointer (some ⟨w.heap.size + 1 + 1, 0, none⟩)]
    (fun i W => Below w.heap.size w W ∧ W.heap[w.heap.size]? = some (Obj.cells #[Value.slice ag g.length cg] 22) ∧ W.heap[w.heap.size + 2]? = some (Obj.cells #[Value.map (some (w.heap.size + 1))] 90) ∧ SetW W (w.heap.size + 1) ((o.cells.take i).filter (inG g)))
    (((w.alloc (Obj.cells #[Value.slice ag g.length cg] 22)).alloc (Obj.map #[] 0)).alloc (Obj.cells #[Value.map (some (w.heap.size + 1))] 90))
    (fun i W hJ => ovAt_below ho hJ.1) hok ⟨hb3, k0, k2, by rw [List.take_zero]; exact setW_of_block k1⟩
    ⟨enters_f Tryd.func69 (by kernel_rfl) rfl, by
      rintro i W hi ⟨j1, j2, j3, j4⟩
      have hex := cellAt_ex o i hi
      have hm1 : ∀ k, k < w.heap.size → (some k : Option Nat) ≠ some (w.heap.size + 1) := fun k hk e => by injection e; omega
      refine (in1_any g _ o w.heap.size (w.heap.size + 1 + 1) (w.heap.size + 1) (o.cellAt i) _ W hok hf hex (box1 j2) (isGrid_below HG.out j1) (box1 j3) j4 (fun hm => not_mem_take o i hi (List.mem_filter.1 hm).1) (filter_small hok _ _)).mono ?_
      rintro e W' ⟨rfl, h1, h2⟩
      have hs2 := (Array.getElem?_eq_some_iff.1 j2).1
      have hs3 := (Array.getElem?_eq_some_iff.1 j3).1
      refine ⟨rfl, j1.grown h2 j1.size (fun k hk => by injection hk; omega), (h2.block _ hs2 (by intro e; injection e; omega)).trans j2, (h2.block _ hs3 (by intro e; injection e; omega)).trans j3, ?_⟩
      rw [filter_take_succ o _ i hi]
      exact h1⟩)
  have hbl := ovAt_lt ho
  clear ho hok hf hb3 hz3 k0 k1 k2
  go_enter Tryd.func54, Tryd.ntmps54
  go_wp2_with (first | (go_at_call 61; refine (cc.out).mono ?_; rintro e w4 ⟨rfl, h1, h2, h3, h4⟩; have q : w4.cell? ⟨w.heap.size + 1 + 1, 0, none⟩ = some (Value.map (some (w.heap.size + 1))) := box1 h3; have H4 := hid h4; have H1 := hid h1; clear h1 h2 h3 h4) | fail)
  go_ret
  refine ⟨_, rfl, Nat.le_succ _, ?_, H1.out⟩
  have := H4.out
  rw [List.take_of_length_le (by rw [cells_len]; exact Nat.le_refl _)] at this
  exact this
end Go.Proofs.YtjonbhimbhidpaaDoor
