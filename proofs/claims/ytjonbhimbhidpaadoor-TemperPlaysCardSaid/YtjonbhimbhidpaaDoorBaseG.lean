/-
  What the frame tells of the arguments: ovens.
-/
import Derived.Test.YtjonbhimbhidpaaDoorBaseF
import Derived.Deep.Slices
import Derived.SliceStrings
import Derived.Lib.SmallJoins
namespace Go.Proofs.YtjonbhimbhidpaaDoor
open Go.RowKit Go.ChangeShapes Go.WideShapes Go.Deep Go.Joins

section
variable {H : Type} {enc : TypeId × Value → H} {w : World} {base : Nat} {held : Bool}

theorem wf_I64 {z : Int} (h : (Lit.int .i64 z).wf = true) : I64 z := by
  unfold Lit.wf at h
  rw [Bool.and_eq_true, decide_eq_true_eq, decide_eq_true_eq] at h
  have h1 : IntKind.i64.min = -9223372036854775808 := by decide
  have h2 : IntKind.i64.max = 9223372036854775807 := by decide
  unfold I64; omega
theorem read_strs {n : Nat} {v : Value} {y : DataW H × List MemPlace} (h : DataW.trod enc Tryd.prog w base (fun _ => true) held n 71 [v] = some y) : ∃ xs, ArgStrs w v xs := by
  rcases open_strings Tryd.underlying71 Tryd.underlying9 (by kernel_rfl) h with ⟨hcs, _⟩ | ⟨a, len, cap, ss, hcs, _, hl, hm, hss, _, hc, _⟩
  · simp only [List.cons.injEq, and_true] at hcs
    subst hcs
    exact ⟨[], none, 0, rfl, by decide, fun i hi => by simp at hi⟩
  · simp only [List.cons.injEq, and_true] at hcs
    subst hcs
    simp only [if_true] at hss
    refine ⟨(ss.take len).map fun s => s.data.toList, some a, cap, by simp; omega, by simp; omega, fun i hi => ?_⟩
    have hi2 : i < len ∧ i < ss.length := by simp at hi; omega
    have hcell := hc i hi2.2
    refine ⟨a, rfl, ?_, ?_⟩
    · have := World.block_lt_of_cell? w _ hcell
      rwa [add_block] at this
    · rw [hcell]
      simp [hi2.1, hi2.2, List.getD, strB_data]
theorem read_grid {n : Nat} {v : Value} {y : DataW H × List MemPlace} (h : DataW.trod enc Tryd.prog w base (fun _ => true) held n 22 [v] = some y) : ∃ g, ArgGrid w v g := by
  rcases open_slice1 Tryd.underlying22 (by kernel_rfl) h with ⟨hcs, _⟩ | ⟨a, len, cap, m, n', V, D, Pl, hcs, _, hl, hm, hmm, _, hc⟩
  · simp only [List.cons.injEq, and_true] at hcs
    subst hcs
    exact ⟨[], none, 0, rfl, by decide, fun i hi => by simp at hi⟩
  · simp only [List.cons.injEq, and_true] at hcs
    subst hcs
    simp only [if_true] at hmm
    have hx : ∀ i, ∃ xs, i < len → ArgStrs w (V i) xs := by
      intro i
      by_cases hi : i < len
      · obtain ⟨xs, hxs⟩ := read_strs (hc i (by omega)).2
        exact ⟨xs, fun _ => hxs⟩
      · exact ⟨[], fun h => absurd h hi⟩
    obtain ⟨F, hF⟩ := Classical.axiomOfChoice hx
    refine ⟨(List.range len).map F, some a, cap, by simp, by simp; omega, fun i hi => ?_⟩
    have hi2 : i < len := by simpa using hi
    have hcell := (hc i (by omega)).1
    refine ⟨a, V i, rfl, ?_, hcell, ?_⟩
    · have := World.block_lt_of_cell? w _ hcell
      rwa [add_block] at this
    · have := hF i hi2
      simpa [List.getD, hi2] using this
theorem read_mv {n : Nat} {v : Value} {y : DataW H × List MemPlace} (h : DataW.trod enc Tryd.prog w base (fun _ => true) held n 23 [v] = some y) : ∃ ms, ArgMv w v ms ∧ ∀ m ∈ ms, I64 m.1 ∧ I64 m.2.1 ∧ I64 m.2.2.1 ∧ I64 m.2.2.2 := by
  have c53 : Tryd.prog.cellsOf 53 = 4 := by kernel_rfl
  have c3 : Tryd.prog.cellsOf 3 = 1 := by kernel_rfl
  rcases open_slice Tryd.underlying23 h with ⟨hcs, _⟩ | ⟨a, len, cap, m, n', D, Pl, hcs, _, hl, hm, hmm, _, hc⟩
  · simp only [List.cons.injEq, and_true] at hcs
    subst hcs
    exact ⟨[], ⟨by decide, none, 0, rfl, by simp, by decide, .inl ⟨rfl, rfl⟩⟩, fun m hm => by simp at hm⟩
  · simp only [List.cons.injEq, and_true] at hcs
    subst hcs
    simp only [if_true] at hmm
    have hx : ∀ i, ∃ q : Mv, i < len → (w.cell? (a.add (i * 4)) = some (.int .i64 q.1) ∧ w.cell? (a.add (i * 4 + 1)) = some (.int .i64 q.2.1) ∧ w.cell? (a.add (i * 4 + 2)) = some (.int .i64 q.2.2.1) ∧ w.cell? (a.add (i * 4 + 3)) = some (.int .i64 q.2.2.2)) ∧ I64 q.1 ∧ I64 q.2.1 ∧ I64 q.2.2.1 ∧ I64 q.2.2.2 := by
      intro i
      by_cases hi : i < len
      · obtain ⟨cs', hcs', ht⟩ := hc i (by omega)
        rw [c53] at hcs'
        obtain ⟨_, hlen, hat⟩ := World.cells?_some hcs'
        obtain ⟨y0, y1, y2, y3, n2, _, _, h0, h1, h2, h3⟩ := trod_struct4 Tryd.underlying53 ht
        simp only [c3] at h0 h1 h2 h3
        match cs', hlen with
        | [e0, e1, e2, e3], _ =>
          simp only [List.drop_zero, List.take_succ_cons, List.take_zero, List.drop_succ_cons] at h0 h1 h2 h3
          obtain ⟨z0, hz0, _, g0⟩ := DataW.trod_int Tryd.underlying3 h0
          obtain ⟨z1, hz1, _, g1⟩ := DataW.trod_int Tryd.underlying3 h1
          obtain ⟨z2, hz2, _, g2⟩ := DataW.trod_int Tryd.underlying3 h2
          obtain ⟨z3, hz3, _, g3⟩ := DataW.trod_int Tryd.underlying3 h3
          simp only [List.cons.injEq, and_true] at hz0 hz1 hz2 hz3
          subst hz0 hz1 hz2 hz3
          refine ⟨(z0, z1, z2, z3), fun _ => ⟨⟨?_, ?_, ?_, ?_⟩, wf_I64 g0, wf_I64 g1, wf_I64 g2, wf_I64 g3⟩⟩
          · have := hat 0 (by decide); rw [add_add] at this; exact this
          · have := hat 1 (by decide); rw [add_add] at this; exact this
          · have := hat 2 (by decide); rw [add_add] at this; exact this
          · have := hat 3 (by decide); rw [add_add] at this; exact this
      · exact ⟨(0, 0, 0, 0), fun h => absurd h hi⟩
    obtain ⟨F, hF⟩ := Classical.axiomOfChoice hx
    have hml : ((List.range len).map F).length = len := by simp
    refine ⟨(List.range len).map F, ⟨by rw [hml]; omega, some a, cap, by rw [hml], by rw [hml]; exact hl, hm, .inr ⟨a, rfl, ?_, ?_⟩⟩, ?_⟩
    · intro h0
      rw [hml] at h0
      have := World.block_lt_of_cell? w _ (hF 0 h0).1.1
      rwa [add_block] at this
    · intro j u hj
      have hjl : j < len * 4 := by
        have := (List.getElem?_eq_some_iff.1 hj).1
        rwa [mcells_len, hml] at this
      obtain ⟨i, r, hr, rfl⟩ : ∃ i r, r < 4 ∧ j = i * 4 + r := ⟨j / 4, j % 4, by omega, by omega⟩
      have hi : i < len := by omega
      obtain ⟨c0, c1, c2, c3'⟩ := mcells_at ((List.range len).map F) i (by rw [hml]; exact hi)
      have hmv : mvAt ((List.range len).map F) i = F i := by simp [mvAt, List.getD, hi]
      rw [hmv] at c0 c1 c2 c3'
      obtain ⟨⟨f0, f1, f2, f3⟩, _⟩ := hF i hi
      have hr : r = 0 ∨ r = 1 ∨ r = 2 ∨ r = 3 := by omega
      rcases hr with rfl | rfl | rfl | rfl
      · rw [Nat.add_zero, c0] at hj; cases hj; exact f0
      · rw [c1] at hj; cases hj; exact f1
      · rw [c2] at hj; cases hj; exact f2
      · rw [c3'] at hj; cases hj; exact f3
    · intro q hq
      rw [List.mem_map] at hq
      obtain ⟨i, hi, rfl⟩ := hq
      exact (hF i (List.mem_range.1 hi)).2
theorem read_jl {n : Nat} {v : Value} {y : DataW H × List MemPlace} (h : DataW.trod enc Tryd.prog w base (fun _ => true) held n 24 [v] = some y) : ∃ js, ArgJl w v js ∧ ∀ j ∈ js, I64 j.1 ∧ I64 j.2 := by
  have c55 : Tryd.prog.cellsOf 55 = 2 := by kernel_rfl
  have c3 : Tryd.prog.cellsOf 3 = 1 := by kernel_rfl
  rcases open_slice Tryd.underlying24 h with ⟨hcs, _⟩ | ⟨a, len, cap, m, n', D, Pl, hcs, _, hl, hm, hmm, _, hc⟩
  · simp only [List.cons.injEq, and_true] at hcs
    subst hcs
    exact ⟨[], ⟨by decide, none, 0, rfl, by simp, by decide, .inl ⟨rfl, rfl⟩⟩, fun m hm => by simp at hm⟩
  · simp only [List.cons.injEq, and_true] at hcs
    subst hcs
    simp only [if_true] at hmm
    have hx : ∀ i, ∃ q : Int × Int, i < len → (w.cell? (a.add (i * 2)) = some (.int .i64 q.1) ∧ w.cell? (a.add (i * 2 + 1)) = some (.int .i64 q.2)) ∧ I64 q.1 ∧ I64 q.2 := by
      intro i
      by_cases hi : i < len
      · obtain ⟨cs', hcs', ht⟩ := hc i (by omega)
        rw [c55] at hcs'
        obtain ⟨_, hlen, hat⟩ := World.cells?_some hcs'
        obtain ⟨y0, y1, n2, _, _, h0, h1⟩ := trod_struct2 Tryd.underlying55 ht
        simp only [c3] at h0 h1
        match cs', hlen with
        | [e0, e1], _ =>
          simp only [List.drop_zero, List.take_succ_cons, List.take_zero, List.drop_succ_cons] at h0 h1
          obtain ⟨z0, hz0, _, g0⟩ := DataW.trod_int Tryd.underlying3 h0
          obtain ⟨z1, hz1, _, g1⟩ := DataW.trod_int Tryd.underlying3 h1
          simp only [List.cons.injEq, and_true] at hz0 hz1
          subst hz0 hz1
          refine ⟨(z0, z1), fun _ => ⟨⟨?_, ?_⟩, wf_I64 g0, wf_I64 g1⟩⟩
          · have := hat 0 (by decide); rw [add_add] at this; exact this
          · have := hat 1 (by decide); rw [add_add] at this; exact this
      · exact ⟨(0, 0), fun h => absurd h hi⟩
    obtain ⟨F, hF⟩ := Classical.axiomOfChoice hx
    have hml : ((List.range len).map F).length = len := by simp
    refine ⟨(List.range len).map F, ⟨by rw [hml]; omega, some a, cap, by rw [hml], by rw [hml]; exact hl, hm, .inr ⟨a, rfl, ?_, ?_⟩⟩, ?_⟩
    · intro h0
      rw [hml] at h0
      have := World.block_lt_of_cell? w _ (hF 0 h0).1.1
      rwa [add_block] at this
    · intro j u hj
      have hjl : j < len * 2 := by
        have := (List.getElem?_eq_some_iff.1 hj).1
        rwa [jcells_len, hml] at this
      obtain ⟨i, r, hr, rfl⟩ : ∃ i r, r < 2 ∧ j = i * 2 + r := ⟨j / 2, j % 2, by omega, by omega⟩
      have hi : i < len := by omega
      obtain ⟨c0, c1⟩ := jcells_at ((List.range len).map F) i (by rw [hml]; exact hi)
      have hmv : jlAt ((List.range len).map F) i = F i := by simp [jlAt, List.getD, hi]
      rw [hmv] at c0 c1
      obtain ⟨⟨f0, f1⟩, _⟩ := hF i hi
      have hr : r = 0 ∨ r = 1 := by omega
      rcases hr with rfl | rfl
      · rw [Nat.add_zero, c0] at hj; cases hj; exact f0
      · rw [c1] at hj; cases hj; exact f1
    · intro q hq
      rw [List.mem_map] at hq
      obtain ⟨i, hi, rfl⟩ := hq
      exact (hF i (List.mem_range.1 hi)).2
/-- the numbers of an oven are numbers of the machine -/
structure Ov.Big (o : Ov) : Prop where
  mv : ∀ m ∈ o.moves, I64 m.1 ∧ I64 m.2.1 ∧ I64 m.2.2.1 ∧ I64 m.2.2.2
  jl : ∀ j ∈ o.jolts, I64 j.1 ∧ I64 j.2
set_option maxRecDepth 100000 in
theorem read_ov {b0 : Nat} {v : Value} {d : DataW H} {p : List MemPlace} (hv : Value.okWide Tryd.prog w .any b0 26 v) (h : DataW.Trod enc Tryd.prog w base (fun _ => true) held 26 v d p) :
    ∃ vs vm vj o, v = .agg #[vs, vm, vj] ∧ ArgOv w vs vm vj o ∧ o.Big := by
  obtain ⟨v0, v1, v2, y0, y1, y2, n, rfl, _, _, h0, h1, h2⟩ := open_agg3 Tryd.underlying26 (by kernel_rfl) (by kernel_rfl) hv h
  obtain ⟨g, hg⟩ := read_grid h0
  obtain ⟨ms, hm, hm2⟩ := read_mv h1
  obtain ⟨js, hj, hj2⟩ := read_jl h2
  exact ⟨v0, v1, v2, ⟨g, ms, js⟩, rfl, ⟨hg, hm, hj⟩, ⟨hm2, hj2⟩⟩
set_option maxRecDepth 100000 in
/-- a cell that came in -/
theorem read_cell {b0 : Nat} {v : Value} {d : DataW H} {p : List MemPlace} (hv : Value.okWide Tryd.prog w .any b0 28 v) (h : DataW.Trod enc Tryd.prog w base (fun _ => true) held 28 v d p) :
    ∃ c : Sp, v = spv c ∧ I64 c.1 ∧ I64 c.2.1 ∧ I64 c.2.2 := by
  obtain ⟨v0, v1, v2, y0, y1, y2, n, rfl, _, _, h0, h1, h2⟩ := open_agg3 Tryd.underlying28 (by kernel_rfl) (by kernel_rfl) hv h
  obtain ⟨z0, hz0, _, g0⟩ := DataW.trod_int Tryd.underlying3 h0
  obtain ⟨z1, hz1, _, g1⟩ := DataW.trod_int Tryd.underlying3 h1
  obtain ⟨z2, hz2, _, g2⟩ := DataW.trod_int Tryd.underlying3 h2
  simp only [List.cons.injEq, and_true] at hz0 hz1 hz2
  subst hz0 hz1 hz2
  exact ⟨(z0, z1, z2), rfl, wf_I64 g0, wf_I64 g1, wf_I64 g2⟩
end
end Go.Proofs.YtjonbhimbhidpaaDoor
