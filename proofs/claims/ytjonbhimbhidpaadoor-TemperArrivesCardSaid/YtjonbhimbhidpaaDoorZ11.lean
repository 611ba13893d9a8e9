/-
  Arguments of any length; appends of parts of them in regions that draw their order.
  What the frame tells of the arguments: ovens.
  Plain facts of chapter 6: what the statements cut.
  Words for the walks over chapter 6: append of a row of strings in a region that draws its order; a new oven in the making.
  Words for the walks over chapter 6: the region in which the cut makes its new oven, operation by operation.
  Words for the walks over chapter 6: the region in which the cut appends a row, operation by operation.
  Walks over chapter 6: the statements cut their arguments: ovens.
-/
import Derived.Test.YtjonbhimbhidpaaDoorZ10
import Derived.Deep.Slices
import Derived.SliceStrings
import Derived.Lib.SmallJoins
import Derived.RangeFuncBox
import Derived.Deep.RegionHeld3
namespace Go.Proofs.YtjonbhimbhidpaaDoor
open Go.RowKit

/-- the value src reads as m elements, of size cells each -/
def Rd (w : World) (src : Value) (m size : Nat) (us : List Value) : Prop :=
  us.length = m * size ∧ (∀ u ∈ us, u.oneCell' = true) ∧ ((src = .slice none 0 0 ∧ m = 0) ∨ ∃ ad c, src = .slice (some ad) m c ∧ (0 < us.length → ad.block < w.heap.size) ∧ ∀ j u, us[j]? = some u → w.cell? (ad.add j) = some u)
theorem rd_below {w w' : World} {src : Value} {m size : Nat} {us : List Value} (h : Rd w src m size us) (hb : Below w.heap.size w w') : Rd w' src m size us := by
  obtain ⟨h1, h2, h3⟩ := h
  refine ⟨h1, h2, h3.imp_right ?_⟩
  rintro ⟨ad, c, rfl, hlt, hc⟩
  exact ⟨ad, c, rfl, fun h0 => Nat.lt_of_lt_of_le (hlt h0) hb.size, fun j u hj => (hb.cell (by rw [add_block]; exact hlt (by have := (List.getElem?_eq_some_iff.1 hj).1; omega))).trans (hc j u hj)⟩
theorem row_of_block {w : World} {B g size : Nat} {e : TypeId} (h : w.heap[g]? = some (.cells #[] e)) (hB : B ≤ g) : w.ownsRow B e size (.slice (some ⟨g, 0, none⟩) 0 0) 0 [] :=
  ⟨by simp, .inr ⟨g, 0, #[], rfl, hB, h, Nat.le_refl _, by decide, by simp, by simp⟩⟩
/-- append of some elements to an empty slice, at a step of a region that draws its order -/
theorem step_app {ops : Array Oper} {o : Oper} {a : Act} {K : Act → World → Prop} {Q : Exit → Act → World → Prop} {E : Prop} {W : World}
    (B : Nat) (s x : Operand) (t e : TypeId) (z : Value) (size bytes : Nat) (hi : (Tryd.prog.info? e).map (fun i => (i.zero, i.size, i.bytes)) = some (some z, size, bytes)) (hz : z.cells.size = size) (hsz : 0 < size)
    (ht : Tryd.prog.underlying t = some (.slice e)) (g m : Nat) (us : List Value) (src : Value)
    (hgd : o.guard = none) (ho : o.op = .call { callee := .builtin .append, args := #[s, x], argTypes := #[t, t] })
    (hs : a.eval s = .slice (some ⟨g, 0, none⟩) 0 0) (hx : a.eval x = src) (hsrc : Rd W src m size us) (hg : W.heap[g]? = some (.cells #[] e)) (hB : B ≤ g)
    (hlen : m * bytes ≤ 100000000 ∧ m ≤ 1000000)
    (h : ∀ sa sn sc w', Hid (w'.ownsRow B e size (.slice sa sn sc) m us) → Hid (W.grownBy w' (some g)) → K (a.put o.dst (.slice sa sn sc)) w') :
    if Region.wanted o (yielded ops a.tmps) = true then Oper.wp Tryd.prog o a W K Q else E := by
  have hw : Region.wanted o (yielded ops a.tmps) = true := by simp [Region.wanted, hgd]
  rw [if_pos hw]
  cases hi0 : Tryd.prog.info? e with
  | none => rw [hi0] at hi; cases hi
  | some i =>
    rw [hi0] at hi
    simp only [Option.map_some, Option.some.injEq, Prod.mk.injEq] at hi
    obtain ⟨h1, h2, h3⟩ := hi
    have hown : W.ownsRow B e size (.slice (some ⟨g, 0, none⟩) 0 0) 0 [] := row_of_block hg hB
    have hgl := heap_lt hg
    obtain ⟨r1, r2, ⟨rfl, rfl⟩ | ⟨ad, c, rfl, hlt, hc⟩⟩ := hsrc
    · have hr := run_append_owned_none (P := Tryd.prog) W B t o.type e i size ht hi0 _ 0 [] hown
      unfold Oper.wp execOp
      simp only [ho, resolve, invoke, builtin, Sem.run_bind, Sem.run_pure, Result.andThen_ok, List.map_toArray, List.map_cons, List.map_nil, hs, hx, hr]
      have hus : us = [] := List.length_eq_zero_iff.1 (by simpa using r1)
      subst hus
      exact h _ _ _ _ hown ⟨rfl, rfl, rfl, Nat.le_refl _, fun _ _ _ => rfl⟩
    · refine wp_append_own W s x t ho B e i z size bytes ht hi0 h1 h2 h3 hz hsz _ 0 [] hs hown ad m c us hx r1 hc r2 (by unfold maxLen; omega) (by rw [Nat.zero_add]; have := hlen.1; omega) (by omega) ?_
      intro v' w' hv hgr _
      rw [Nat.zero_add, List.nil_append] at hv
      obtain ⟨sa, sc, rfl⟩ := row_slice hv
      exact h _ _ _ _ hv hgr

def mcells (ms : List Mv) : List Value := ms.flatMap fun m => [.int .i64 m.1, .int .i64 m.2.1, .int .i64 m.2.2.1, .int .i64 m.2.2.2]
def jcells (js : List (Int × Int)) : List Value := js.flatMap fun j => [.int .i64 j.1, .int .i64 j.2]
theorem mcells_len (ms : List Mv) : (mcells ms).length = ms.length * 4 := by
  induction ms with
  | nil => rfl
  | cons a ms ih => simp only [mcells, List.flatMap_cons, List.length_append, List.length_cons, List.length_nil] at *; omega
theorem jcells_len (js : List (Int × Int)) : (jcells js).length = js.length * 2 := by
  induction js with
  | nil => rfl
  | cons a js ih => simp only [jcells, List.flatMap_cons, List.length_append, List.length_cons, List.length_nil] at *; omega
theorem mcells_take (ms : List Mv) (k : Nat) : mcells (ms.take k) = (mcells ms).take (k * 4) := by
  induction ms generalizing k with
  | nil => simp [mcells]
  | cons a ms ih =>
    cases k with
    | zero => simp [mcells]
    | succ k =>
      have := ih k
      simp only [mcells, List.take_succ_cons, List.flatMap_cons] at this ⊢
      rw [this, show (k + 1) * 4 = k * 4 + 4 by omega]
      simp
theorem jcells_take (js : List (Int × Int)) (k : Nat) : jcells (js.take k) = (jcells js).take (k * 2) := by
  induction js generalizing k with
  | nil => simp [jcells]
  | cons a js ih =>
    cases k with
    | zero => simp [jcells]
    | succ k =>
      have := ih k
      simp only [jcells, List.take_succ_cons, List.flatMap_cons] at this ⊢
      rw [this, show (k + 1) * 2 = k * 2 + 2 by omega]
      simp
theorem mcells_one (ms : List Mv) : ∀ u ∈ mcells ms, u.oneCell' = true := by
  intro u hu
  unfold mcells at hu
  rw [List.mem_flatMap] at hu
  obtain ⟨m, _, hm⟩ := hu
  simp at hm
  rcases hm with rfl | rfl | rfl | rfl <;> rfl
theorem jcells_one (js : List (Int × Int)) : ∀ u ∈ jcells js, u.oneCell' = true := by
  intro u hu
  unfold jcells at hu
  rw [List.mem_flatMap] at hu
  obtain ⟨m, _, hm⟩ := hu
  simp at hm
  rcases hm with rfl | rfl <;> rfl
theorem mcells_at (ms : List Mv) : ∀ i, i < ms.length → (mcells ms)[i * 4]? = some (.int .i64 (mvAt ms i).1) ∧ (mcells ms)[i * 4 + 1]? = some (.int .i64 (mvAt ms i).2.1) ∧ (mcells ms)[i * 4 + 2]? = some (.int .i64 (mvAt ms i).2.2.1) ∧ (mcells ms)[i * 4 + 3]? = some (.int .i64 (mvAt ms i).2.2.2) := by
  induction ms with
  | nil => intro i h; simp at h
  | cons a ms ih =>
    intro i h
    cases i with
    | zero => simp [mcells, mvAt]
    | succ i =>
      have := ih i (by simpa using h)
      have e1 : (i + 1) * 4 = i * 4 + 4 := by omega
      have h2 : mvAt (a :: ms) (i + 1) = mvAt ms i := by simp [mvAt]
      rw [e1, h2]
      simpa [mcells] using this
theorem jcells_at (js : List (Int × Int)) : ∀ i, i < js.length → (jcells js)[i * 2]? = some (.int .i64 (jlAt js i).1) ∧ (jcells js)[i * 2 + 1]? = some (.int .i64 (jlAt js i).2) := by
  induction js with
  | nil => intro i h; simp at h
  | cons a js ih =>
    intro i h
    cases i with
    | zero => simp [jcells, jlAt]
    | succ i =>
      have := ih i (by simpa using h)
      have e1 : (i + 1) * 2 = i * 2 + 2 := by omega
      have h2 : jlAt (a :: js) (i + 1) = jlAt js i := by simp [jlAt]
      rw [e1, h2]
      simpa [jcells] using this
theorem row_isMv {w : World} {B : Nat} {v : Value} {ms : List Mv} (h : w.ownsRow B 53 4 v ms.length (mcells ms)) (hl : ms.length ≤ 1000000) : IsMv w v ms := by
  obtain ⟨h1, h2 | ⟨g, cap, cur, rfl, hB, hh, hn, hm, hs, ht⟩⟩ := h
  · obtain ⟨rfl, h0⟩ := h2
    refine ⟨none, 0, by rw [h0], by omega, fun i hi => by omega⟩
  · refine ⟨_, cap, rfl, hl, fun i hi => ⟨g, rfl, ?_⟩⟩
    obtain ⟨c0, c1, c2, c3⟩ := mcells_at ms i hi
    have hc : ∀ j, j < ms.length * 4 → w.cell? ⟨g, j, none⟩ = (mcells ms)[j]? := by
      intro j hj
      rw [← ht, List.getElem?_take, if_pos hj, World.cell?, hh]
      simp
    exact ⟨by rw [hc _ (by omega)]; exact c0, by rw [hc _ (by omega)]; exact c1, by rw [hc _ (by omega)]; exact c2, by rw [hc _ (by omega)]; exact c3⟩
theorem row_isJl {w : World} {B : Nat} {v : Value} {js : List (Int × Int)} (h : w.ownsRow B 55 2 v js.length (jcells js)) (hl : js.length ≤ 1000000) : IsJl w v js := by
  obtain ⟨h1, h2 | ⟨g, cap, cur, rfl, hB, hh, hn, hm, hs, ht⟩⟩ := h
  · obtain ⟨rfl, h0⟩ := h2
    refine ⟨none, 0, by rw [h0], by omega, fun i hi => by omega⟩
  · refine ⟨_, cap, rfl, hl, fun i hi => ⟨g, rfl, ?_⟩⟩
    obtain ⟨c0, c1⟩ := jcells_at js i hi
    have hc : ∀ j, j < js.length * 2 → w.cell? ⟨g, j, none⟩ = (jcells js)[j]? := by
      intro j hj
      rw [← ht, List.getElem?_take, if_pos hj, World.cell?, hh]
      simp
    exact ⟨by rw [hc _ (by omega)]; exact c0, by rw [hc _ (by omega)]; exact c1⟩
theorem info53 : (Tryd.prog.info? 53).map (fun i => (i.zero, i.size, i.bytes)) = some (some (.agg #[.int .i64 0, .int .i64 0, .int .i64 0, .int .i64 0]), 4, 32) := by kernel_rfl
theorem info55 : (Tryd.prog.info? 55).map (fun i => (i.zero, i.size, i.bytes)) = some (some (.agg #[.int .i64 0, .int .i64 0]), 2, 16) := by kernel_rfl

/-- an argument that is a list of moves ¦ of jolts ¦ of rows of strings -/
def ArgMv (w : World) (v : Value) (ms : List Mv) : Prop := ms.length ≤ maxLen ∧ ∃ a c, v = .slice a ms.length c ∧ ms.length ≤ c ∧ c ≤ maxLen ∧ ((a = none ∧ c = 0) ∨ ∃ ad, a = some ad ∧ (0 < ms.length → ad.block < w.heap.size) ∧ ∀ j u, (mcells ms)[j]? = some u → w.cell? (ad.add j) = some u)
def ArgJl (w : World) (v : Value) (js : List (Int × Int)) : Prop := js.length ≤ maxLen ∧ ∃ a c, v = .slice a js.length c ∧ js.length ≤ c ∧ c ≤ maxLen ∧ ((a = none ∧ c = 0) ∨ ∃ ad, a = some ad ∧ (0 < js.length → ad.block < w.heap.size) ∧ ∀ j u, (jcells js)[j]? = some u → w.cell? (ad.add j) = some u)
def ArgGrid (w : World) (v : Value) (g : Grid) : Prop :=
  ∃ a c, v = .slice a g.length c ∧ g.length ≤ maxLen ∧ ∀ i, i < g.length → ∃ ad u, a = some ad ∧ ad.block < w.heap.size ∧ w.cell? (ad.add i) = some u ∧ ArgStrs w u (g.getD i [])
structure ArgOv (w : World) (vs vm vj : Value) (o : Ov) : Prop where
  safe : ArgGrid w vs o.safe
  moves : ArgMv w vm o.moves
  jolts : ArgJl w vj o.jolts
theorem rd_mv {w : World} {ad : Addr} {c : Nat} {ms : List Mv} (k : Nat) (hlt : 0 < ms.length → ad.block < w.heap.size) (h : ∀ j u, (mcells ms)[j]? = some u → w.cell? (ad.add j) = some u) (hk : k = min ms.length 17) : Rd w (.slice (some ad) k c) k 4 (mcells (ms.take 17)) := by
  refine ⟨by rw [mcells_len, List.length_take, hk, Nat.min_comm], mcells_one _, .inr ⟨ad, c, rfl, fun h0 => hlt (by rw [mcells_len, List.length_take] at h0; omega), fun j u hj => h j u ?_⟩⟩
  rw [mcells_take, List.getElem?_take] at hj
  split at hj
  · exact hj
  · cases hj
theorem rd_jl {w : World} {ad : Addr} {c : Nat} {js : List (Int × Int)} (k : Nat) (hlt : 0 < js.length → ad.block < w.heap.size) (h : ∀ j u, (jcells js)[j]? = some u → w.cell? (ad.add j) = some u) (hk : k = min js.length 5) : Rd w (.slice (some ad) k c) k 2 (jcells (js.take 5)) := by
  refine ⟨by rw [jcells_len, List.length_take, hk, Nat.min_comm], jcells_one _, .inr ⟨ad, c, rfl, fun h0 => hlt (by rw [jcells_len, List.length_take] at h0; omega), fun j u hj => h j u ?_⟩⟩
  rw [jcells_take, List.getElem?_take] at hj
  split at hj
  · exact hj
  · cases hj
theorem rd_nil (w : World) (size : Nat) : Rd w (.slice none 0 0) 0 size [] := ⟨by simp, by simp, .inl ⟨rfl, rfl⟩⟩
end Go.Proofs.YtjonbhimbhidpaaDoor

namespace Go.Proofs.YtjonbhimbhidpaaDoor
open Go.RowKit Go.ChangeShapes Go.WideShapes Go.Deep Go.Joins

section
variable {H : Type} {enc : TypeId × Value → H} {w : World} {base : Nat} {held : Bool}

theorem wf_I64 {z : Int} (h : (Lit.int .i64 z).wf = true) : I64 z := by
  unfold Lit.wf at h
  rw [Bool.and_eq_true, decide_eq_true_eq, decide_eq_true_eq] at h
  have h1 : IntKind.i64.min = -9223372036854775808 := by decide
  have h2 : IntKind.i64.max = 9223372036854775807 := by decide
  unfold I64; omega
theorem read_strs {n : Nat} {v : Value} {y : DataW H × List MemPlace} (h : DataW.trod enc Tryd.prog w base (fun _ => true) held n 71 [v] = some y) : ∃ xs, ArgStrs w v xs := by
  rcases open_strings Tryd.underlying71 Tryd.underlying9 (by kernel_rfl) h with ⟨hcs, _⟩ | ⟨a, len, cap, ss, hcs, _, hl, hm, hss, _, hc, _⟩
  · simp only [List.cons.injEq, and_true] at hcs
    subst hcs
    exact ⟨[], none, 0, rfl, by decide, fun i hi => by simp at hi⟩
  · simp only [List.cons.injEq, and_true] at hcs
    subst hcs
    simp only [if_true] at hss
    refine ⟨(ss.take len).map fun s => s.data.toList, some a, cap, by simp; omega, by simp; omega, fun i hi => ?_⟩
    have hi2 : i < len ∧ i < ss.length := by simp at hi; omega
    have hcell := hc i hi2.2
    refine ⟨a, rfl, ?_, ?_⟩
    · have := World.block_lt_of_cell? w _ hcell
      rwa [add_block] at this
    · rw [hcell]
      simp [hi2.1, hi2.2, List.getD, strB_data]
theorem read_grid {n : Nat} {v : Value} {y : DataW H × List MemPlace} (h : DataW.trod enc Tryd.prog w base (fun _ => true) held n 22 [v] = some y) : ∃ g, ArgGrid w v g := by
  rcases open_slice1 Tryd.underlying22 (by kernel_rfl) h with ⟨hcs, _⟩ | ⟨a, len, cap, m, n', V, D, Pl, hcs, _, hl, hm, hmm, _, hc⟩
  · simp only [List.cons.injEq, and_true] at hcs
    subst hcs
    exact ⟨[], none, 0, rfl, by decide, fun i hi => by simp at hi⟩
  · simp only [List.cons.injEq, and_true] at hcs
    subst hcs
    simp only [if_true] at hmm
    have hx : ∀ i, ∃ xs, i < len → ArgStrs w (V i) xs := by
      intro i
      by_cases hi : i < len
      · obtain ⟨xs, hxs⟩ := read_strs (hc i (by omega)).2
        exact ⟨xs, fun _ => hxs⟩
      · exact ⟨[], fun h => absurd h hi⟩
    obtain ⟨F, hF⟩ := Classical.axiomOfChoice hx
    refine ⟨(List.range len).map F, some a, cap, by simp, by simp; omega, fun i hi => ?_⟩
    have hi2 : i < len := by simpa using hi
    have hcell := (hc i (by omega)).1
    refine ⟨a, V i, rfl, ?_, hcell, ?_⟩
    · have := World.block_lt_of_cell? w _ hcell
      rwa [add_block] at this
    · have := hF i hi2
      simpa [List.getD, hi2] using this
theorem read_mv {n : Nat} {v : Value} {y : DataW H × List MemPlace} (h : DataW.trod enc Tryd.prog w base (fun _ => true) held n 23 [v] = some y) : ∃ ms, ArgMv w v ms ∧ ∀ m ∈ ms, I64 m.1 ∧ I64 m.2.1 ∧ I64 m.2.2.1 ∧ I64 m.2.2.2 := by
  have c53 : Tryd.prog.cellsOf 53 = 4 := by kernel_rfl
  have c3 : Tryd.prog.cellsOf 3 = 1 := by kernel_rfl
  rcases open_slice Tryd.underlying23 h with ⟨hcs, _⟩ | ⟨a, len, cap, m, n', D, Pl, hcs, _, hl, hm, hmm, _, hc⟩
  · simp only [List.cons.injEq, and_true] at hcs
    subst hcs
    exact ⟨[], ⟨by decide, none, 0, rfl, by simp, by decide, .inl ⟨rfl, rfl⟩⟩, fun m hm => by simp at hm⟩
  · simp only [List.cons.injEq, and_true] at hcs
    subst hcs
    simp only [if_true] at hmm
    have hx : ∀ i, ∃ q : Mv, i < len → (w.cell? (a.add (i * 4)) = some (.int .i64 q.1) ∧ w.cell? (a.add (i * 4 + 1)) = some (.int .i64 q.2.1) ∧ w.cell? (a.add (i * 4 + 2)) = some (.int .i64 q.2.2.1) ∧ w.cell? (a.add (i * 4 + 3)) = some (.int .i64 q.2.2.2)) ∧ I64 q.1 ∧ I64 q.2.1 ∧ I64 q.2.2.1 ∧ I64 q.2.2.2 := by
      intro i
      by_cases hi : i < len
      · obtain ⟨cs', hcs', ht⟩ := hc i (by omega)
        rw [c53] at hcs'
        obtain ⟨_, hlen, hat⟩ := World.cells?_some hcs'
        obtain ⟨y0, y1, y2, y3, n2, _, _, h0, h1, h2, h3⟩ := trod_struct4 Tryd.underlying53 ht
        simp only [c3] at h0 h1 h2 h3
        match cs', hlen with
        | [e0, e1, e2, e3], _ =>
          simp only [List.drop_zero, List.take_succ_cons, List.take_zero, List.drop_succ_cons] at h0 h1 h2 h3
          obtain ⟨z0, hz0, _, g0⟩ := DataW.trod_int Tryd.underlying3 h0
          obtain ⟨z1, hz1, _, g1⟩ := DataW.trod_int Tryd.underlying3 h1
          obtain ⟨z2, hz2, _, g2⟩ := DataW.trod_int Tryd.underlying3 h2
          obtain ⟨z3, hz3, _, g3⟩ := DataW.trod_int Tryd.underlying3 h3
          simp only [List.cons.injEq, and_true] at hz0 hz1 hz2 hz3
          subst hz0 hz1 hz2 hz3
          refine ⟨(z0, z1, z2, z3), fun _ => ⟨⟨?_, ?_, ?_, ?_⟩, wf_I64 g0, wf_I64 g1, wf_I64 g2, wf_I64 g3⟩⟩
          · have := hat 0 (by decide); rw [add_add] at this; exact this
          · have := hat 1 (by decide); rw [add_add] at this; exact this
          · have := hat 2 (by decide); rw [add_add] at this; exact this
          · have := hat 3 (by decide); rw [add_add] at this; exact this
      · exact ⟨(0, 0, 0, 0), fun h => absurd h hi⟩
    obtain ⟨F, hF⟩ := Classical.axiomOfChoice hx
    have hml : ((List.range len).map F).length = len := by simp
    refine ⟨(List.range len).map F, ⟨by rw [hml]; omega, some a, cap, by rw [hml], by rw [hml]; exact hl, hm, .inr ⟨a, rfl, ?_, ?_⟩⟩, ?_⟩
    · intro h0
      rw [hml] at h0
      have := World.block_lt_of_cell? w _ (hF 0 h0).1.1
      rwa [add_block] at this
    · intro j u hj
      have hjl : j < len * 4 := by
        have := (List.getElem?_eq_some_iff.1 hj).1
        rwa [mcells_len, hml] at this
      obtain ⟨i, r, hr, rfl⟩ : ∃ i r, r < 4 ∧ j = i * 4 + r := ⟨j / 4, j % 4, by omega, by omega⟩
      have hi : i < len := by omega
      obtain ⟨c0, c1, c2, c3'⟩ := mcells_at ((List.range len).map F) i (by rw [hml]; exact hi)
      have hmv : mvAt ((List.range len).map F) i = F i := by simp [mvAt, List.getD, hi]
      rw [hmv] at c0 c1 c2 c3'
      obtain ⟨⟨f0, f1, f2, f3⟩, _⟩ := hF i hi
      have hr : r = 0 ∨ r = 1 ∨ r = 2 ∨ r = 3 := by omega
      rcases hr with rfl | rfl | rfl | rfl
      · rw [Nat.add_zero, c0] at hj; cases hj; exact f0
      · rw [c1] at hj; cases hj; exact f1
      · rw [c2] at hj; cases hj; exact f2
      · rw [c3'] at hj; cases hj; exact f3
    · intro q hq
      rw [List.mem_map] at hq
      obtain ⟨i, hi, rfl⟩ := hq
      exact (hF i (List.mem_range.1 hi)).2
theorem read_jl {n : Nat} {v : Value} {y : DataW H × List MemPlace} (h : DataW.trod enc Tryd.prog w base (fun _ => true) held n 24 [v] = some y) : ∃ js, ArgJl w v js ∧ ∀ j ∈ js, I64 j.1 ∧ I64 j.2 := by
  have c55 : Tryd.prog.cellsOf 55 = 2 := by kernel_rfl
  have c3 : Tryd.prog.cellsOf 3 = 1 := by kernel_rfl
  rcases open_slice Tryd.underlying24 h with ⟨hcs, _⟩ | ⟨a, len, cap, m, n', D, Pl, hcs, _, hl, hm, hmm, _, hc⟩
  · simp only [List.cons.injEq, and_true] at hcs
    subst hcs
    exact ⟨[], ⟨by decide, none, 0, rfl, by simp, by decide, .inl ⟨rfl, rfl⟩⟩, fun m hm => by simp at hm⟩
  · simp only [List.cons.injEq, and_true] at hcs
    subst hcs
    simp only [if_true] at hmm
    have hx : ∀ i, ∃ q : Int × Int, i < len → (w.cell? (a.add (i * 2)) = some (.int .i64 q.1) ∧ w.cell? (a.add (i * 2 + 1)) = some (.int .i64 q.2)) ∧ I64 q.1 ∧ I64 q.2 := by
      intro i
      by_cases hi : i < len
      · obtain ⟨cs', hcs', ht⟩ := hc i (by omega)
        rw [c55] at hcs'
        obtain ⟨_, hlen, hat⟩ := World.cells?_some hcs'
        obtain ⟨y0, y1, n2, _, _, h0, h1⟩ := trod_struct2 Tryd.underlying55 ht
        simp only [c3] at h0 h1
        match cs', hlen with
        | [e0, e1], _ =>
          simp only [List.drop_zero, List.take_succ_cons, List.take_zero, List.drop_succ_cons] at h0 h1
          obtain ⟨z0, hz0, _, g0⟩ := DataW.trod_int Tryd.underlying3 h0
          obtain ⟨z1, hz1, _, g1⟩ := DataW.trod_int Tryd.underlying3 h1
          simp only [List.cons.injEq, and_true] at hz0 hz1
          subst hz0 hz1
          refine ⟨(z0, z1), fun _ => ⟨⟨?_, ?_⟩, wf_I64 g0, wf_I64 g1⟩⟩
          · have := hat 0 (by decide); rw [add_add] at this; exact this
          · have := hat 1 (by decide); rw [add_add] at this; exact this
      · exact ⟨(0, 0), fun h => absurd h hi⟩
    obtain ⟨F, hF⟩ := Classical.axiomOfChoice hx
    have hml : ((List.range len).map F).length = len := by simp
    refine ⟨(List.range len).map F, ⟨by rw [hml]; omega, some a, cap, by rw [hml], by rw [hml]; exact hl, hm, .inr ⟨a, rfl, ?_, ?_⟩⟩, ?_⟩
    · intro h0
      rw [hml] at h0
      have := World.block_lt_of_cell? w _ (hF 0 h0).1.1
      rwa [add_block] at this
    · intro j u hj
      have hjl : j < len * 2 := by
        have := (List.getElem?_eq_some_iff.1 hj).1
        rwa [jcells_len, hml] at this
      obtain ⟨i, r, hr, rfl⟩ : ∃ i r, r < 2 ∧ j = i * 2 + r := ⟨j / 2, j % 2, by omega, by omega⟩
      have hi : i < len := by omega
      obtain ⟨c0, c1⟩ := jcells_at ((List.range len).map F) i (by rw [hml]; exact hi)
      have hmv : jlAt ((List.range len).map F) i = F i := by simp [jlAt, List.getD, hi]
      rw [hmv] at c0 c1
      obtain ⟨⟨f0, f1⟩, _⟩ := hF i hi
      have hr : r = 0 ∨ r = 1 := by omega
      rcases hr with rfl | rfl
      · rw [Nat.add_zero, c0] at hj; cases hj; exact f0
      · rw [c1] at hj; cases hj; exact f1
    · intro q hq
      rw [List.mem_map] at hq
      obtain ⟨i, hi, rfl⟩ := hq
      exact (hF i (List.mem_range.1 hi)).2
/-- the numbers of an oven are numbers of the machine -/
structure Ov.Big (o : Ov) : Prop where
  mv : ∀ m ∈ o.moves, I64 m.1 ∧ I64 m.2.1 ∧ I64 m.2.2.1 ∧ I64 m.2.2.2
  jl : ∀ j ∈ o.jolts, I64 j.1 ∧ I64 j.2
set_option maxRecDepth 100000 in
theorem read_ov {b0 : Nat} {v : Value} {d : DataW H} {p : List MemPlace} (hv : Value.okWide Tryd.prog w .any b0 26 v) (h : DataW.Trod enc Tryd.prog w base (fun _ => true) held 26 v d p) :
    ∃ vs vm vj o, v = .agg #[vs, vm, vj] ∧ ArgOv w vs vm vj o ∧ o.Big := by
  obtain ⟨v0, v1, v2, y0, y1, y2, n, rfl, _, _, h0, h1, h2⟩ := open_agg3 Tryd.underlying26 (by kernel_rfl) (by kernel_rfl) hv h
  obtain ⟨g, hg⟩ := read_grid h0
  obtain ⟨ms, hm, hm2⟩ := read_mv h1
  obtain ⟨js, hj, hj2⟩ := read_jl h2
  exact ⟨v0, v1, v2, ⟨g, ms, js⟩, rfl, ⟨hg, hm, hj⟩, ⟨hm2, hj2⟩⟩
set_option maxRecDepth 100000 in
/-- a cell that came in -/
theorem read_cell {b0 : Nat} {v : Value} {d : DataW H} {p : List MemPlace} (hv : Value.okWide Tryd.prog w .any b0 28 v) (h : DataW.Trod enc Tryd.prog w base (fun _ => true) held 28 v d p) :
    ∃ c : Sp, v = spv c ∧ I64 c.1 ∧ I64 c.2.1 ∧ I64 c.2.2 := by
  obtain ⟨v0, v1, v2, y0, y1, y2, n, rfl, _, _, h0, h1, h2⟩ := open_agg3 Tryd.underlying28 (by kernel_rfl) (by kernel_rfl) hv h
  obtain ⟨z0, hz0, _, g0⟩ := DataW.trod_int Tryd.underlying3 h0
  obtain ⟨z1, hz1, _, g1⟩ := DataW.trod_int Tryd.underlying3 h1
  obtain ⟨z2, hz2, _, g2⟩ := DataW.trod_int Tryd.underlying3 h2
  simp only [List.cons.injEq, and_true] at hz0 hz1 hz2
  subst hz0 hz1 hz2
  exact ⟨(z0, z1, z2), rfl, wf_I64 g0, wf_I64 g1, wf_I64 g2⟩
end
end Go.Proofs.YtjonbhimbhidpaaDoor

namespace Go.Proofs.YtjonbhimbhidpaaDoor
open Go.RowKit
/-- what the statements cut of an oven -/
def cutOv (o : Ov) : Ov := ⟨(o.safe.take 5).map cutStrs, o.moves.take 17, o.jolts.take 5⟩
theorem cutStr_len (s : Str) : (cutStr s).length ≤ 17 := by
  unfold cutStr
  split <;> rw [List.length_take] <;> omega
theorem short_cutStrs (xs : List Str) : ∀ s ∈ cutStrs xs, s.length ≤ 17 := by
  intro s hs
  unfold cutStrs at hs
  rw [List.mem_map] at hs
  obtain ⟨t, _, rfl⟩ := hs
  exact cutStr_len t
theorem short_cutG (g : Grid) (n : Nat) : ShortG ((g.take n).map cutStrs) := by
  intro p hp s hs
  rw [List.mem_map] at hp
  obtain ⟨q, _, rfl⟩ := hp
  have := short_cutStrs q s hs
  omega
theorem num_cut {o : Ov} (h : o.Big) : (cutOv o).Num :=
  ⟨fun m hm => h.mv m (List.mem_of_mem_take hm), fun j hj => h.jl j (List.mem_of_mem_take hj), short_cutG o.safe 5⟩
/-- arguments that lie below -/
theorem argMv_below {w w' : World} {v : Value} {ms : List Mv} (h : ArgMv w v ms) (hb : Below w.heap.size w w') : ArgMv w' v ms := by
  obtain ⟨hl, a, c, rfl, h1, h2, h3⟩ := h
  refine ⟨hl, a, c, rfl, h1, h2, ?_⟩
  rcases h3 with h3 | ⟨ad, rfl, hlt, hc⟩
  · exact .inl h3
  · refine .inr ⟨ad, rfl, fun h0 => Nat.lt_of_lt_of_le (hlt h0) hb.size, fun j u hj => ?_⟩
    have h0 : 0 < ms.length := by
      rcases Nat.eq_zero_or_pos ms.length with h | h
      · rw [List.length_eq_zero_iff.1 h] at hj; simp [mcells] at hj
      · exact h
    exact (hb.cell (by rw [add_block]; exact hlt h0)).trans (hc j u hj)
theorem argJl_below {w w' : World} {v : Value} {ms : List (Int × Int)} (h : ArgJl w v ms) (hb : Below w.heap.size w w') : ArgJl w' v ms := by
  obtain ⟨hl, a, c, rfl, h1, h2, h3⟩ := h
  refine ⟨hl, a, c, rfl, h1, h2, ?_⟩
  rcases h3 with h3 | ⟨ad, rfl, hlt, hc⟩
  · exact .inl h3
  · refine .inr ⟨ad, rfl, fun h0 => Nat.lt_of_lt_of_le (hlt h0) hb.size, fun j u hj => ?_⟩
    have h0 : 0 < ms.length := by
      rcases Nat.eq_zero_or_pos ms.length with h | h
      · rw [List.length_eq_zero_iff.1 h] at hj; simp [jcells] at hj
      · exact h
    exact (hb.cell (by rw [add_block]; exact hlt h0)).trans (hc j u hj)
theorem argGrid_below {w w' : World} {v : Value} {g : Grid} (h : ArgGrid w v g) (hb : Below w.heap.size w w') : ArgGrid w' v g := by
  obtain ⟨a, c, rfl, hl, hc⟩ := h
  refine ⟨a, c, rfl, hl, fun i hi => ?_⟩
  obtain ⟨ad, u, ha, hlt, h1, h2⟩ := hc i hi
  exact ⟨ad, u, ha, Nat.lt_of_lt_of_le hlt hb.size, (hb.cell (by rw [add_block]; exact hlt)).trans h1, argStrs_below h2 hb⟩
theorem argOv_below {w w' : World} {vs vm vj : Value} {o : Ov} (h : ArgOv w vs vm vj o) (hb : Below w.heap.size w w') : ArgOv w' vs vm vj o :=
  ⟨argGrid_below h.safe hb, argMv_below h.moves hb, argJl_below h.jolts hb⟩
end Go.Proofs.YtjonbhimbhidpaaDoor

namespace Go.Proofs.YtjonbhimbhidpaaDoor
open Go.RowKit

/-- append of one row at a step of a region that draws its order -/
theorem step_app_row {ops : Array Oper} {o : Oper} {a : Act} {K : Act → World → Prop} {Q : Exit → Act → World → Prop} {E : Prop} {W : World}
    (s x : Operand) (v : Value) (B : Nat) (g : Grid) (gb : Nat) (u : Value) (z : List Str)
    (hgd : o.guard = none) (ho : o.op = .call { callee := .builtin .append, args := #[s, x], argTypes := #[22, 22] })
    (hs : a.eval s = v) (hx : a.eval x = .slice (some ⟨gb, 0, none⟩) 1 1) (hz : W.heap[gb]? = some (.cells #[u] 71 (0, 0)))
    (hown : OwnG W B v g) (hu : OwnT W B u z) (hlen : g.length < 1000000) (hB : B ≤ W.heap.size)
    (h : ∀ sa sn sc w', OwnG w' B (.slice sa sn sc) (g ++ [z]) → W.grownBy w' v.ownBlock → K (a.put o.dst (.slice sa sn sc)) w') :
    if Region.wanted o (yielded ops a.tmps) = true then Oper.wp Tryd.prog o a W K Q else E := by
  have hty := ownG_type hown
  obtain ⟨us, h1, h2, h3⟩ := hown
  have hu1 : u.oneCell' = true := by obtain ⟨a, c, rfl⟩ := ownT_slice hu; rfl
  cases hi0 : Tryd.prog.info? 71 with
  | none => have := info71; rw [hi0] at this; cases this
  | some i =>
    have hi := info71
    rw [hi0] at hi
    simp only [Option.map_some, Option.some.injEq, Prod.mk.injEq] at hi
    obtain ⟨e1, e2, e3⟩ := hi
    refine step_append_lies _ hgd s x 22 ho B 71 i (.slice none 0 0) 1 24 Tryd.underlying22 hi0 e1 e2 e3 rfl (by decide) v g.length us hs h1 ⟨gb, 0, none⟩ 1 1 [u] hx rfl ?_ (by simpa using hu1) (by decide) (by unfold maxLen; omega) (by omega) hB _ rfl ?_
    · exact World.news_of_block hz
    · intro g' cap w1 hown1 hgrow hat hlt
      refine h _ _ _ _ ⟨us ++ [u], by rw [List.length_append]; exact hown1, by simp [h2], fun i hi => ?_⟩ hgrow
      have hkeep : ∀ (q : Value) (ys : List Str), OwnT W B q ys → OwnT w1 B q ys := fun q ys hq => row_other hq hgrow hty (by decide)
      rw [List.length_append] at hi
      by_cases hi2 : i < g.length
      · have e1 : (us ++ [u]).getD i undef = us.getD i undef := by simp [List.getD, List.getElem?_append, h2 ▸ hi2]
        have e2 : (g ++ [z]).getD i [] = g.getD i [] := by simp [List.getD, List.getElem?_append, hi2]
        rw [e1, e2]
        exact hkeep _ _ (h3 i hi2)
      · obtain rfl : i = g.length := by simp at hi; omega
        have e1 : (us ++ [u]).getD g.length undef = u := by rw [← h2]; simp [List.getD]
        have e2 : (g ++ [z]).getD g.length [] = z := by simp [List.getD]
        rw [e1, e2]
        exact hkeep _ _ hu

theorem grown_set (w : World) (a : Addr) (u : Value) : w.grownBy (w.setCell a u) (some a.block) :=
  ⟨rfl, rfl, rfl, by simp, fun k _ hk => Below.heap_setCell _ _ _ _ (fun e => hk (by rw [e]))⟩
theorem row_set {w : World} {B n size : Nat} {e : TypeId} {v : Value} {xs : List Value} (h : w.ownsRow B e size v n xs) {a : Addr} (ha : a.block < B) (u : Value) : (w.setCell a u).ownsRow B e size v n xs := by
  have hlt := h.lt
  refine World.ownsRow.kept h (grown_set w a u) ?_
  cases hk : v.ownBlock with
  | none => exact .inl rfl
  | some k =>
    refine .inr fun e2 => ?_
    have := (hlt k hk).1
    cases e2
    omega
/-- an oven in the making: its box, its own grid so far, its own moves and jolts -/
structure Cut (B bx : Nat) (v vm vj : Value) (g : Grid) (ms : List Mv) (js : List (Int × Int)) (w : World) : Prop where
  hB : B ≤ bx
  box : w.heap[bx]? = some (.cells #[v, vm, vj] 26)
  g : OwnG w B v g
  mv : w.ownsRow B 53 4 vm ms.length (mcells ms)
  jl : w.ownsRow B 55 2 vj js.length (jcells js)
section
variable {B bx : Nat} {v vm vj : Value} {g : Grid} {ms : List Mv} {js : List (Int × Int)} {w w' : World}
theorem Cut.lt (h : Cut B bx v vm vj g ms js w) : bx < w.heap.size := World.block_lt_of_cell? w _ (cells3_of h.box).1
theorem Cut.below (h : Cut B bx v vm vj g ms js w) (hb : Below w.heap.size w w') : Cut B bx v vm vj g ms js w' :=
  ⟨h.hB, (hb.block bx h.lt).trans h.box, ownG_below h.g hb, row_below h.mv hb, row_below h.jl hb⟩
theorem Cut.grid (h : Cut B bx v vm vj g ms js w) (hg : w.grownBy w' v.ownBlock) :
    w'.heap[bx]? = some (.cells #[v, vm, vj] 26) ∧ w'.ownsRow B 53 4 vm ms.length (mcells ms) ∧ w'.ownsRow B 55 2 vj js.length (jcells js) := by
  have hty := ownG_type h.g
  refine ⟨(hg.block bx h.lt ?_).trans h.box, row_other h.mv hg hty (by decide), row_other h.jl hg hty (by decide)⟩
  intro e
  obtain ⟨cs, hc⟩ := hty bx e.symm
  rw [h.box] at hc
  simp at hc
theorem Cut.step {v' : Value} {g' : Grid} (h : Cut B bx v vm vj g ms js w) (hg : w.grownBy w' v.ownBlock) (ho : OwnG w' B v' g') :
    Cut B bx v' vm vj g' ms js (w'.setCell ⟨bx, 0, none⟩ v') := by
  obtain ⟨h1, h2, h3⟩ := h.grid hg
  have hs := grownBy_setCell' w' bx v'
  have ht : ∀ k, some bx = some k → ∃ cs, w'.heap[k]? = some (.cells cs 26) := by
    intro k hk; cases hk; exact ⟨_, h1⟩
  obtain ⟨us, g1, g2, g3⟩ := ho
  exact ⟨h.hB, by simp [World.setCell, Array.getElem?_modify, h1], ⟨us, row_other g1 hs ht (by decide), g2, fun i hi => row_other (g3 i hi) hs ht (by decide)⟩, row_other h2 hs ht (by decide), row_other h3 hs ht (by decide)⟩
theorem Cut.set (h : Cut B bx v vm vj g ms js w) {a : Addr} (ha : a.block < B) (u : Value) : Cut B bx v vm vj g ms js (w.setCell a u) := by
  obtain ⟨us, g1, g2, g3⟩ := h.g
  exact ⟨h.hB, (Below.heap_setCell _ _ _ _ (by have := h.hB; omega)).trans h.box, ⟨us, row_set g1 ha u, g2, fun i hi => row_set (g3 i hi) ha u⟩, row_set h.mv ha u, row_set h.jl ha u⟩
theorem Cut.ov (h : Cut B bx v vm vj g ms js w) (h1 : g.length ≤ 1000000) (h2 : ∀ p ∈ g, p.length ≤ 1000000) (h3 : ms.length ≤ 1000000) (h4 : js.length ≤ 1000000) : IsOv w v vm vj ⟨g, ms, js⟩ :=
  ⟨ownG_isGrid h.g h1 h2, row_isMv h.mv h3, row_isJl h.jl h4⟩
/-- an oven whose three lists are the call's own -/
structure OwnOv (w : World) (B : Nat) (v vm vj : Value) (o : Ov) : Prop where
  g : OwnG w B v o.safe
  mv : w.ownsRow B 53 4 vm o.moves.length (mcells o.moves)
  jl : w.ownsRow B 55 2 vj o.jolts.length (jcells o.jolts)
theorem Cut.own (h : Cut B bx v vm vj g ms js w) {B' : Nat} (hB : B' ≤ B) : OwnOv w B' v vm vj ⟨g, ms, js⟩ := ⟨ownG_mono h.g hB, row_mono h.mv hB, row_mono h.jl hB⟩
theorem OwnOv.below {o : Ov} (h : OwnOv w B v vm vj o) (hb : Below w.heap.size w w') : OwnOv w' B v vm vj o := ⟨ownG_below h.g hb, row_below h.mv hb, row_below h.jl hb⟩
theorem OwnOv.other {o : Ov} {x : Nat} {cs : Array Value} {t : TypeId} (h : OwnOv w B v vm vj o) (hg : w.grownBy w' (some x)) (hx : w.heap[x]? = some (.cells cs t)) (h1 : t ≠ 71) (h2 : t ≠ 9) (h3 : t ≠ 53) (h4 : t ≠ 55) : OwnOv w' B v vm vj o := by
  have ht : ∀ k, some x = some k → ∃ cs, w.heap[k]? = some (.cells cs t) := by intro k hk; cases hk; exact ⟨_, hx⟩
  obtain ⟨us, g1, g2, g3⟩ := h.g
  exact ⟨⟨us, row_other g1 hg ht (Ne.symm h1), g2, fun i hi => row_other (g3 i hi) hg ht (Ne.symm h2)⟩, row_other h.mv hg ht (Ne.symm h3), row_other h.jl hg ht (Ne.symm h4)⟩
theorem OwnOv.isOv {o : Ov} (h : OwnOv w B v vm vj o) (h1 : o.safe.length ≤ 1000000) (h2 : ∀ p ∈ o.safe, p.length ≤ 1000000) (h3 : o.moves.length ≤ 1000000) (h4 : o.jolts.length ≤ 1000000) : IsOv w v vm vj o :=
  ⟨ownG_isGrid h.g h1 h2, row_isMv h.mv h3, row_isJl h.jl h4⟩
theorem cutOv_isOv {o : Ov} (h : OwnOv w B v vm vj (cutOv o)) : IsOv w v vm vj (cutOv o) := by
  refine h.isOv (by simp [cutOv]; omega) (fun p hp => ?_) (by simp [cutOv]; omega) (by simp [cutOv]; omega)
  unfold cutOv at hp
  rw [List.mem_map] at hp
  obtain ⟨q, _, rfl⟩ := hp
  rw [cutStrs_len]
  split <;> omega
end
end Go.Proofs.YtjonbhimbhidpaaDoor

namespace Go.Proofs.YtjonbhimbhidpaaDoor
open Go.RowKit
section
variable {ops : Array Oper} {o : Oper} {a : Act} {K : Act → World → Prop} {Q : Exit → Act → World → Prop} {E : Prop} {W : World}
/-- an empty slice is made, at a step of a region that draws its order -/
theorem step_build0 (t e : TypeId) (sz : Nat) (ht : Tryd.prog.underlying t = some (.slice e)) (hz : ∀ w, (sizeOf e).run Tryd.prog w = .ok sz w)
    (hgd : o.guard = none) (ho : o.op = .buildSlice t 0 #[])
    (h : K (a.put o.dst (.slice (some ⟨W.heap.size, 0, none⟩) 0 0)) (W.alloc (.cells #[] e))) :
    if Region.wanted o (yielded ops a.tmps) = true then Oper.wp Tryd.prog o a W K Q else E := by
  have hw : Region.wanted o (yielded ops a.tmps) = true := by simp [Region.wanted, hgd]
  rw [if_pos hw]
  unfold Oper.wp execOp
  simp [ho, go_sem, run_underlying ht, hz]
  exact h
theorem step_alloc26 (hgd : o.guard = none) (ho : o.op = .alloc 26)
    (h : K (a.put o.dst (.pointer (some ⟨W.heap.size, 0, none⟩))) (W.alloc (.cells #[.slice none 0 0, .slice none 0 0, .slice none 0 0] 26))) :
    if Region.wanted o (yielded ops a.tmps) = true then Oper.wp Tryd.prog o a W K Q else E := by
  have hw : Region.wanted o (yielded ops a.tmps) = true := by simp [Region.wanted, hgd]
  rw [if_pos hw]
  unfold Oper.wp execOp
  simp [ho, go_sem]
  exact h
theorem step_store26 (i j : Nat) (X : Nat) (x y z : Value) (a1 a2 a3 : Option Addr) (n1 n2 n3 c1 c2 c3 : Nat) (hgd : o.guard = none) (ho : o.op = .store 26 (.tmp i) (.tmp j))
    (hp : a.tmps[i]?.getD undef = .pointer (some ⟨X, 0, none⟩)) (hv : a.tmps[j]?.getD undef = .agg #[.slice a1 n1 c1, .slice a2 n2 c2, .slice a3 n3 c3])
    (hh : W.heap[X]? = some (.cells #[x, y, z] 26))
    (h : K (a.put o.dst undef) (((W.setCell ⟨X, 0, none⟩ (.slice a1 n1 c1)).setCell ⟨X, 1, none⟩ (.slice a2 n2 c2)).setCell ⟨X, 2, none⟩ (.slice a3 n3 c3))) :
    if Region.wanted o (yielded ops a.tmps) = true then Oper.wp Tryd.prog o a W K Q else E := by
  have hw : Region.wanted o (yielded ops a.tmps) = true := by simp [Region.wanted, hgd]
  rw [if_pos hw]
  obtain ⟨k0, k1, k2⟩ := cells3_of hh
  obtain ⟨f0, f1, f2⟩ := free3_of hh
  unfold Oper.wp execOp
  simp [ho, go_sem, hp, hv, k0, k1, k2, f0, f1, f2]
  exact h
end

section
variable {md : Region.Mode} {ops : Array Oper} {Q : Exit → Act → World → Prop} {S : World → Prop} {fuel : Nat} {listed : Array Bool} {a : Act} {w : World} {i : Nat} {o : Oper} {rs : List Nat}
theorem take_at {v : Value} (d : Nat) (hi : ops[i]? = some o) (hs : Region.noSelect ops = true) (hf : Region.free md ops listed i = true) (hr : (Region.ready md ops listed).contains i = true)
    (hd : o.dst = some d) (hQ : ∀ c a w, Q (.panic c) (a.put (some d) v) w → Q (.panic c) a w) (hw : Region.wanted o (yielded ops a.tmps) = true) (hy : ∀ w, S w → (execOp a.eval o).run Tryd.prog w = .ok (.value v) w) (hS : S w)
    (h : wpAnyH Tryd.prog md ops Q S fuel (listed.setIfInBounds i true) (a.put (some d) v) w) : wpAnyH Tryd.prog md ops Q S (fuel + 1) listed a w :=
  wpAnyH_take hi hs hf hr (by rw [hd]; exact hQ) (.inl ⟨hw, hy⟩) hS (by rw [hd]; exact h)
theorem node_build0 (t e : TypeId) (sz d : Nat) (ht : Tryd.prog.underlying t = some (.slice e)) (hz : ∀ w, (sizeOf e).run Tryd.prog w = .ok sz w)
    (hi : ops[i]? = some o) (hgd : o.guard = none) (ho : o.op = .buildSlice t 0 #[]) (hd : o.dst = some d) (hS : S (w.alloc (.cells #[] e)))
    (h : S (w.alloc (.cells #[] e)) → wpAnyH Tryd.prog md ops Q S fuel (listed.setIfInBounds i true) (a.put (some d) (.slice (some ⟨w.heap.size, 0, none⟩) 0 0)) (w.alloc (.cells #[] e)))
    (hs : AllReadyH Tryd.prog md ops Q S fuel listed a w rs) : AllReadyH Tryd.prog md ops Q S fuel listed a w (i :: rs) :=
  AllReadyH.cons hi (fun K hK => step_build0 t e sz ht hz hgd ho (by rw [hd]; exact hK.out _ _ hS h)) hs
theorem node_alloc26 (d : Nat) (hi : ops[i]? = some o) (hgd : o.guard = none) (ho : o.op = .alloc 26) (hd : o.dst = some d) (hS : S (w.alloc (.cells #[.slice none 0 0, .slice none 0 0, .slice none 0 0] 26)))
    (h : S (w.alloc (.cells #[.slice none 0 0, .slice none 0 0, .slice none 0 0] 26)) → wpAnyH Tryd.prog md ops Q S fuel (listed.setIfInBounds i true) (a.put (some d) (.pointer (some ⟨w.heap.size, 0, none⟩))) (w.alloc (.cells #[.slice none 0 0, .slice none 0 0, .slice none 0 0] 26)))
    (hs : AllReadyH Tryd.prog md ops Q S fuel listed a w rs) : AllReadyH Tryd.prog md ops Q S fuel listed a w (i :: rs) :=
  AllReadyH.cons hi (fun K hK => step_alloc26 hgd ho (by rw [hd]; exact hK.out _ _ hS h)) hs
theorem node_app (d B : Nat) (s x : Operand) (t e : TypeId) (z : Value) (size bytes : Nat) (hinf : (Tryd.prog.info? e).map (fun i => (i.zero, i.size, i.bytes)) = some (some z, size, bytes)) (hz : z.cells.size = size) (hsz : 0 < size)
    (ht : Tryd.prog.underlying t = some (.slice e)) (g m : Nat) (us : List Value) (src : Value)
    (hi : ops[i]? = some o) (hgd : o.guard = none) (ho : o.op = .call { callee := .builtin .append, args := #[s, x], argTypes := #[t, t] }) (hd : o.dst = some d)
    (hs' : a.eval s = .slice (some ⟨g, 0, none⟩) 0 0) (hx : a.eval x = src) (hsrc : Rd w src m size us) (hg : w.heap[g]? = some (.cells #[] e)) (hB : B ≤ g)
    (hlen : m * bytes ≤ 100000000 ∧ m ≤ 1000000)
    (h : ∀ sa sn sc w', Hid (w'.ownsRow B e size (.slice sa sn sc) m us) → Hid (w.grownBy w' (some g)) → S w' ∧ wpAnyH Tryd.prog md ops Q S fuel (listed.setIfInBounds i true) (a.put (some d) (.slice sa sn sc)) w')
    (hs : AllReadyH Tryd.prog md ops Q S fuel listed a w rs) : AllReadyH Tryd.prog md ops Q S fuel listed a w (i :: rs) :=
  AllReadyH.cons hi (fun K hK => step_app B s x t e z size bytes hinf hz hsz ht g m us src hgd ho hs' hx hsrc hg hB hlen (fun sa sn sc w' h1 h2 => by
    rw [hd]; exact hK.out _ _ (h sa sn sc w' h1 h2).1 (fun _ => (h sa sn sc w' h1 h2).2))) hs
theorem node_store26 (k j : Nat) (X : Nat) (x y z : Value) (a1 a2 a3 : Option Addr) (n1 n2 n3 c1 c2 c3 : Nat)
    (hi : ops[i]? = some o) (hgd : o.guard = none) (ho : o.op = .store 26 (.tmp k) (.tmp j)) (hd : o.dst = none)
    (hp : a.tmps[k]?.getD undef = .pointer (some ⟨X, 0, none⟩)) (hv : a.tmps[j]?.getD undef = .agg #[.slice a1 n1 c1, .slice a2 n2 c2, .slice a3 n3 c3])
    (hh : w.heap[X]? = some (.cells #[x, y, z] 26))
    (hS : S (((w.setCell ⟨X, 0, none⟩ (.slice a1 n1 c1)).setCell ⟨X, 1, none⟩ (.slice a2 n2 c2)).setCell ⟨X, 2, none⟩ (.slice a3 n3 c3)))
    (h : wpAnyH Tryd.prog md ops Q S fuel (listed.setIfInBounds i true) a (((w.setCell ⟨X, 0, none⟩ (.slice a1 n1 c1)).setCell ⟨X, 1, none⟩ (.slice a2 n2 c2)).setCell ⟨X, 2, none⟩ (.slice a3 n3 c3)))
    (hs : AllReadyH Tryd.prog md ops Q S fuel listed a w rs) : AllReadyH Tryd.prog md ops Q S fuel listed a w (i :: rs) :=
  AllReadyH.cons hi (fun K hK => step_store26 k j X x y z a1 a2 a3 n1 n2 n3 c1 c2 c3 hgd ho hp hv hh (by rw [hd]; exact hK.out _ _ hS (fun _ => h))) hs
end

/-- the region's state: blocks of empty slices not yet appended to, the new box, the rows that are there -/
structure R1 (W : World) (km kj : Nat) (us uj : List Value) (w : World) (e5 e14 x3 : Option Nat) (m j : Option Value) : Prop where
  below : Below W.heap.size W w
  h5 : ∀ g, e5 = some g → W.heap.size ≤ g ∧ w.heap[g]? = some (.cells #[] 53)
  h14 : ∀ g, e14 = some g → W.heap.size ≤ g ∧ w.heap[g]? = some (.cells #[] 55)
  h3 : ∀ g, x3 = some g → W.heap.size ≤ g ∧ w.heap[g]? = some (.cells #[.slice none 0 0, .slice none 0 0, .slice none 0 0] 26)
  hm : ∀ v, m = some v → w.ownsRow W.heap.size 53 4 v km us
  hj : ∀ v, j = some v → w.ownsRow W.heap.size 55 2 v kj uj
section
variable {W w w' : World} {km kj : Nat} {us uj : List Value} {e5 e14 x3 : Option Nat} {m j : Option Value}
theorem R1.start (W : World) : R1 W km kj us uj W.drew none none none none none :=
  ⟨(Below.refl _ _).drew, fun _ h => (nomatch h), fun _ h => (nomatch h), fun _ h => (nomatch h), fun _ h => (nomatch h), fun _ h => (nomatch h)⟩
theorem R1.alloc (h : R1 W km kj us uj w e5 e14 x3 m j) (o : Obj) : R1 W km kj us uj (w.alloc o) e5 e14 x3 m j := by
  have ha : ∀ (g : Nat) (c : Obj), w.heap[g]? = some c → (w.alloc o).heap[g]? = some c := fun g c e => (Below.heap_alloc _ _ _ (heap_lt e)).trans e
  exact ⟨h.below.alloc h.below.size _, fun g e => ⟨(h.h5 g e).1, ha _ _ (h.h5 g e).2⟩, fun g e => ⟨(h.h14 g e).1, ha _ _ (h.h14 g e).2⟩, fun g e => ⟨(h.h3 g e).1, ha _ _ (h.h3 g e).2⟩,
    fun v e => row_below (h.hm v e) ((Below.refl _ _).alloc (Nat.le_refl _) _), fun v e => row_below (h.hj v e) ((Below.refl _ _).alloc (Nat.le_refl _) _)⟩
theorem R1.a5 (h : R1 W km kj us uj w none e14 x3 m j) : R1 W km kj us uj (w.alloc (.cells #[] 53)) (some w.heap.size) e14 x3 m j :=
  let h2 := h.alloc (.cells #[] 53)
  ⟨h2.below, fun g e => by cases e; exact ⟨h.below.size, heap_alloc_new _ _⟩, h2.h14, h2.h3, h2.hm, h2.hj⟩
theorem R1.a14 (h : R1 W km kj us uj w e5 none x3 m j) : R1 W km kj us uj (w.alloc (.cells #[] 55)) e5 (some w.heap.size) x3 m j :=
  let h2 := h.alloc (.cells #[] 55)
  ⟨h2.below, h2.h5, fun g e => by cases e; exact ⟨h.below.size, heap_alloc_new _ _⟩, h2.h3, h2.hm, h2.hj⟩
theorem R1.a3 (h : R1 W km kj us uj w e5 e14 none m j) : R1 W km kj us uj (w.alloc (.cells #[.slice none 0 0, .slice none 0 0, .slice none 0 0] 26)) e5 e14 (some w.heap.size) m j :=
  let h2 := h.alloc (.cells #[.slice none 0 0, .slice none 0 0, .slice none 0 0] 26)
  ⟨h2.below, h2.h5, h2.h14, fun g e => by cases e; exact ⟨h.below.size, heap_alloc_new _ _⟩, h2.hm, h2.hj⟩
theorem block_ne {w : World} {g g' : Nat} {cs cs' : Array Value} {t t' : TypeId} (h : w.heap[g]? = some (.cells cs t)) (h' : w.heap[g']? = some (.cells cs' t')) (ht : t ≠ t') : g ≠ g' := by
  rintro rfl
  rw [h] at h'
  simp only [Option.some.injEq, Obj.cells.injEq] at h'
  exact ht h'.2.1
theorem R1.app13 {g : Nat} {v : Value} (h : R1 W km kj us uj w (some g) e14 x3 none j) (hg : w.grownBy w' (some g)) (ho : w'.ownsRow W.heap.size 53 4 v km us) : R1 W km kj us uj w' none e14 x3 (some v) j := by
  obtain ⟨hB, hh⟩ := h.h5 g rfl
  have kp : ∀ (g' : Nat) (cs : Array Value) (t : TypeId), t ≠ 53 → w.heap[g']? = some (.cells cs t) → w'.heap[g']? = some (.cells cs t) := fun g' cs t ht e => (hg.block g' (heap_lt e) (fun e2 => block_ne e hh ht (Option.some.inj e2))).trans e
  refine ⟨h.below.grown hg h.below.size (fun k hk => by cases hk; exact hB), fun _ e => (nomatch e), fun g' e => ⟨(h.h14 g' e).1, kp _ _ _ (by decide) (h.h14 g' e).2⟩, fun g' e => ⟨(h.h3 g' e).1, kp _ _ _ (by decide) (h.h3 g' e).2⟩, fun v' e => by cases e; exact ho, fun v' e => row_other (h.hj v' e) hg (fun k hk => by cases hk; exact ⟨_, hh⟩) (by decide)⟩
theorem R1.app22 {g : Nat} {v : Value} (h : R1 W km kj us uj w e5 (some g) x3 m none) (hg : w.grownBy w' (some g)) (ho : w'.ownsRow W.heap.size 55 2 v kj uj) : R1 W km kj us uj w' e5 none x3 m (some v) := by
  obtain ⟨hB, hh⟩ := h.h14 g rfl
  have kp : ∀ (g' : Nat) (cs : Array Value) (t : TypeId), t ≠ 55 → w.heap[g']? = some (.cells cs t) → w'.heap[g']? = some (.cells cs t) := fun g' cs t ht e => (hg.block g' (heap_lt e) (fun e2 => block_ne e hh ht (Option.some.inj e2))).trans e
  refine ⟨h.below.grown hg h.below.size (fun k hk => by cases hk; exact hB), fun g' e => ⟨(h.h5 g' e).1, kp _ _ _ (by decide) (h.h5 g' e).2⟩, fun _ e => (nomatch e), fun g' e => ⟨(h.h3 g' e).1, kp _ _ _ (by decide) (h.h3 g' e).2⟩, fun v' e => row_other (h.hm v' e) hg (fun k hk => by cases hk; exact ⟨_, hh⟩) (by decide), fun v' e => by cases e; exact ho⟩
/-- the box is filled: the region's end -/
theorem R1.fin {X : Nat} {v1 v2 : Value} (h : R1 W km kj us uj w none none (some X) (some v1) (some v2)) :
    W.heap.size ≤ X ∧ (((w.setCell ⟨X, 0, none⟩ (.slice none 0 0)).setCell ⟨X, 1, none⟩ v1).setCell ⟨X, 2, none⟩ v2).heap[X]? = some (.cells #[.slice none 0 0, v1, v2] 26) ∧
      Hid ((((w.setCell ⟨X, 0, none⟩ (.slice none 0 0)).setCell ⟨X, 1, none⟩ v1).setCell ⟨X, 2, none⟩ v2).ownsRow W.heap.size 53 4 v1 km us) ∧
      Hid ((((w.setCell ⟨X, 0, none⟩ (.slice none 0 0)).setCell ⟨X, 1, none⟩ v1).setCell ⟨X, 2, none⟩ v2).ownsRow W.heap.size 55 2 v2 kj uj) ∧
      Hid (Below W.heap.size W (((w.setCell ⟨X, 0, none⟩ (.slice none 0 0)).setCell ⟨X, 1, none⟩ v1).setCell ⟨X, 2, none⟩ v2)) := by
  obtain ⟨hB, hh⟩ := h.h3 X rfl
  have hs := ((grown_set w ⟨X, 0, none⟩ (.slice none 0 0)).trans (grown_set _ ⟨X, 1, none⟩ v1)).trans (grown_set _ ⟨X, 2, none⟩ v2)
  have ht : ∀ k, some X = some k → ∃ cs, w.heap[k]? = some (.cells cs 26) := by intro k hk; cases hk; exact ⟨_, hh⟩
  exact ⟨hB, store3 hh, row_other (h.hm v1 rfl) hs ht (by decide), row_other (h.hj v2 rfl) hs ht (by decide), below_store3 h.below hB⟩
end
end Go.Proofs.YtjonbhimbhidpaaDoor

namespace Go.Proofs.YtjonbhimbhidpaaDoor
open Go.RowKit
section
variable {md : Region.Mode} {ops : Array Oper} {Q : Exit → Act → World → Prop} {S : World → Prop} {fuel : Nat} {listed : Array Bool} {a : Act} {w : World} {i : Nat} {o : Oper} {rs : List Nat}
theorem node_load22 (d k : Nat) (ad : Addr) (v : Value) (hi : ops[i]? = some o) (hgd : o.guard = none) (ho : o.op = .load 22 (.tmp k)) (hd : o.dst = some d)
    (hp : a.tmps[k]?.getD undef = .pointer (some ad)) (hc : w.cell? ad = some v) (hS : S w)
    (h : wpAnyH Tryd.prog md ops Q S fuel (listed.setIfInBounds i true) (a.put (some d) v) w)
    (hs : AllReadyH Tryd.prog md ops Q S fuel listed a w rs) : AllReadyH Tryd.prog md ops Q S fuel listed a w (i :: rs) := by
  refine AllReadyH.cons hi (fun K hK => ?_) hs
  have hw : Region.wanted o (yielded ops a.tmps) = true := by simp [Region.wanted, hgd]
  rw [if_pos hw]
  have hk := hK.out _ _ hS (fun _ => h)
  unfold Oper.wp execOp
  simp [ho, go_sem, hp, hc]
  rw [hd]
  exact hk
theorem node_build1 (d k : Nat) (b : Option Addr) (n c : Nat) (hi : ops[i]? = some o) (hgd : o.guard = none) (ho : o.op = .buildSlice 22 1 #[(0, .tmp k)]) (hd : o.dst = some d)
    (hp : a.tmps[k]?.getD undef = .slice b n c) (hS : S (w.alloc (.cells #[.slice b n c] 71)))
    (h : S (w.alloc (.cells #[.slice b n c] 71)) → wpAnyH Tryd.prog md ops Q S fuel (listed.setIfInBounds i true) (a.put (some d) (.slice (some ⟨w.heap.size, 0, none⟩) 1 1)) (w.alloc (.cells #[.slice b n c] 71)))
    (hs : AllReadyH Tryd.prog md ops Q S fuel listed a w rs) : AllReadyH Tryd.prog md ops Q S fuel listed a w (i :: rs) := by
  refine AllReadyH.cons hi (fun K hK => ?_) hs
  have hw : Region.wanted o (yielded ops a.tmps) = true := by simp [Region.wanted, hgd]
  rw [if_pos hw]
  have hk := hK.out _ _ hS h
  unfold Oper.wp execOp
  simp [ho, go_sem, hp]
  rw [hd]
  exact hk
theorem node_call43 (d k : Nat) (v : Value) (hi : ops[i]? = some o) (hgd : o.guard = none) (ho : o.op = .call { callee := .value (.func 43), args := #[.tmp k], argTypes := #[71] }) (hd : o.dst = some d)
    (hp : a.tmps[k]?.getD undef = v)
    (h : Calls Tryd.prog 43 #[v] w fun e w' => ∃ u, e = .returned u ∧ S w' ∧ wpAnyH Tryd.prog md ops Q S fuel (listed.setIfInBounds i true) (a.put (some d) u) w')
    (hs : AllReadyH Tryd.prog md ops Q S fuel listed a w rs) : AllReadyH Tryd.prog md ops Q S fuel listed a w (i :: rs) := by
  refine AllReadyH.cons hi (fun K hK => ?_) hs
  have hw : Region.wanted o (yielded ops a.tmps) = true := by simp [Region.wanted, hgd]
  rw [if_pos hw]
  unfold Oper.wp execOp
  simp [ho, go_sem, hp]
  refine h.mono ?_
  rintro e w' ⟨u, rfl, h1, h2⟩
  have hk := hK.out _ _ h1 (fun _ => h2)
  rw [hd]
  exact hk
theorem node_store22 (k j : Nat) (X : Nat) (x y z : Value) (b : Option Addr) (n c : Nat)
    (hi : ops[i]? = some o) (hgd : o.guard = none) (ho : o.op = .store 22 (.tmp k) (.tmp j)) (hd : o.dst = none)
    (hp : a.tmps[k]?.getD undef = .pointer (some ⟨X, 0, none⟩)) (hv : a.tmps[j]?.getD undef = .slice b n c)
    (hh : w.heap[X]? = some (.cells #[x, y, z] 26)) (hS : S (w.setCell ⟨X, 0, none⟩ (.slice b n c)))
    (h : wpAnyH Tryd.prog md ops Q S fuel (listed.setIfInBounds i true) a (w.setCell ⟨X, 0, none⟩ (.slice b n c)))
    (hs : AllReadyH Tryd.prog md ops Q S fuel listed a w rs) : AllReadyH Tryd.prog md ops Q S fuel listed a w (i :: rs) := by
  refine AllReadyH.cons hi (fun K hK => ?_) hs
  have hw : Region.wanted o (yielded ops a.tmps) = true := by simp [Region.wanted, hgd]
  rw [if_pos hw]
  obtain ⟨k0, k1, k2⟩ := cells3_of hh
  obtain ⟨f0, f1, f2⟩ := free3_of hh
  have hk := hK.out _ _ hS (fun _ => h)
  unfold Oper.wp execOp
  simp [ho, go_sem, hp, hv, k0, f0]
  rw [hd]
  exact hk
theorem node_app_row (d : Nat) (s x : Operand) (v : Value) (B : Nat) (g : Grid) (gb : Nat) (u : Value) (z : List Str)
    (hi : ops[i]? = some o) (hgd : o.guard = none) (ho : o.op = .call { callee := .builtin .append, args := #[s, x], argTypes := #[22, 22] }) (hd : o.dst = some d)
    (hs' : a.eval s = v) (hx : a.eval x = .slice (some ⟨gb, 0, none⟩) 1 1) (hz : w.heap[gb]? = some (.cells #[u] 71 (0, 0)))
    (hown : OwnG w B v g) (hu : OwnT w B u z) (hlen : g.length < 1000000) (hB : B ≤ w.heap.size)
    (h : ∀ sa sn sc w', OwnG w' B (.slice sa sn sc) (g ++ [z]) → w.grownBy w' v.ownBlock → S w' ∧ wpAnyH Tryd.prog md ops Q S fuel (listed.setIfInBounds i true) (a.put (some d) (.slice sa sn sc)) w')
    (hs : AllReadyH Tryd.prog md ops Q S fuel listed a w rs) : AllReadyH Tryd.prog md ops Q S fuel listed a w (i :: rs) :=
  AllReadyH.cons hi (fun K hK => step_app_row s x v B g gb u z hgd ho hs' hx hz hown hu hlen hB (fun sa sn sc w' h1 h2 => by
    rw [hd]; exact hK.out _ _ (h sa sn sc w' h1 h2).1 (fun _ => (h sa sn sc w' h1 h2).2))) hs
end
end Go.Proofs.YtjonbhimbhidpaaDoor

namespace Go.Proofs.YtjonbhimbhidpaaDoor
open Go.RowKit

theorem slice_to {t e : TypeId} (ht : Tryd.prog.underlying t = some (.slice e)) {sz : Nat} (hz : ∀ w, (sizeOf e).run Tryd.prog w = .ok sz w) (a : Option Addr) (M c k : Nat) (h : k ≤ M) (hM : M ≤ c) (ha : a = none → c = 0) (w : World) : (Instr.sliceAt t (.slice a M c) none (some (.int .i64 k)) none).run Tryd.prog w = .ok (.slice a k c) w := by
  cases a with
  | none =>
    obtain rfl := ha rfl
    obtain rfl : M = 0 := by omega
    obtain rfl : k = 0 := by omega
    simp [Instr.sliceAt, go_sem, run_underlying ht, ht, hz w]
  | some ad =>
    have hkc : k ≤ c := by omega
    simp [Instr.sliceAt, go_sem, run_underlying ht, ht, hkc, hz w]

set_option maxHeartbeats 20000000 in
set_option maxRecDepth 100000 in
theorem cut_own (vs vm vj : Value) (o : Ov) (w : World) (ho : ArgOv w vs vm vj o) :
    Calls Tryd.prog 14 #[.agg #[vs, vm, vj]] w fun e w' => ∃ vs' vm' vj', e = .returned (.agg #[vs', vm', vj']) ∧ OwnOv w' w.heap.size vs' vm' vj' (cutOv o) ∧ Below w.heap.size w w' := by
  obtain ⟨hs, ⟨hml, am, cm, rfl, hmc1, hmc2, hma⟩, ⟨hjl, aj, cj, rfl, hjc1, hjc2, hja⟩⟩ := ho
  obtain ⟨ag, cs, rfl, hsl, hsc⟩ := hs
  have HSC := hid hsc
  obtain ⟨hb2, hz2, k0, k1⟩ := alloc2 w (.cells #[.slice ag o.safe.length cs, .slice am o.moves.length cm, .slice aj o.jolts.length cj] 26) (.cells #[.slice none 0 0, .slice none 0 0, .slice none 0 0] 26)
  obtain ⟨x0, x1, x2⟩ := cells3_of k0
  obtain ⟨W, hW⟩ : ∃ W, W = ((w.alloc (.cells #[.slice ag o.safe.length cs, .slice am o.moves.length cm, .slice aj o.jolts.length cj] 26)).alloc (.cells #[.slice none 0 0, .slice none 0 0, .slice none 0 0] 26)) := ⟨_, rfl⟩
  rw [← hW] at hb2 hz2 k0 k1 x0 x1 x2
  have HB := hid hb2
  have K1 := hid k1
  have HZ := hid hz2
  have mn1 : min ((o.moves.length : Nat) : Int) 17 = ((min o.moves.length 17 : Nat) : Int) := by omega
  have mn2 : min ((o.jolts.length : Nat) : Int) 5 = ((min o.jolts.length 5 : Nat) : Int) := by omega
  obtain ⟨km, hkm⟩ : ∃ km, km = min o.moves.length 17 := ⟨_, rfl⟩
  obtain ⟨kj, hkj⟩ : ∃ kj, kj = min o.jolts.length 5 := ⟨_, rfl⟩
  rw [← hkm] at mn1
  rw [← hkj] at mn2
  obtain ⟨M, hM⟩ : ∃ M, M = o.moves.length := ⟨_, rfl⟩
  obtain ⟨J, hJ⟩ : ∃ J, J = o.jolts.length := ⟨_, rfl⟩
  obtain ⟨P, hP⟩ : ∃ P, P = o.safe.length := ⟨_, rfl⟩
  rw [← hM] at mn1 hmc1 hml x1 hW
  rw [← hJ] at mn2 hjc1 hjl x2 hW
  rw [← hP] at hsl x0 hW
  rw [← hP, ← hM, ← hJ]
  have hkm1 : km ≤ M := by omega
  have hkj1 : kj ≤ J := by omega
  have hkm2 : km ≤ 17 := by omega
  have hkj2 : kj ≤ 5 := by omega
  have HKM := hid hkm
  have HKJ := hid hkj
  have HW := hid hW
  unfold maxLen at hml hjl hsl hmc2 hjc2
  clear hb2 hz2 k0 k1 hsc hkm hkj hW
  have HRM : Hid (Rd w (.slice am km cm) km 4 (mcells (o.moves.take 17))) := by
    rcases hma with ⟨rfl, h0⟩ | ⟨adm, rfl, hlm, hcm⟩
    · have e1 : o.moves = [] := List.length_eq_zero_iff.1 (by omega)
      obtain rfl : km = 0 := by omega
      rw [h0, e1]; exact rd_nil w 4
    · exact rd_mv km hlm hcm HKM.out
  have HRJ : Hid (Rd w (.slice aj kj cj) kj 2 (jcells (o.jolts.take 5))) := by
    rcases hja with ⟨rfl, h0⟩ | ⟨adj, rfl, hlj, hcj⟩
    · have e1 : o.jolts = [] := List.length_eq_zero_iff.1 (by omega)
      obtain rfl : kj = 0 := by omega
      rw [h0, e1]; exact rd_nil w 2
    · exact rd_jl kj hlj hcj HKJ.out
  have hsl1 := slice_to Tryd.underlying23 (sz := 4) (fun w => by kernel_rfl) am M cm km hkm1 hmc1 (fun h => by
    rcases hma with ⟨_, h0⟩ | ⟨ad, h1, _⟩
    · exact h0
    · rw [h] at h1; cases h1)
  have hsl2 := slice_to Tryd.underlying24 (sz := 2) (fun w => by kernel_rfl) aj J cj kj hkj1 hjc1 (fun h => by
    rcases hja with ⟨_, h0⟩ | ⟨ad, h1, _⟩
    · exact h0
    · rw [h] at h1; cases h1)
  have HX0 := hid x0
  have HX1 := hid x1
  have HX2 := hid x2
  have HP := hid hP
  have HSL := hid hsl
  clear hma hja hM hJ hP hml hjl hmc1 hmc2 hjc1 hjc2 hsl
  have hlW : w.heap.size < W.heap.size := by have := HZ.out; omega
  have KEEP : Hid (∀ w', Below W.heap.size W w' → w'.cell? ⟨w.heap.size, 1, none⟩ = some (.slice am M cm) ∧ w'.cell? ⟨w.heap.size, 2, none⟩ = some (.slice aj J cj) ∧ Hid (Below W.heap.size W w')) := fun w' hb => ⟨(hb.cell (p := ⟨_, 1, none⟩) hlW).trans HX1.out, (hb.cell (p := ⟨_, 2, none⟩) hlW).trans HX2.out, hb⟩
  clear x0 x1 x2 hkm1 hkj1
  have HMN := hid hlW
  clear hlW
  go_enter Tryd.func14, Tryd.ntmps14
  go_upto_region 1 with fail
  rw [← HW.out]
  go_cut [3] (fun v3 wx => ∃ bx a1 n1 c1 a2 n2 c2, v3 = .pointer (some ⟨bx, 0, none⟩) ∧ W.heap.size ≤ bx ∧ wx.heap[bx]? = some (.cells #[.slice none 0 0, .slice a1 n1 c1, .slice a2 n2 c2] 26) ∧ Hid (wx.ownsRow W.heap.size 53 4 (.slice a1 n1 c1) km (mcells (o.moves.take 17))) ∧ Hid (wx.ownsRow W.heap.size 55 2 (.slice a2 n2 c2) kj (jcells (o.jolts.take 5))) ∧ Hid (Below W.heap.size W wx))
  case first =>
    refine wp_region_held_drew (S := fun w' => w'.cell? ⟨w.heap.size, 1, none⟩ = some (.slice am M cm) ∧ w'.cell? ⟨w.heap.size, 2, none⟩ = some (.slice aj J cj) ∧ Hid (Below W.heap.size W w')) (by kernel_rfl) (KEEP.out _ ((Below.refl _ _).drew)) (fun hHeld => ?_)
    refine take_at (i := 1) 6 (v := .pointer (some ⟨w.heap.size, 1, none⟩)) rfl (by kernel_rfl) (by kernel_rfl) (by kernel_rfl) rfl (fun _ _ _ h => h) (by rfl) (fun w hSw => ?_) hHeld ?_
    · (try dsimp only at hSw); go_simp
    simp only [Act.put, List.setIfInBounds_toArray, List.set_cons_zero, List.set_cons_succ]
    refine take_at (i := 2) 7 (v := .slice am M cm) rfl (by kernel_rfl) (by kernel_rfl) (by kernel_rfl) rfl (fun _ _ _ h => h) (by rfl) (fun w hSw => ?_) hHeld ?_
    · (try dsimp only at hSw); go_simp
    simp only [Act.put, List.setIfInBounds_toArray, List.set_cons_zero, List.set_cons_succ]
    refine take_at (i := 3) 8 (v := .pointer (some ⟨w.heap.size, 1, none⟩)) rfl (by kernel_rfl) (by kernel_rfl) (by kernel_rfl) rfl (fun _ _ _ h => h) (by rfl) (fun w hSw => ?_) hHeld ?_
    · (try dsimp only at hSw); go_simp
    simp only [Act.put, List.setIfInBounds_toArray, List.set_cons_zero, List.set_cons_succ]
    refine take_at (i := 4) 9 (v := .slice am M cm) rfl (by kernel_rfl) (by kernel_rfl) (by kernel_rfl) rfl (fun _ _ _ h => h) (by rfl) (fun w hSw => ?_) hHeld ?_
    · (try dsimp only at hSw); go_simp
    simp only [Act.put, List.setIfInBounds_toArray, List.set_cons_zero, List.set_cons_succ]
    refine take_at (i := 5) 10 (v := .int .i64 M) rfl (by kernel_rfl) (by kernel_rfl) (by kernel_rfl) rfl (fun _ _ _ h => h) (by rfl) (fun w hSw => ?_) hHeld ?_
    · (try dsimp only at hSw); go_simp
    simp only [Act.put, List.setIfInBounds_toArray, List.set_cons_zero, List.set_cons_succ]
    refine take_at (i := 6) 11 (v := .int .i64 km) rfl (by kernel_rfl) (by kernel_rfl) (by kernel_rfl) rfl (fun _ _ _ h => h) (by rfl) (fun w hSw => ?_) hHeld ?_
    · (try dsimp only at hSw); go_simp
    simp only [Act.put, List.setIfInBounds_toArray, List.set_cons_zero, List.set_cons_succ]
    refine take_at (i := 7) 12 (v := .slice am km cm) rfl (by kernel_rfl) (by kernel_rfl) (by kernel_rfl) rfl (fun _ _ _ h => h) (by rfl) (fun w hSw => ?_) hHeld ?_
    · (try dsimp only at hSw); go_simp
    simp only [Act.put, List.setIfInBounds_toArray, List.set_cons_zero, List.set_cons_succ]
    refine take_at (i := 10) 15 (v := .pointer (some ⟨w.heap.size, 2, none⟩)) rfl (by kernel_rfl) (by kernel_rfl) (by kernel_rfl) rfl (fun _ _ _ h => h) (by rfl) (fun w hSw => ?_) hHeld ?_
    · (try dsimp only at hSw); go_simp
    simp only [Act.put, List.setIfInBounds_toArray, List.set_cons_zero, List.set_cons_succ]
    refine take_at (i := 11) 16 (v := .slice aj J cj) rfl (by kernel_rfl) (by kernel_rfl) (by kernel_rfl) rfl (fun _ _ _ h => h) (by rfl) (fun w hSw => ?_) hHeld ?_
    · (try dsimp only at hSw); go_simp
    simp only [Act.put, List.setIfInBounds_toArray, List.set_cons_zero, List.set_cons_succ]
    refine take_at (i := 12) 17 (v := .pointer (some ⟨w.heap.size, 2, none⟩)) rfl (by kernel_rfl) (by kernel_rfl) (by kernel_rfl) rfl (fun _ _ _ h => h) (by rfl) (fun w hSw => ?_) hHeld ?_
    · (try dsimp only at hSw); go_simp
    simp only [Act.put, List.setIfInBounds_toArray, List.set_cons_zero, List.set_cons_succ]
    refine take_at (i := 13) 18 (v := .slice aj J cj) rfl (by kernel_rfl) (by kernel_rfl) (by kernel_rfl) rfl (fun _ _ _ h => h) (by rfl) (fun w hSw => ?_) hHeld ?_
    · (try dsimp only at hSw); go_simp
    simp only [Act.put, List.setIfInBounds_toArray, List.set_cons_zero, List.set_cons_succ]
    refine take_at (i := 14) 19 (v := .int .i64 J) rfl (by kernel_rfl) (by kernel_rfl) (by kernel_rfl) rfl (fun _ _ _ h => h) (by rfl) (fun w hSw => ?_) hHeld ?_
    · (try dsimp only at hSw); go_simp
    simp only [Act.put, List.setIfInBounds_toArray, List.set_cons_zero, List.set_cons_succ]
    refine take_at (i := 15) 20 (v := .int .i64 kj) rfl (by kernel_rfl) (by kernel_rfl) (by kernel_rfl) rfl (fun _ _ _ h => h) (by rfl) (fun w hSw => ?_) hHeld ?_
    · (try dsimp only at hSw); go_simp
    simp only [Act.put, List.setIfInBounds_toArray, List.set_cons_zero, List.set_cons_succ]
    refine take_at (i := 16) 21 (v := .slice aj kj cj) rfl (by kernel_rfl) (by kernel_rfl) (by kernel_rfl) rfl (fun _ _ _ h => h) (by rfl) (fun w hSw => ?_) hHeld ?_
    · (try dsimp only at hSw); go_simp
    simp only [Act.put, List.setIfInBounds_toArray, List.set_cons_zero, List.set_cons_succ]
    have R0 := R1.start W (km := km) (kj := kj) (us := mcells (o.moves.take 17)) (uj := jcells (o.jolts.take 5))
    refine wpAnyH_ready (rs := [0, 9, 19]) (by kernel_rfl) (by simp) ?_
    refine node_build0 23 53 4 5 Tryd.underlying23 (fun w => by kernel_rfl) rfl rfl rfl rfl (KEEP.out _ R0.a5.below) (fun hHeld => ?_) ?_
    · have R1 := R0.a5
      clear R0
      simp only [Act.put, List.setIfInBounds_toArray, List.set_cons_zero, List.set_cons_succ]
      refine wpAnyH_ready (rs := [8, 9, 19]) (by kernel_rfl) (by simp) ?_
      refine node_app 13 W.heap.size (.tmp 5) (.tmp 12) 23 53 _ 4 32 info53 rfl (by decide) Tryd.underlying23 _ km (mcells (o.moves.take 17)) _ rfl rfl rfl rfl rfl rfl (rd_below HRM.out (HB.out.trans (R1.below.mono HB.out.size))) (R1.h5 _ rfl).2 (R1.h5 _ rfl).1 (by omega) ?_ ?_
      · intro sa1 sn1 sc1 w1 ho1 hg1
        have R2 := R1.app13 hg1.out ho1.out
        refine ⟨KEEP.out _ R2.below, ?_⟩
        have hHeld := KEEP.out _ R2.below
        clear ho1 hg1
        clear R1
        simp only [Act.put, List.setIfInBounds_toArray, List.set_cons_zero, List.set_cons_succ]
        refine wpAnyH_ready (rs := [9, 19]) (by kernel_rfl) (by simp) ?_
        refine node_build0 24 55 2 14 Tryd.underlying24 (fun w => by kernel_rfl) rfl rfl rfl rfl (KEEP.out _ R2.a14.below) (fun hHeld => ?_) ?_
        · have R3 := R2.a14
          clear R2
          simp only [Act.put, List.setIfInBounds_toArray, List.set_cons_zero, List.set_cons_succ]
          refine wpAnyH_ready (rs := [17, 19]) (by kernel_rfl) (by simp) ?_
          refine node_app 22 W.heap.size (.tmp 14) (.tmp 21) 24 55 _ 2 16 info55 rfl (by decide) Tryd.underlying24 _ kj (jcells (o.jolts.take 5)) _ rfl rfl rfl rfl rfl rfl (rd_below HRJ.out (HB.out.trans (R3.below.mono HB.out.size))) (R3.h14 _ rfl).2 (R3.h14 _ rfl).1 (by omega) ?_ ?_
          · intro sa2 sn2 sc2 w2 ho2 hg2
            have R4 := R3.app22 hg2.out ho2.out
            refine ⟨KEEP.out _ R4.below, ?_⟩
            have hHeld := KEEP.out _ R4.below
            clear ho2 hg2
            clear R3
            simp only [Act.put, List.setIfInBounds_toArray, List.set_cons_zero, List.set_cons_succ]
            refine take_at (i := 18) 23 (v := .agg #[.slice none 0 0, .slice sa1 sn1 sc1, .slice sa2 sn2 sc2]) rfl (by kernel_rfl) (by kernel_rfl) (by kernel_rfl) rfl (fun _ _ _ h => h) (by rfl) (fun w hSw => ?_) hHeld ?_
            · (try dsimp only at hSw); go_simp
            simp only [Act.put, List.setIfInBounds_toArray, List.set_cons_zero, List.set_cons_succ]
            refine wpAnyH_ready (rs := [19]) (by kernel_rfl) (by simp) ?_
            refine node_alloc26 3 rfl rfl rfl rfl (KEEP.out _ R4.a3.below) (fun hHeld => ?_) AllReadyH.nil
            · have R5 := R4.a3
              clear R4
              simp only [Act.put, List.setIfInBounds_toArray, List.set_cons_zero, List.set_cons_succ]
              have hf := R5.fin
              refine wpAnyH_ready (rs := [20]) (by kernel_rfl) (by simp) ?_
              refine node_store26 3 23 _ _ _ _ _ _ _ _ _ _ _ _ _ rfl rfl rfl rfl rfl rfl (R5.h3 _ rfl).2 (KEEP.out _ hf.2.2.2.2) ?_ AllReadyH.nil
              refine wpAnyH_done (by kernel_rfl) ?_ _
              go_wp2_with fail
              go_meet
              exact ⟨_, _, _, _, _, _, _, rfl, hf.1, hf.2.1, hf.2.2.1, hf.2.2.2.1, hf.2.2.2.2⟩
          refine node_alloc26 3 rfl rfl rfl rfl (KEEP.out _ R3.a3.below) (fun hHeld => ?_) AllReadyH.nil
          · have R4 := R3.a3
            clear R3
            simp only [Act.put, List.setIfInBounds_toArray, List.set_cons_zero, List.set_cons_succ]
            refine wpAnyH_ready (rs := [17]) (by kernel_rfl) (by simp) ?_
            refine node_app 22 W.heap.size (.tmp 14) (.tmp 21) 24 55 _ 2 16 info55 rfl (by decide) Tryd.underlying24 _ kj (jcells (o.jolts.take 5)) _ rfl rfl rfl rfl rfl rfl (rd_below HRJ.out (HB.out.trans (R4.below.mono HB.out.size))) (R4.h14 _ rfl).2 (R4.h14 _ rfl).1 (by omega) ?_ AllReadyH.nil
            · intro sa2 sn2 sc2 w2 ho2 hg2
              have R5 := R4.app22 hg2.out ho2.out
              refine ⟨KEEP.out _ R5.below, ?_⟩
              have hHeld := KEEP.out _ R5.below
              clear ho2 hg2
              clear R4
              simp only [Act.put, List.setIfInBounds_toArray, List.set_cons_zero, List.set_cons_succ]
              refine take_at (i := 18) 23 (v := .agg #[.slice none 0 0, .slice sa1 sn1 sc1, .slice sa2 sn2 sc2]) rfl (by kernel_rfl) (by kernel_rfl) (by kernel_rfl) rfl (fun _ _ _ h => h) (by rfl) (fun w hSw => ?_) hHeld ?_
              · (try dsimp only at hSw); go_simp
              simp only [Act.put, List.setIfInBounds_toArray, List.set_cons_zero, List.set_cons_succ]
              have hf := R5.fin
              refine wpAnyH_ready (rs := [20]) (by kernel_rfl) (by simp) ?_
              refine node_store26 3 23 _ _ _ _ _ _ _ _ _ _ _ _ _ rfl rfl rfl rfl rfl rfl (R5.h3 _ rfl).2 (KEEP.out _ hf.2.2.2.2) ?_ AllReadyH.nil
              refine wpAnyH_done (by kernel_rfl) ?_ _
              go_wp2_with fail
              go_meet
              exact ⟨_, _, _, _, _, _, _, rfl, hf.1, hf.2.1, hf.2.2.1, hf.2.2.2.1, hf.2.2.2.2⟩
        refine node_alloc26 3 rfl rfl rfl rfl (KEEP.out _ R2.a3.below) (fun hHeld => ?_) AllReadyH.nil
        · have R3 := R2.a3
          clear R2
          simp only [Act.put, List.setIfInBounds_toArray, List.set_cons_zero, List.set_cons_succ]
          refine wpAnyH_ready (rs := [9]) (by kernel_rfl) (by simp) ?_
          refine node_build0 24 55 2 14 Tryd.underlying24 (fun w => by kernel_rfl) rfl rfl rfl rfl (KEEP.out _ R3.a14.below) (fun hHeld => ?_) AllReadyH.nil
          · have R4 := R3.a14
            clear R3
            simp only [Act.put, List.setIfInBounds_toArray, List.set_cons_zero, List.set_cons_succ]
            refine wpAnyH_ready (rs := [17]) (by kernel_rfl) (by simp) ?_
            refine node_app 22 W.heap.size (.tmp 14) (.tmp 21) 24 55 _ 2 16 info55 rfl (by decide) Tryd.underlying24 _ kj (jcells (o.jolts.take 5)) _ rfl rfl rfl rfl rfl rfl (rd_below HRJ.out (HB.out.trans (R4.below.mono HB.out.size))) (R4.h14 _ rfl).2 (R4.h14 _ rfl).1 (by omega) ?_ AllReadyH.nil
            · intro sa2 sn2 sc2 w2 ho2 hg2
              have R5 := R4.app22 hg2.out ho2.out
              refine ⟨KEEP.out _ R5.below, ?_⟩
              have hHeld := KEEP.out _ R5.below
              clear ho2 hg2
              clear R4
              simp only [Act.put, List.setIfInBounds_toArray, List.set_cons_zero, List.set_cons_succ]
              refine take_at (i := 18) 23 (v := .agg #[.slice none 0 0, .slice sa1 sn1 sc1, .slice sa2 sn2 sc2]) rfl (by kernel_rfl) (by kernel_rfl) (by kernel_rfl) rfl (fun _ _ _ h => h) (by rfl) (fun w hSw => ?_) hHeld ?_
              · (try dsimp only at hSw); go_simp
              simp only [Act.put, List.setIfInBounds_toArray, List.set_cons_zero, List.set_cons_succ]
              have hf := R5.fin
              refine wpAnyH_ready (rs := [20]) (by kernel_rfl) (by simp) ?_
              refine node_store26 3 23 _ _ _ _ _ _ _ _ _ _ _ _ _ rfl rfl rfl rfl rfl rfl (R5.h3 _ rfl).2 (KEEP.out _ hf.2.2.2.2) ?_ AllReadyH.nil
              refine wpAnyH_done (by kernel_rfl) ?_ _
              go_wp2_with fail
              go_meet
              exact ⟨_, _, _, _, _, _, _, rfl, hf.1, hf.2.1, hf.2.2.1, hf.2.2.2.1, hf.2.2.2.2⟩
      refine node_build0 24 55 2 14 Tryd.underlying24 (fun w => by kernel_rfl) rfl rfl rfl rfl (KEEP.out _ R1.a14.below) (fun hHeld => ?_) ?_
      · have R2 := R1.a14
        clear R1
        simp only [Act.put, List.setIfInBounds_toArray, List.set_cons_zero, List.set_cons_succ]
        refine wpAnyH_ready (rs := [8, 19]) (by kernel_rfl) (by simp) ?_
        refine node_app 13 W.heap.size (.tmp 5) (.tmp 12) 23 53 _ 4 32 info53 rfl (by decide) Tryd.underlying23 _ km (mcells (o.moves.take 17)) _ rfl rfl rfl rfl rfl rfl (rd_below HRM.out (HB.out.trans (R2.below.mono HB.out.size))) (R2.h5 _ rfl).2 (R2.h5 _ rfl).1 (by omega) ?_ ?_
        · intro sa1 sn1 sc1 w1 ho1 hg1
          have R3 := R2.app13 hg1.out ho1.out
          refine ⟨KEEP.out _ R3.below, ?_⟩
          have hHeld := KEEP.out _ R3.below
          clear ho1 hg1
          clear R2
          simp only [Act.put, List.setIfInBounds_toArray, List.set_cons_zero, List.set_cons_succ]
          refine wpAnyH_ready (rs := [17, 19]) (by kernel_rfl) (by simp) ?_
          refine node_app 22 W.heap.size (.tmp 14) (.tmp 21) 24 55 _ 2 16 info55 rfl (by decide) Tryd.underlying24 _ kj (jcells (o.jolts.take 5)) _ rfl rfl rfl rfl rfl rfl (rd_below HRJ.out (HB.out.trans (R3.below.mono HB.out.size))) (R3.h14 _ rfl).2 (R3.h14 _ rfl).1 (by omega) ?_ ?_
          · intro sa2 sn2 sc2 w2 ho2 hg2
            have R4 := R3.app22 hg2.out ho2.out
            refine ⟨KEEP.out _ R4.below, ?_⟩
            have hHeld := KEEP.out _ R4.below
            clear ho2 hg2
            clear R3
            simp only [Act.put, List.setIfInBounds_toArray, List.set_cons_zero, List.set_cons_succ]
            refine take_at (i := 18) 23 (v := .agg #[.slice none 0 0, .slice sa1 sn1 sc1, .slice sa2 sn2 sc2]) rfl (by kernel_rfl) (by kernel_rfl) (by kernel_rfl) rfl (fun _ _ _ h => h) (by rfl) (fun w hSw => ?_) hHeld ?_
            · (try dsimp only at hSw); go_simp
            simp only [Act.put, List.setIfInBounds_toArray, List.set_cons_zero, List.set_cons_succ]
            refine wpAnyH_ready (rs := [19]) (by kernel_rfl) (by simp) ?_
            refine node_alloc26 3 rfl rfl rfl rfl (KEEP.out _ R4.a3.below) (fun hHeld => ?_) AllReadyH.nil
            · have R5 := R4.a3
              clear R4
              simp only [Act.put, List.setIfInBounds_toArray, List.set_cons_zero, List.set_cons_succ]
              have hf := R5.fin
              refine wpAnyH_ready (rs := [20]) (by kernel_rfl) (by simp) ?_
              refine node_store26 3 23 _ _ _ _ _ _ _ _ _ _ _ _ _ rfl rfl rfl rfl rfl rfl (R5.h3 _ rfl).2 (KEEP.out _ hf.2.2.2.2) ?_ AllReadyH.nil
              refine wpAnyH_done (by kernel_rfl) ?_ _
              go_wp2_with fail
              go_meet
              exact ⟨_, _, _, _, _, _, _, rfl, hf.1, hf.2.1, hf.2.2.1, hf.2.2.2.1, hf.2.2.2.2⟩
          refine node_alloc26 3 rfl rfl rfl rfl (KEEP.out _ R3.a3.below) (fun hHeld => ?_) AllReadyH.nil
          · have R4 := R3.a3
            clear R3
            simp only [Act.put, List.setIfInBounds_toArray, List.set_cons_zero, List.set_cons_succ]
            refine wpAnyH_ready (rs := [17]) (by kernel_rfl) (by simp) ?_
            refine node_app 22 W.heap.size (.tmp 14) (.tmp 21) 24 55 _ 2 16 info55 rfl (by decide) Tryd.underlying24 _ kj (jcells (o.jolts.take 5)) _ rfl rfl rfl rfl rfl rfl (rd_below HRJ.out (HB.out.trans (R4.below.mono HB.out.size))) (R4.h14 _ rfl).2 (R4.h14 _ rfl).1 (by omega) ?_ AllReadyH.nil
            · intro sa2 sn2 sc2 w2 ho2 hg2
              have R5 := R4.app22 hg2.out ho2.out
              refine ⟨KEEP.out _ R5.below, ?_⟩
              have hHeld := KEEP.out _ R5.below
              clear ho2 hg2
              clear R4
              simp only [Act.put, List.setIfInBounds_toArray, List.set_cons_zero, List.set_cons_succ]
              refine take_at (i := 18) 23 (v := .agg #[.slice none 0 0, .slice sa1 sn1 sc1, .slice sa2 sn2 sc2]) rfl (by kernel_rfl) (by kernel_rfl) (by kernel_rfl) rfl (fun _ _ _ h => h) (by rfl) (fun w hSw => ?_) hHeld ?_
              · (try dsimp only at hSw); go_simp
              simp only [Act.put, List.setIfInBounds_toArray, List.set_cons_zero, List.set_cons_succ]
              have hf := R5.fin
              refine wpAnyH_ready (rs := [20]) (by kernel_rfl) (by simp) ?_
              refine node_store26 3 23 _ _ _ _ _ _ _ _ _ _ _ _ _ rfl rfl rfl rfl rfl rfl (R5.h3 _ rfl).2 (KEEP.out _ hf.2.2.2.2) ?_ AllReadyH.nil
              refine wpAnyH_done (by kernel_rfl) ?_ _
              go_wp2_with fail
              go_meet
              exact ⟨_, _, _, _, _, _, _, rfl, hf.1, hf.2.1, hf.2.2.1, hf.2.2.2.1, hf.2.2.2.2⟩
        refine node_alloc26 3 rfl rfl rfl rfl (KEEP.out _ R2.a3.below) (fun hHeld => ?_) AllReadyH.nil
        · have R3 := R2.a3
          clear R2
          simp only [Act.put, List.setIfInBounds_toArray, List.set_cons_zero, List.set_cons_succ]
          refine wpAnyH_ready (rs := [8]) (by kernel_rfl) (by simp) ?_
          refine node_app 13 W.heap.size (.tmp 5) (.tmp 12) 23 53 _ 4 32 info53 rfl (by decide) Tryd.underlying23 _ km (mcells (o.moves.take 17)) _ rfl rfl rfl rfl rfl rfl (rd_below HRM.out (HB.out.trans (R3.below.mono HB.out.size))) (R3.h5 _ rfl).2 (R3.h5 _ rfl).1 (by omega) ?_ AllReadyH.nil
          · intro sa1 sn1 sc1 w1 ho1 hg1
            have R4 := R3.app13 hg1.out ho1.out
            refine ⟨KEEP.out _ R4.below, ?_⟩
            have hHeld := KEEP.out _ R4.below
            clear ho1 hg1
            clear R3
            simp only [Act.put, List.setIfInBounds_toArray, List.set_cons_zero, List.set_cons_succ]
            refine wpAnyH_ready (rs := [17]) (by kernel_rfl) (by simp) ?_
            refine node_app 22 W.heap.size (.tmp 14) (.tmp 21) 24 55 _ 2 16 info55 rfl (by decide) Tryd.underlying24 _ kj (jcells (o.jolts.take 5)) _ rfl rfl rfl rfl rfl rfl (rd_below HRJ.out (HB.out.trans (R4.below.mono HB.out.size))) (R4.h14 _ rfl).2 (R4.h14 _ rfl).1 (by omega) ?_ AllReadyH.nil
            · intro sa2 sn2 sc2 w2 ho2 hg2
              have R5 := R4.app22 hg2.out ho2.out
              refine ⟨KEEP.out _ R5.below, ?_⟩
              have hHeld := KEEP.out _ R5.below
              clear ho2 hg2
              clear R4
              simp only [Act.put, List.setIfInBounds_toArray, List.set_cons_zero, List.set_cons_succ]
              refine take_at (i := 18) 23 (v := .agg #[.slice none 0 0, .slice sa1 sn1 sc1, .slice sa2 sn2 sc2]) rfl (by kernel_rfl) (by kernel_rfl) (by kernel_rfl) rfl (fun _ _ _ h => h) (by rfl) (fun w hSw => ?_) hHeld ?_
              · (try dsimp only at hSw); go_simp
              simp only [Act.put, List.setIfInBounds_toArray, List.set_cons_zero, List.set_cons_succ]
              have hf := R5.fin
              refine wpAnyH_ready (rs := [20]) (by kernel_rfl) (by simp) ?_
              refine node_store26 3 23 _ _ _ _ _ _ _ _ _ _ _ _ _ rfl rfl rfl rfl rfl rfl (R5.h3 _ rfl).2 (KEEP.out _ hf.2.2.2.2) ?_ AllReadyH.nil
              refine wpAnyH_done (by kernel_rfl) ?_ _
              go_wp2_with fail
              go_meet
              exact ⟨_, _, _, _, _, _, _, rfl, hf.1, hf.2.1, hf.2.2.1, hf.2.2.2.1, hf.2.2.2.2⟩
      refine node_alloc26 3 rfl rfl rfl rfl (KEEP.out _ R1.a3.below) (fun hHeld => ?_) AllReadyH.nil
      · have R2 := R1.a3
        clear R1
        simp only [Act.put, List.setIfInBounds_toArray, List.set_cons_zero, List.set_cons_succ]
        refine wpAnyH_ready (rs := [8, 9]) (by kernel_rfl) (by simp) ?_
        refine node_app 13 W.heap.size (.tmp 5) (.tmp 12) 23 53 _ 4 32 info53 rfl (by decide) Tryd.underlying23 _ km (mcells (o.moves.take 17)) _ rfl rfl rfl rfl rfl rfl (rd_below HRM.out (HB.out.trans (R2.below.mono HB.out.size))) (R2.h5 _ rfl).2 (R2.h5 _ rfl).1 (by omega) ?_ ?_
        · intro sa1 sn1 sc1 w1 ho1 hg1
          have R3 := R2.app13 hg1.out ho1.out
          refine ⟨KEEP.out _ R3.below, ?_⟩
          have hHeld := KEEP.out _ R3.below
          clear ho1 hg1
          clear R2
          simp only [Act.put, List.setIfInBounds_toArray, List.set_cons_zero, List.set_cons_succ]
          refine wpAnyH_ready (rs := [9]) (by kernel_rfl) (by simp) ?_
          refine node_build0 24 55 2 14 Tryd.underlying24 (fun w => by kernel_rfl) rfl rfl rfl rfl (KEEP.out _ R3.a14.below) (fun hHeld => ?_) AllReadyH.nil
          · have R4 := R3.a14
            clear R3
            simp only [Act.put, List.setIfInBounds_toArray, List.set_cons_zero, List.set_cons_succ]
            refine wpAnyH_ready (rs := [17]) (by kernel_rfl) (by simp) ?_
            refine node_app 22 W.heap.size (.tmp 14) (.tmp 21) 24 55 _ 2 16 info55 rfl (by decide) Tryd.underlying24 _ kj (jcells (o.jolts.take 5)) _ rfl rfl rfl rfl rfl rfl (rd_below HRJ.out (HB.out.trans (R4.below.mono HB.out.size))) (R4.h14 _ rfl).2 (R4.h14 _ rfl).1 (by omega) ?_ AllReadyH.nil
            · intro sa2 sn2 sc2 w2 ho2 hg2
              have R5 := R4.app22 hg2.out ho2.out
              refine ⟨KEEP.out _ R5.below, ?_⟩
              have hHeld := KEEP.out _ R5.below
              clear ho2 hg2
              clear R4
              simp only [Act.put, List.setIfInBounds_toArray, List.set_cons_zero, List.set_cons_succ]
              refine take_at (i := 18) 23 (v := .agg #[.slice none 0 0, .slice sa1 sn1 sc1, .slice sa2 sn2 sc2]) rfl (by kernel_rfl) (by kernel_rfl) (by kernel_rfl) rfl (fun _ _ _ h => h) (by rfl) (fun w hSw => ?_) hHeld ?_
              · (try dsimp only at hSw); go_simp
              simp only [Act.put, List.setIfInBounds_toArray, List.set_cons_zero, List.set_cons_succ]
              have hf := R5.fin
              refine wpAnyH_ready (rs := [20]) (by kernel_rfl) (by simp) ?_
              refine node_store26 3 23 _ _ _ _ _ _ _ _ _ _ _ _ _ rfl rfl rfl rfl rfl rfl (R5.h3 _ rfl).2 (KEEP.out _ hf.2.2.2.2) ?_ AllReadyH.nil
              refine wpAnyH_done (by kernel_rfl) ?_ _
              go_wp2_with fail
              go_meet
              exact ⟨_, _, _, _, _, _, _, rfl, hf.1, hf.2.1, hf.2.2.1, hf.2.2.2.1, hf.2.2.2.2⟩
        refine node_build0 24 55 2 14 Tryd.underlying24 (fun w => by kernel_rfl) rfl rfl rfl rfl (KEEP.out _ R2.a14.below) (fun hHeld => ?_) AllReadyH.nil
        · have R3 := R2.a14
          clear R2
          simp only [Act.put, List.setIfInBounds_toArray, List.set_cons_zero, List.set_cons_succ]
          refine wpAnyH_ready (rs := [8]) (by kernel_rfl) (by simp) ?_
          refine node_app 13 W.heap.size (.tmp 5) (.tmp 12) 23 53 _ 4 32 info53 rfl (by decide) Tryd.underlying23 _ km (mcells (o.moves.take 17)) _ rfl rfl rfl rfl rfl rfl (rd_below HRM.out (HB.out.trans (R3.below.mono HB.out.size))) (R3.h5 _ rfl).2 (R3.h5 _ rfl).1 (by omega) ?_ AllReadyH.nil
          · intro sa1 sn1 sc1 w1 ho1 hg1
            have R4 := R3.app13 hg1.out ho1.out
            refine ⟨KEEP.out _ R4.below, ?_⟩
            have hHeld := KEEP.out _ R4.below
            clear ho1 hg1
            clear R3
            simp only [Act.put, List.setIfInBounds_toArray, List.set_cons_zero, List.set_cons_succ]
            refine wpAnyH_ready (rs := [17]) (by kernel_rfl) (by simp) ?_
            refine node_app 22 W.heap.size (.tmp 14) (.tmp 21) 24 55 _ 2 16 info55 rfl (by decide) Tryd.underlying24 _ kj (jcells (o.jolts.take 5)) _ rfl rfl rfl rfl rfl rfl (rd_below HRJ.out (HB.out.trans (R4.below.mono HB.out.size))) (R4.h14 _ rfl).2 (R4.h14 _ rfl).1 (by omega) ?_ AllReadyH.nil
            · intro sa2 sn2 sc2 w2 ho2 hg2
              have R5 := R4.app22 hg2.out ho2.out
              refine ⟨KEEP.out _ R5.below, ?_⟩
              have hHeld := KEEP.out _ R5.below
              clear ho2 hg2
              clear R4
              simp only [Act.put, List.setIfInBounds_toArray, List.set_cons_zero, List.set_cons_succ]
              refine take_at (i := 18) 23 (v := .agg #[.slice none 0 0, .slice sa1 sn1 sc1, .slice sa2 sn2 sc2]) rfl (by kernel_rfl) (by kernel_rfl) (by kernel_rfl) rfl (fun _ _ _ h => h) (by rfl) (fun w hSw => ?_) hHeld ?_
              · (try dsimp only at hSw); go_simp
              simp only [Act.put, List.setIfInBounds_toArray, List.set_cons_zero, List.set_cons_succ]
              have hf := R5.fin
              refine wpAnyH_ready (rs := [20]) (by kernel_rfl) (by simp) ?_
              refine node_store26 3 23 _ _ _ _ _ _ _ _ _ _ _ _ _ rfl rfl rfl rfl rfl rfl (R5.h3 _ rfl).2 (KEEP.out _ hf.2.2.2.2) ?_ AllReadyH.nil
              refine wpAnyH_done (by kernel_rfl) ?_ _
              go_wp2_with fail
              go_meet
              exact ⟨_, _, _, _, _, _, _, rfl, hf.1, hf.2.1, hf.2.2.1, hf.2.2.2.1, hf.2.2.2.2⟩
    refine node_build0 24 55 2 14 Tryd.underlying24 (fun w => by kernel_rfl) rfl rfl rfl rfl (KEEP.out _ R0.a14.below) (fun hHeld => ?_) ?_
    · have R1 := R0.a14
      clear R0
      simp only [Act.put, List.setIfInBounds_toArray, List.set_cons_zero, List.set_cons_succ]
      refine wpAnyH_ready (rs := [0, 19]) (by kernel_rfl) (by simp) ?_
      refine node_build0 23 53 4 5 Tryd.underlying23 (fun w => by kernel_rfl) rfl rfl rfl rfl (KEEP.out _ R1.a5.below) (fun hHeld => ?_) ?_
      · have R2 := R1.a5
        clear R1
        simp only [Act.put, List.setIfInBounds_toArray, List.set_cons_zero, List.set_cons_succ]
        refine wpAnyH_ready (rs := [8, 19]) (by kernel_rfl) (by simp) ?_
        refine node_app 13 W.heap.size (.tmp 5) (.tmp 12) 23 53 _ 4 32 info53 rfl (by decide) Tryd.underlying23 _ km (mcells (o.moves.take 17)) _ rfl rfl rfl rfl rfl rfl (rd_below HRM.out (HB.out.trans (R2.below.mono HB.out.size))) (R2.h5 _ rfl).2 (R2.h5 _ rfl).1 (by omega) ?_ ?_
        · intro sa1 sn1 sc1 w1 ho1 hg1
          have R3 := R2.app13 hg1.out ho1.out
          refine ⟨KEEP.out _ R3.below, ?_⟩
          have hHeld := KEEP.out _ R3.below
          clear ho1 hg1
          clear R2
          simp only [Act.put, List.setIfInBounds_toArray, List.set_cons_zero, List.set_cons_succ]
          refine wpAnyH_ready (rs := [17, 19]) (by kernel_rfl) (by simp) ?_
          refine node_app 22 W.heap.size (.tmp 14) (.tmp 21) 24 55 _ 2 16 info55 rfl (by decide) Tryd.underlying24 _ kj (jcells (o.jolts.take 5)) _ rfl rfl rfl rfl rfl rfl (rd_below HRJ.out (HB.out.trans (R3.below.mono HB.out.size))) (R3.h14 _ rfl).2 (R3.h14 _ rfl).1 (by omega) ?_ ?_
          · intro sa2 sn2 sc2 w2 ho2 hg2
            have R4 := R3.app22 hg2.out ho2.out
            refine ⟨KEEP.out _ R4.below, ?_⟩
            have hHeld := KEEP.out _ R4.below
            clear ho2 hg2
            clear R3
            simp only [Act.put, List.setIfInBounds_toArray, List.set_cons_zero, List.set_cons_succ]
            refine take_at (i := 18) 23 (v := .agg #[.slice none 0 0, .slice sa1 sn1 sc1, .slice sa2 sn2 sc2]) rfl (by kernel_rfl) (by kernel_rfl) (by kernel_rfl) rfl (fun _ _ _ h => h) (by rfl) (fun w hSw => ?_) hHeld ?_
            · (try dsimp only at hSw); go_simp
            simp only [Act.put, List.setIfInBounds_toArray, List.set_cons_zero, List.set_cons_succ]
            refine wpAnyH_ready (rs := [19]) (by kernel_rfl) (by simp) ?_
            refine node_alloc26 3 rfl rfl rfl rfl (KEEP.out _ R4.a3.below) (fun hHeld => ?_) AllReadyH.nil
            · have R5 := R4.a3
              clear R4
              simp only [Act.put, List.setIfInBounds_toArray, List.set_cons_zero, List.set_cons_succ]
              have hf := R5.fin
              refine wpAnyH_ready (rs := [20]) (by kernel_rfl) (by simp) ?_
              refine node_store26 3 23 _ _ _ _ _ _ _ _ _ _ _ _ _ rfl rfl rfl rfl rfl rfl (R5.h3 _ rfl).2 (KEEP.out _ hf.2.2.2.2) ?_ AllReadyH.nil
              refine wpAnyH_done (by kernel_rfl) ?_ _
              go_wp2_with fail
              go_meet
              exact ⟨_, _, _, _, _, _, _, rfl, hf.1, hf.2.1, hf.2.2.1, hf.2.2.2.1, hf.2.2.2.2⟩
          refine node_alloc26 3 rfl rfl rfl rfl (KEEP.out _ R3.a3.below) (fun hHeld => ?_) AllReadyH.nil
          · have R4 := R3.a3
            clear R3
            simp only [Act.put, List.setIfInBounds_toArray, List.set_cons_zero, List.set_cons_succ]
            refine wpAnyH_ready (rs := [17]) (by kernel_rfl) (by simp) ?_
            refine node_app 22 W.heap.size (.tmp 14) (.tmp 21) 24 55 _ 2 16 info55 rfl (by decide) Tryd.underlying24 _ kj (jcells (o.jolts.take 5)) _ rfl rfl rfl rfl rfl rfl (rd_below HRJ.out (HB.out.trans (R4.below.mono HB.out.size))) (R4.h14 _ rfl).2 (R4.h14 _ rfl).1 (by omega) ?_ AllReadyH.nil
            · intro sa2 sn2 sc2 w2 ho2 hg2
              have R5 := R4.app22 hg2.out ho2.out
              refine ⟨KEEP.out _ R5.below, ?_⟩
              have hHeld := KEEP.out _ R5.below
              clear ho2 hg2
              clear R4
              simp only [Act.put, List.setIfInBounds_toArray, List.set_cons_zero, List.set_cons_succ]
              refine take_at (i := 18) 23 (v := .agg #[.slice none 0 0, .slice sa1 sn1 sc1, .slice sa2 sn2 sc2]) rfl (by kernel_rfl) (by kernel_rfl) (by kernel_rfl) rfl (fun _ _ _ h => h) (by rfl) (fun w hSw => ?_) hHeld ?_
              · (try dsimp only at hSw); go_simp
              simp only [Act.put, List.setIfInBounds_toArray, List.set_cons_zero, List.set_cons_succ]
              have hf := R5.fin
              refine wpAnyH_ready (rs := [20]) (by kernel_rfl) (by simp) ?_
              refine node_store26 3 23 _ _ _ _ _ _ _ _ _ _ _ _ _ rfl rfl rfl rfl rfl rfl (R5.h3 _ rfl).2 (KEEP.out _ hf.2.2.2.2) ?_ AllReadyH.nil
              refine wpAnyH_done (by kernel_rfl) ?_ _
              go_wp2_with fail
              go_meet
              exact ⟨_, _, _, _, _, _, _, rfl, hf.1, hf.2.1, hf.2.2.1, hf.2.2.2.1, hf.2.2.2.2⟩
        refine node_alloc26 3 rfl rfl rfl rfl (KEEP.out _ R2.a3.below) (fun hHeld => ?_) AllReadyH.nil
        · have R3 := R2.a3
          clear R2
          simp only [Act.put, List.setIfInBounds_toArray, List.set_cons_zero, List.set_cons_succ]
          refine wpAnyH_ready (rs := [8]) (by kernel_rfl) (by simp) ?_
          refine node_app 13 W.heap.size (.tmp 5) (.tmp 12) 23 53 _ 4 32 info53 rfl (by decide) Tryd.underlying23 _ km (mcells (o.moves.take 17)) _ rfl rfl rfl rfl rfl rfl (rd_below HRM.out (HB.out.trans (R3.below.mono HB.out.size))) (R3.h5 _ rfl).2 (R3.h5 _ rfl).1 (by omega) ?_ AllReadyH.nil
          · intro sa1 sn1 sc1 w1 ho1 hg1
            have R4 := R3.app13 hg1.out ho1.out
            refine ⟨KEEP.out _ R4.below, ?_⟩
            have hHeld := KEEP.out _ R4.below
            clear ho1 hg1
            clear R3
            simp only [Act.put, List.setIfInBounds_toArray, List.set_cons_zero, List.set_cons_succ]
            refine wpAnyH_ready (rs := [17]) (by kernel_rfl) (by simp) ?_
            refine node_app 22 W.heap.size (.tmp 14) (.tmp 21) 24 55 _ 2 16 info55 rfl (by decide) Tryd.underlying24 _ kj (jcells (o.jolts.take 5)) _ rfl rfl rfl rfl rfl rfl (rd_below HRJ.out (HB.out.trans (R4.below.mono HB.out.size))) (R4.h14 _ rfl).2 (R4.h14 _ rfl).1 (by omega) ?_ AllReadyH.nil
            · intro sa2 sn2 sc2 w2 ho2 hg2
              have R5 := R4.app22 hg2.out ho2.out
              refine ⟨KEEP.out _ R5.below, ?_⟩
              have hHeld := KEEP.out _ R5.below
              clear ho2 hg2
              clear R4
              simp only [Act.put, List.setIfInBounds_toArray, List.set_cons_zero, List.set_cons_succ]
              refine take_at (i := 18) 23 (v := .agg #[.slice none 0 0, .slice sa1 sn1 sc1, .slice sa2 sn2 sc2]) rfl (by kernel_rfl) (by kernel_rfl) (by kernel_rfl) rfl (fun _ _ _ h => h) (by rfl) (fun w hSw => ?_) hHeld ?_
              · (try dsimp only at hSw); go_simp
              simp only [Act.put, List.setIfInBounds_toArray, List.set_cons_zero, List.set_cons_succ]
              have hf := R5.fin
              refine wpAnyH_ready (rs := [20]) (by kernel_rfl) (by simp) ?_
              refine node_store26 3 23 _ _ _ _ _ _ _ _ _ _ _ _ _ rfl rfl rfl rfl rfl rfl (R5.h3 _ rfl).2 (KEEP.out _ hf.2.2.2.2) ?_ AllReadyH.nil
              refine wpAnyH_done (by kernel_rfl) ?_ _
              go_wp2_with fail
              go_meet
              exact ⟨_, _, _, _, _, _, _, rfl, hf.1, hf.2.1, hf.2.2.1, hf.2.2.2.1, hf.2.2.2.2⟩
      refine node_alloc26 3 rfl rfl rfl rfl (KEEP.out _ R1.a3.below) (fun hHeld => ?_) AllReadyH.nil
      · have R2 := R1.a3
        clear R1
        simp only [Act.put, List.setIfInBounds_toArray, List.set_cons_zero, List.set_cons_succ]
        refine wpAnyH_ready (rs := [0]) (by kernel_rfl) (by simp) ?_
        refine node_build0 23 53 4 5 Tryd.underlying23 (fun w => by kernel_rfl) rfl rfl rfl rfl (KEEP.out _ R2.a5.below) (fun hHeld => ?_) AllReadyH.nil
        · have R3 := R2.a5
          clear R2
          simp only [Act.put, List.setIfInBounds_toArray, List.set_cons_zero, List.set_cons_succ]
          refine wpAnyH_ready (rs := [8]) (by kernel_rfl) (by simp) ?_
          refine node_app 13 W.heap.size (.tmp 5) (.tmp 12) 23 53 _ 4 32 info53 rfl (by decide) Tryd.underlying23 _ km (mcells (o.moves.take 17)) _ rfl rfl rfl rfl rfl rfl (rd_below HRM.out (HB.out.trans (R3.below.mono HB.out.size))) (R3.h5 _ rfl).2 (R3.h5 _ rfl).1 (by omega) ?_ AllReadyH.nil
          · intro sa1 sn1 sc1 w1 ho1 hg1
            have R4 := R3.app13 hg1.out ho1.out
            refine ⟨KEEP.out _ R4.below, ?_⟩
            have hHeld := KEEP.out _ R4.below
            clear ho1 hg1
            clear R3
            simp only [Act.put, List.setIfInBounds_toArray, List.set_cons_zero, List.set_cons_succ]
            refine wpAnyH_ready (rs := [17]) (by kernel_rfl) (by simp) ?_
            refine node_app 22 W.heap.size (.tmp 14) (.tmp 21) 24 55 _ 2 16 info55 rfl (by decide) Tryd.underlying24 _ kj (jcells (o.jolts.take 5)) _ rfl rfl rfl rfl rfl rfl (rd_below HRJ.out (HB.out.trans (R4.below.mono HB.out.size))) (R4.h14 _ rfl).2 (R4.h14 _ rfl).1 (by omega) ?_ AllReadyH.nil
            · intro sa2 sn2 sc2 w2 ho2 hg2
              have R5 := R4.app22 hg2.out ho2.out
              refine ⟨KEEP.out _ R5.below, ?_⟩
              have hHeld := KEEP.out _ R5.below
              clear ho2 hg2
              clear R4
              simp only [Act.put, List.setIfInBounds_toArray, List.set_cons_zero, List.set_cons_succ]
              refine take_at (i := 18) 23 (v := .agg #[.slice none 0 0, .slice sa1 sn1 sc1, .slice sa2 sn2 sc2]) rfl (by kernel_rfl) (by kernel_rfl) (by kernel_rfl) rfl (fun _ _ _ h => h) (by rfl) (fun w hSw => ?_) hHeld ?_
              · (try dsimp only at hSw); go_simp
              simp only [Act.put, List.setIfInBounds_toArray, List.set_cons_zero, List.set_cons_succ]
              have hf := R5.fin
              refine wpAnyH_ready (rs := [20]) (by kernel_rfl) (by simp) ?_
              refine node_store26 3 23 _ _ _ _ _ _ _ _ _ _ _ _ _ rfl rfl rfl rfl rfl rfl (R5.h3 _ rfl).2 (KEEP.out _ hf.2.2.2.2) ?_ AllReadyH.nil
              refine wpAnyH_done (by kernel_rfl) ?_ _
              go_wp2_with fail
              go_meet
              exact ⟨_, _, _, _, _, _, _, rfl, hf.1, hf.2.1, hf.2.2.1, hf.2.2.2.1, hf.2.2.2.2⟩
    refine node_alloc26 3 rfl rfl rfl rfl (KEEP.out _ R0.a3.below) (fun hHeld => ?_) AllReadyH.nil
    · have R1 := R0.a3
      clear R0
      simp only [Act.put, List.setIfInBounds_toArray, List.set_cons_zero, List.set_cons_succ]
      refine wpAnyH_ready (rs := [0, 9]) (by kernel_rfl) (by simp) ?_
      refine node_build0 23 53 4 5 Tryd.underlying23 (fun w => by kernel_rfl) rfl rfl rfl rfl (KEEP.out _ R1.a5.below) (fun hHeld => ?_) ?_
      · have R2 := R1.a5
        clear R1
        simp only [Act.put, List.setIfInBounds_toArray, List.set_cons_zero, List.set_cons_succ]
        refine wpAnyH_ready (rs := [8, 9]) (by kernel_rfl) (by simp) ?_
        refine node_app 13 W.heap.size (.tmp 5) (.tmp 12) 23 53 _ 4 32 info53 rfl (by decide) Tryd.underlying23 _ km (mcells (o.moves.take 17)) _ rfl rfl rfl rfl rfl rfl (rd_below HRM.out (HB.out.trans (R2.below.mono HB.out.size))) (R2.h5 _ rfl).2 (R2.h5 _ rfl).1 (by omega) ?_ ?_
        · intro sa1 sn1 sc1 w1 ho1 hg1
          have R3 := R2.app13 hg1.out ho1.out
          refine ⟨KEEP.out _ R3.below, ?_⟩
          have hHeld := KEEP.out _ R3.below
          clear ho1 hg1
          clear R2
          simp only [Act.put, List.setIfInBounds_toArray, List.set_cons_zero, List.set_cons_succ]
          refine wpAnyH_ready (rs := [9]) (by kernel_rfl) (by simp) ?_
          refine node_build0 24 55 2 14 Tryd.underlying24 (fun w => by kernel_rfl) rfl rfl rfl rfl (KEEP.out _ R3.a14.below) (fun hHeld => ?_) AllReadyH.nil
          · have R4 := R3.a14
            clear R3
            simp only [Act.put, List.setIfInBounds_toArray, List.set_cons_zero, List.set_cons_succ]
            refine wpAnyH_ready (rs := [17]) (by kernel_rfl) (by simp) ?_
            refine node_app 22 W.heap.size (.tmp 14) (.tmp 21) 24 55 _ 2 16 info55 rfl (by decide) Tryd.underlying24 _ kj (jcells (o.jolts.take 5)) _ rfl rfl rfl rfl rfl rfl (rd_below HRJ.out (HB.out.trans (R4.below.mono HB.out.size))) (R4.h14 _ rfl).2 (R4.h14 _ rfl).1 (by omega) ?_ AllReadyH.nil
            · intro sa2 sn2 sc2 w2 ho2 hg2
              have R5 := R4.app22 hg2.out ho2.out
              refine ⟨KEEP.out _ R5.below, ?_⟩
              have hHeld := KEEP.out _ R5.below
              clear ho2 hg2
              clear R4
              simp only [Act.put, List.setIfInBounds_toArray, List.set_cons_zero, List.set_cons_succ]
              refine take_at (i := 18) 23 (v := .agg #[.slice none 0 0, .slice sa1 sn1 sc1, .slice sa2 sn2 sc2]) rfl (by kernel_rfl) (by kernel_rfl) (by kernel_rfl) rfl (fun _ _ _ h => h) (by rfl) (fun w hSw => ?_) hHeld ?_
              · (try dsimp only at hSw); go_simp
              simp only [Act.put, List.setIfInBounds_toArray, List.set_cons_zero, List.set_cons_succ]
              have hf := R5.fin
              refine wpAnyH_ready (rs := [20]) (by kernel_rfl) (by simp) ?_
              refine node_store26 3 23 _ _ _ _ _ _ _ _ _ _ _ _ _ rfl rfl rfl rfl rfl rfl (R5.h3 _ rfl).2 (KEEP.out _ hf.2.2.2.2) ?_ AllReadyH.nil
              refine wpAnyH_done (by kernel_rfl) ?_ _
              go_wp2_with fail
              go_meet
              exact ⟨_, _, _, _, _, _, _, rfl, hf.1, hf.2.1, hf.2.2.1, hf.2.2.2.1, hf.2.2.2.2⟩
        refine node_build0 24 55 2 14 Tryd.underlying24 (fun w => by kernel_rfl) rfl rfl rfl rfl (KEEP.out _ R2.a14.below) (fun hHeld => ?_) AllReadyH.nil
        · have R3 := R2.a14
          clear R2
          simp only [Act.put, List.setIfInBounds_toArray, List.set_cons_zero, List.set_cons_succ]
          refine wpAnyH_ready (rs := [8]) (by kernel_rfl) (by simp) ?_
          refine node_app 13 W.heap.size (.tmp 5) (.tmp 12) 23 53 _ 4 32 info53 rfl (by decide) Tryd.underlying23 _ km (mcells (o.moves.take 17)) _ rfl rfl rfl rfl rfl rfl (rd_below HRM.out (HB.out.trans (R3.below.mono HB.out.size))) (R3.h5 _ rfl).2 (R3.h5 _ rfl).1 (by omega) ?_ AllReadyH.nil
          · intro sa1 sn1 sc1 w1 ho1 hg1
            have R4 := R3.app13 hg1.out ho1.out
            refine ⟨KEEP.out _ R4.below, ?_⟩
            have hHeld := KEEP.out _ R4.below
            clear ho1 hg1
            clear R3
            simp only [Act.put, List.setIfInBounds_toArray, List.set_cons_zero, List.set_cons_succ]
            refine wpAnyH_ready (rs := [17]) (by kernel_rfl) (by simp) ?_
            refine node_app 22 W.heap.size (.tmp 14) (.tmp 21) 24 55 _ 2 16 info55 rfl (by decide) Tryd.underlying24 _ kj (jcells (o.jolts.take 5)) _ rfl rfl rfl rfl rfl rfl (rd_below HRJ.out (HB.out.trans (R4.below.mono HB.out.size))) (R4.h14 _ rfl).2 (R4.h14 _ rfl).1 (by omega) ?_ AllReadyH.nil
            · intro sa2 sn2 sc2 w2 ho2 hg2
              have R5 := R4.app22 hg2.out ho2.out
              refine ⟨KEEP.out _ R5.below, ?_⟩
              have hHeld := KEEP.out _ R5.below
              clear ho2 hg2
              clear R4
              simp only [Act.put, List.setIfInBounds_toArray, List.set_cons_zero, List.set_cons_succ]
              refine take_at (i := 18) 23 (v := .agg #[.slice none 0 0, .slice sa1 sn1 sc1, .slice sa2 sn2 sc2]) rfl (by kernel_rfl) (by kernel_rfl) (by kernel_rfl) rfl (fun _ _ _ h => h) (by rfl) (fun w hSw => ?_) hHeld ?_
              · (try dsimp only at hSw); go_simp
              simp only [Act.put, List.setIfInBounds_toArray, List.set_cons_zero, List.set_cons_succ]
              have hf := R5.fin
              refine wpAnyH_ready (rs := [20]) (by kernel_rfl) (by simp) ?_
              refine node_store26 3 23 _ _ _ _ _ _ _ _ _ _ _ _ _ rfl rfl rfl rfl rfl rfl (R5.h3 _ rfl).2 (KEEP.out _ hf.2.2.2.2) ?_ AllReadyH.nil
              refine wpAnyH_done (by kernel_rfl) ?_ _
              go_wp2_with fail
              go_meet
              exact ⟨_, _, _, _, _, _, _, rfl, hf.1, hf.2.1, hf.2.2.1, hf.2.2.2.1, hf.2.2.2.2⟩
      refine node_build0 24 55 2 14 Tryd.underlying24 (fun w => by kernel_rfl) rfl rfl rfl rfl (KEEP.out _ R1.a14.below) (fun hHeld => ?_) AllReadyH.nil
      · have R2 := R1.a14
        clear R1
        simp only [Act.put, List.setIfInBounds_toArray, List.set_cons_zero, List.set_cons_succ]
        refine wpAnyH_ready (rs := [0]) (by kernel_rfl) (by simp) ?_
        refine node_build0 23 53 4 5 Tryd.underlying23 (fun w => by kernel_rfl) rfl rfl rfl rfl (KEEP.out _ R2.a5.below) (fun hHeld => ?_) AllReadyH.nil
        · have R3 := R2.a5
          clear R2
          simp only [Act.put, List.setIfInBounds_toArray, List.set_cons_zero, List.set_cons_succ]
          refine wpAnyH_ready (rs := [8]) (by kernel_rfl) (by simp) ?_
          refine node_app 13 W.heap.size (.tmp 5) (.tmp 12) 23 53 _ 4 32 info53 rfl (by decide) Tryd.underlying23 _ km (mcells (o.moves.take 17)) _ rfl rfl rfl rfl rfl rfl (rd_below HRM.out (HB.out.trans (R3.below.mono HB.out.size))) (R3.h5 _ rfl).2 (R3.h5 _ rfl).1 (by omega) ?_ AllReadyH.nil
          · intro sa1 sn1 sc1 w1 ho1 hg1
            have R4 := R3.app13 hg1.out ho1.out
            refine ⟨KEEP.out _ R4.below, ?_⟩
            have hHeld := KEEP.out _ R4.below
            clear ho1 hg1
            clear R3
            simp only [Act.put, List.setIfInBounds_toArray, List.set_cons_zero, List.set_cons_succ]
            refine wpAnyH_ready (rs := [17]) (by kernel_rfl) (by simp) ?_
            refine node_app 22 W.heap.size (.tmp 14) (.tmp 21) 24 55 _ 2 16 info55 rfl (by decide) Tryd.underlying24 _ kj (jcells (o.jolts.take 5)) _ rfl rfl rfl rfl rfl rfl (rd_below HRJ.out (HB.out.trans (R4.below.mono HB.out.size))) (R4.h14 _ rfl).2 (R4.h14 _ rfl).1 (by omega) ?_ AllReadyH.nil
            · intro sa2 sn2 sc2 w2 ho2 hg2
              have R5 := R4.app22 hg2.out ho2.out
              refine ⟨KEEP.out _ R5.below, ?_⟩
              have hHeld := KEEP.out _ R5.below
              clear ho2 hg2
              clear R4
              simp only [Act.put, List.setIfInBounds_toArray, List.set_cons_zero, List.set_cons_succ]
              refine take_at (i := 18) 23 (v := .agg #[.slice none 0 0, .slice sa1 sn1 sc1, .slice sa2 sn2 sc2]) rfl (by kernel_rfl) (by kernel_rfl) (by kernel_rfl) rfl (fun _ _ _ h => h) (by rfl) (fun w hSw => ?_) hHeld ?_
              · (try dsimp only at hSw); go_simp
              simp only [Act.put, List.setIfInBounds_toArray, List.set_cons_zero, List.set_cons_succ]
              have hf := R5.fin
              refine wpAnyH_ready (rs := [20]) (by kernel_rfl) (by simp) ?_
              refine node_store26 3 23 _ _ _ _ _ _ _ _ _ _ _ _ _ rfl rfl rfl rfl rfl rfl (R5.h3 _ rfl).2 (KEEP.out _ hf.2.2.2.2) ?_ AllReadyH.nil
              refine wpAnyH_done (by kernel_rfl) ?_ _
              go_wp2_with fail
              go_meet
              exact ⟨_, _, _, _, _, _, _, rfl, hf.1, hf.2.1, hf.2.2.1, hf.2.2.2.1, hf.2.2.2.2⟩
  case rest =>
    obtain ⟨bx, a1, n1, c1, a2, n2, c2, rfl, hbB, hbx, HMV, HJL, HBc⟩ := hcut
    have CT0 : Hid (Cut W.heap.size bx (.slice none 0 0) (.slice a1 n1 c1) (.slice a2 n2 c2) [] (o.moves.take 17) (o.jolts.take 5) wc) := by
      refine ⟨hbB, hbx, ownG_nil _ _, ?_, ?_⟩
      · rw [List.length_take, Nat.min_comm, ← HKM.out]; exact HMV.out
      · rw [List.length_take, Nat.min_comm, ← HKJ.out]; exact HJL.out
    obtain ⟨T, hT⟩ : ∃ T, T = min P 5 := ⟨_, rfl⟩
    clear hbx HMV HJL KEEP hsl1 hsl2
    have hlw : w.heap.size + 1 < W.heap.size := by have := HZ.out; omega
    have hbne : w.heap.size ≠ bx := by omega
    have hbne1 : w.heap.size + 1 ≠ bx := by omega
    go_wp2_with fail
    go_loopw [4] (fun iv wr => ∃ (i n : Nat) (a : Option Addr) (c : Nat), iv = .int .i64 i ∧ i ≤ T ∧ Hid (Cut W.heap.size bx (.slice a n c) (.slice a1 n1 c1) (.slice a2 n2 c2) ((o.safe.take i).map cutStrs) (o.moves.take 17) (o.jolts.take 5) wr) ∧ Hid (Below W.heap.size W wr)) (fun iv _ => T - (intOf iv).toNat)
    case atStart => exact ⟨0, 0, _, 0, rfl, Nat.zero_le _, CT0, HBc⟩
    case round =>
      obtain ⟨i, n, a, c, rfl, hi, CT, HRW⟩ := hrel
      have x0 := (HRW.out.cell (p := ⟨w.heap.size, 0, none⟩) (by show w.heap.size < _; omega)).trans HX0.out
      obtain ⟨b1, b2, b3⟩ := cells3_of CT.out.box
      obtain ⟨f1, f2, f3⟩ := free3_of CT.out.box
      have hbl := CT.out.lt
      have hzr := HRW.out.size
      by_cases hlt : i < T
      · have hiP : i < P := by omega
        have hi5 : i < 5 := by omega
        obtain ⟨ad, u, rfl, hadb, hcell, hst⟩ := HSC.out i (by rw [← HP.out]; exact hiP)
        obtain ⟨ua, uc, rfl, _, _⟩ := id hst
        obtain ⟨un, hun⟩ : ∃ un, un = (o.safe.getD i []).length := ⟨_, rfl⟩
        rw [← hun] at hcell hst
        have HAS := hid hst
        have hadw : ad.block < W.heap.size := by omega
        have e0 := HB.out.cell (p := ad.add i) (by rw [add_block]; exact hadb)
        have EW := hid (e0.trans hcell)
        have e1 := (HRW.out.cell (p := ad.add i) (by rw [add_block]; exact hadw)).trans EW.out
        have HLN : Hid ((((o.safe.take i).map cutStrs)).length < 1000000) := by show _ < _; simp; omega
        have HLX : Hid (((o.safe.take i).map cutStrs) ++ [cutStrs (o.safe.getD i [])] = (o.safe.take (i + 1)).map cutStrs) := by
          have hip : i < o.safe.length := by rw [← HP.out]; exact hiP
          show _ = _
          rw [List.take_succ_eq_append_getElem hip, List.map_append, List.getD_eq_getElem?_getD, List.getElem?_eq_getElem hip]; rfl
        have KEEP : Hid (∀ w', Below W.heap.size W w' → w'.cell? ⟨w.heap.size, 0, none⟩ = some (.slice (some ad) P cs) ∧ w'.cell? (ad.add i) = some (.slice ua un uc) ∧ Hid (Below W.heap.size W w')) := fun w' hb => ⟨(hb.cell (p := ⟨_, 0, none⟩) (by show w.heap.size < _; omega)).trans HX0.out, (hb.cell (p := ad.add i) (by rw [add_block]; exact hadw)).trans EW.out, hb⟩
        clear hun hcell hst e0
        go_upto_region 5 with fail
        refine wp_region_held_drew (S := fun w' => w'.cell? ⟨w.heap.size, 0, none⟩ = some (.slice (some ad) P cs) ∧ w'.cell? (ad.add i) = some (.slice ua un uc) ∧ Hid (Below W.heap.size W w')) (by kernel_rfl) (KEEP.out _ HRW.out.drew) (fun hHeld => ?_)
        refine take_at (i := 0) 35 (v := .pointer (some ⟨bx, 0, none⟩)) rfl (by kernel_rfl) (by kernel_rfl) (by kernel_rfl) rfl (fun _ _ _ h => h) (by rfl) (fun w hSw => ?_) hHeld ?_
        · (try dsimp only at hSw); go_simp
        simp only [Act.put, List.setIfInBounds_toArray, List.set_cons_zero, List.set_cons_succ]
        refine take_at (i := 2) 37 (v := .pointer (some ⟨w.heap.size, 0, none⟩)) rfl (by kernel_rfl) (by kernel_rfl) (by kernel_rfl) rfl (fun _ _ _ h => h) (by rfl) (fun w hSw => ?_) hHeld ?_
        · (try dsimp only at hSw); go_simp
        simp only [Act.put, List.setIfInBounds_toArray, List.set_cons_zero, List.set_cons_succ]
        refine take_at (i := 3) 38 (v := .slice (some ad) P cs) rfl (by kernel_rfl) (by kernel_rfl) (by kernel_rfl) rfl (fun _ _ _ h => h) (by rfl) (fun w hSw => ?_) hHeld ?_
        · (try dsimp only at hSw); go_simp
        simp only [Act.put, List.setIfInBounds_toArray, List.set_cons_zero, List.set_cons_succ]
        refine take_at (i := 4) 39 (v := .int .i64 i) rfl (by kernel_rfl) (by kernel_rfl) (by kernel_rfl) rfl (fun _ _ _ h => h) (by rfl) (fun w hSw => ?_) hHeld ?_
        · (try dsimp only at hSw); go_simp
        simp only [Act.put, List.setIfInBounds_toArray, List.set_cons_zero, List.set_cons_succ]
        refine take_at (i := 5) 40 (v := .pointer (some (ad.add i))) rfl (by kernel_rfl) (by kernel_rfl) (by kernel_rfl) rfl (fun _ _ _ h => h) (by rfl) (fun w hSw => ?_) hHeld ?_
        · (try dsimp only at hSw); go_simp
        simp only [Act.put, List.setIfInBounds_toArray, List.set_cons_zero, List.set_cons_succ]
        refine take_at (i := 6) 41 (v := .slice ua un uc) rfl (by kernel_rfl) (by kernel_rfl) (by kernel_rfl) rfl (fun _ _ _ h => h) (by rfl) (fun w hSw => ?_) hHeld ?_
        · (try dsimp only at hSw); go_simp
        simp only [Act.put, List.setIfInBounds_toArray, List.set_cons_zero, List.set_cons_succ]
        have CTx := CT.out.below (w' := wr.drew) ((Below.refl _ _).drew)
        have HBx := HRW.out.drew
        clear hHeld
        refine wpAnyH_ready (rs := [1, 7]) (by kernel_rfl) (by simp) ?_
        refine node_load22 36 35 _ _ rfl rfl rfl rfl rfl (cells3_of CTx.box).1 (KEEP.out _ HBx) ?_ ?_
        · simp only [Act.put, List.setIfInBounds_toArray, List.set_cons_zero, List.set_cons_succ]
          refine wpAnyH_ready (rs := [7]) (by kernel_rfl) (by simp) ?_
          refine node_call43 42 41 _ rfl rfl rfl rfl rfl ((strings_any (.slice ua un uc) (o.safe.getD i []) _ (argStrs_below HAS.out (HB.out.trans (HBx.mono HB.out.size)))).mono ?_) AllReadyH.nil
          · rintro e w7 ⟨v7, rfl, ht7, hb7⟩
            obtain ⟨q1, q2, q3, rfl⟩ := ownT_slice' ht7
            have CTx := CTx.below hb7
            have HTx := ownT_mono ht7 HBx.size
            have HBx := HBx.trans (hb7.mono HBx.size)
            refine ⟨_, rfl, KEEP.out _ HBx, ?_⟩
            clear ht7 hb7
            simp only [Act.put, List.setIfInBounds_toArray, List.set_cons_zero, List.set_cons_succ]
            refine wpAnyH_ready (rs := [8]) (by kernel_rfl) (by simp) ?_
            refine node_build1 43 42 _ _ _ rfl rfl rfl rfl rfl (KEEP.out _ (HBx.alloc HBx.size _)) (fun hHeld => ?_) AllReadyH.nil
            · have hbl := (Below.refl w7.heap.size w7).alloc (Nat.le_refl _) (.cells #[.slice q1 q2 q3] 71)
              have CTx := CTx.below hbl
              have HTx := ownT_below HTx hbl
              have hzx := heap_alloc_new w7 (.cells #[.slice q1 q2 q3] 71)
              have HBx := HBx.alloc HBx.size (.cells #[.slice q1 q2 q3] 71)
              clear hbl
              simp only [Act.put, List.setIfInBounds_toArray, List.set_cons_zero, List.set_cons_succ]
              refine wpAnyH_ready (rs := [9]) (by kernel_rfl) (by simp) ?_
              refine node_app_row 44 (.tmp 36) (.tmp 43) (.slice a n c) W.heap.size ((o.safe.take i).map cutStrs) _ _ (cutStrs (o.safe.getD i [])) rfl rfl rfl rfl rfl rfl hzx CTx.g HTx HLN.out HBx.size ?_ AllReadyH.nil
              · intro sa sn sc w9 ho9 hg9
                have hc9 := Cut.step CTx hg9 ho9
                rw [HLX.out] at hc9
                have box9 := (Cut.grid CTx hg9).1
                have HB9 := HBx.grown hg9 HBx.size (fun k hk => (ownG_lt CTx.g k hk).1)
                refine ⟨KEEP.out _ HB9, ?_⟩
                clear ho9 hg9
                simp only [Act.put, List.setIfInBounds_toArray, List.set_cons_zero, List.set_cons_succ]
                have hHeld := KEEP.out _ HB9
                refine take_at (i := 10) 45 (v := .pointer (some ⟨bx, 0, none⟩)) rfl (by kernel_rfl) (by kernel_rfl) (by kernel_rfl) rfl (fun _ _ _ h => h) (by rfl) (fun w hSw => ?_) hHeld ?_
                · (try dsimp only at hSw); go_simp
                simp only [Act.put, List.setIfInBounds_toArray, List.set_cons_zero, List.set_cons_succ]
                refine wpAnyH_ready (rs := [11]) (by kernel_rfl) (by simp) ?_
                refine node_store22 45 44 _ _ _ _ _ _ _ rfl rfl rfl rfl rfl rfl box9 (KEEP.out _ (HB9.setCell (p := ⟨bx, 0, none⟩) hbB _)) ?_ AllReadyH.nil
                refine wpAnyH_done (by kernel_rfl) ?_ _
                have HC9 := hid hc9
                have HBN := hid (HB9.setCell (p := ⟨bx, 0, none⟩) hbB (.slice sa sn sc))
                clear hc9 box9 HB9 CTx HBx HTx hzx
                go_wp2_with fail
                go_roundw
                case rel => exact ⟨i + 1, sn, sa, sc, by go_num, by omega, HC9, HBN⟩
                case measure => simp [intOf]; omega
        refine node_call43 42 41 _ rfl rfl rfl rfl rfl ((strings_any (.slice ua un uc) (o.safe.getD i []) _ (argStrs_below HAS.out (HB.out.trans (HBx.mono HB.out.size)))).mono ?_) AllReadyH.nil
        · rintro e w7 ⟨v7, rfl, ht7, hb7⟩
          obtain ⟨q1, q2, q3, rfl⟩ := ownT_slice' ht7
          have CTx := CTx.below hb7
          have HTx := ownT_mono ht7 HBx.size
          have HBx := HBx.trans (hb7.mono HBx.size)
          refine ⟨_, rfl, KEEP.out _ HBx, ?_⟩
          clear ht7 hb7
          simp only [Act.put, List.setIfInBounds_toArray, List.set_cons_zero, List.set_cons_succ]
          refine wpAnyH_ready (rs := [1, 8]) (by kernel_rfl) (by simp) ?_
          refine node_load22 36 35 _ _ rfl rfl rfl rfl rfl (cells3_of CTx.box).1 (KEEP.out _ HBx) ?_ ?_
          · simp only [Act.put, List.setIfInBounds_toArray, List.set_cons_zero, List.set_cons_succ]
            refine wpAnyH_ready (rs := [8]) (by kernel_rfl) (by simp) ?_
            refine node_build1 43 42 _ _ _ rfl rfl rfl rfl rfl (KEEP.out _ (HBx.alloc HBx.size _)) (fun hHeld => ?_) AllReadyH.nil
            · have hbl := (Below.refl w7.heap.size w7).alloc (Nat.le_refl _) (.cells #[.slice q1 q2 q3] 71)
              have CTx := CTx.below hbl
              have HTx := ownT_below HTx hbl
              have hzx := heap_alloc_new w7 (.cells #[.slice q1 q2 q3] 71)
              have HBx := HBx.alloc HBx.size (.cells #[.slice q1 q2 q3] 71)
              clear hbl
              simp only [Act.put, List.setIfInBounds_toArray, List.set_cons_zero, List.set_cons_succ]
              refine wpAnyH_ready (rs := [9]) (by kernel_rfl) (by simp) ?_
              refine node_app_row 44 (.tmp 36) (.tmp 43) (.slice a n c) W.heap.size ((o.safe.take i).map cutStrs) _ _ (cutStrs (o.safe.getD i [])) rfl rfl rfl rfl rfl rfl hzx CTx.g HTx HLN.out HBx.size ?_ AllReadyH.nil
              · intro sa sn sc w9 ho9 hg9
                have hc9 := Cut.step CTx hg9 ho9
                rw [HLX.out] at hc9
                have box9 := (Cut.grid CTx hg9).1
                have HB9 := HBx.grown hg9 HBx.size (fun k hk => (ownG_lt CTx.g k hk).1)
                refine ⟨KEEP.out _ HB9, ?_⟩
                clear ho9 hg9
                simp only [Act.put, List.setIfInBounds_toArray, List.set_cons_zero, List.set_cons_succ]
                have hHeld := KEEP.out _ HB9
                refine take_at (i := 10) 45 (v := .pointer (some ⟨bx, 0, none⟩)) rfl (by kernel_rfl) (by kernel_rfl) (by kernel_rfl) rfl (fun _ _ _ h => h) (by rfl) (fun w hSw => ?_) hHeld ?_
                · (try dsimp only at hSw); go_simp
                simp only [Act.put, List.setIfInBounds_toArray, List.set_cons_zero, List.set_cons_succ]
                refine wpAnyH_ready (rs := [11]) (by kernel_rfl) (by simp) ?_
                refine node_store22 45 44 _ _ _ _ _ _ _ rfl rfl rfl rfl rfl rfl box9 (KEEP.out _ (HB9.setCell (p := ⟨bx, 0, none⟩) hbB _)) ?_ AllReadyH.nil
                refine wpAnyH_done (by kernel_rfl) ?_ _
                have HC9 := hid hc9
                have HBN := hid (HB9.setCell (p := ⟨bx, 0, none⟩) hbB (.slice sa sn sc))
                clear hc9 box9 HB9 CTx HBx HTx hzx
                go_wp2_with fail
                go_roundw
                case rel => exact ⟨i + 1, sn, sa, sc, by go_num, by omega, HC9, HBN⟩
                case measure => simp [intOf]; omega
          refine node_build1 43 42 _ _ _ rfl rfl rfl rfl rfl (KEEP.out _ (HBx.alloc HBx.size _)) (fun hHeld => ?_) AllReadyH.nil
          · have hbl := (Below.refl w7.heap.size w7).alloc (Nat.le_refl _) (.cells #[.slice q1 q2 q3] 71)
            have CTx := CTx.below hbl
            have HTx := ownT_below HTx hbl
            have hzx := heap_alloc_new w7 (.cells #[.slice q1 q2 q3] 71)
            have HBx := HBx.alloc HBx.size (.cells #[.slice q1 q2 q3] 71)
            clear hbl
            simp only [Act.put, List.setIfInBounds_toArray, List.set_cons_zero, List.set_cons_succ]
            refine wpAnyH_ready (rs := [1]) (by kernel_rfl) (by simp) ?_
            refine node_load22 36 35 _ _ rfl rfl rfl rfl rfl (cells3_of CTx.box).1 (KEEP.out _ HBx) ?_ AllReadyH.nil
            · simp only [Act.put, List.setIfInBounds_toArray, List.set_cons_zero, List.set_cons_succ]
              refine wpAnyH_ready (rs := [9]) (by kernel_rfl) (by simp) ?_
              refine node_app_row 44 (.tmp 36) (.tmp 43) (.slice a n c) W.heap.size ((o.safe.take i).map cutStrs) _ _ (cutStrs (o.safe.getD i [])) rfl rfl rfl rfl rfl rfl hzx CTx.g HTx HLN.out HBx.size ?_ AllReadyH.nil
              · intro sa sn sc w9 ho9 hg9
                have hc9 := Cut.step CTx hg9 ho9
                rw [HLX.out] at hc9
                have box9 := (Cut.grid CTx hg9).1
                have HB9 := HBx.grown hg9 HBx.size (fun k hk => (ownG_lt CTx.g k hk).1)
                refine ⟨KEEP.out _ HB9, ?_⟩
                clear ho9 hg9
                simp only [Act.put, List.setIfInBounds_toArray, List.set_cons_zero, List.set_cons_succ]
                have hHeld := KEEP.out _ HB9
                refine take_at (i := 10) 45 (v := .pointer (some ⟨bx, 0, none⟩)) rfl (by kernel_rfl) (by kernel_rfl) (by kernel_rfl) rfl (fun _ _ _ h => h) (by rfl) (fun w hSw => ?_) hHeld ?_
                · (try dsimp only at hSw); go_simp
                simp only [Act.put, List.setIfInBounds_toArray, List.set_cons_zero, List.set_cons_succ]
                refine wpAnyH_ready (rs := [11]) (by kernel_rfl) (by simp) ?_
                refine node_store22 45 44 _ _ _ _ _ _ _ rfl rfl rfl rfl rfl rfl box9 (KEEP.out _ (HB9.setCell (p := ⟨bx, 0, none⟩) hbB _)) ?_ AllReadyH.nil
                refine wpAnyH_done (by kernel_rfl) ?_ _
                have HC9 := hid hc9
                have HBN := hid (HB9.setCell (p := ⟨bx, 0, none⟩) hbB (.slice sa sn sc))
                clear hc9 box9 HB9 CTx HBx HTx hzx
                go_wp2_with fail
                go_roundw
                case rel => exact ⟨i + 1, sn, sa, sc, by go_num, by omega, HC9, HBN⟩
                case measure => simp [intOf]; omega
      · obtain rfl : i = T := by omega
        have hk1 := (HRW.out.block (w.heap.size + 1) hlw).trans K1.out
        obtain ⟨g1, g2, g3⟩ := cells3_of hk1
        obtain ⟨l1, l2, l3⟩ := free3_of hk1
        have hkl : w.heap.size + 1 < wr.heap.size := by have := HRW.out.size; omega
        have HTE : Hid (o.safe.take i = o.safe.take 5) := by
          have h1 := HP.out
          show _ = _
          rw [List.take_eq_take_iff]; omega
        by_cases hiP : i < P
        all_goals
          go_wp2_with fail
          obtain ⟨q0, q1, q2⟩ := cells3_of (store3 (x := .slice a n c) (y := .slice a1 n1 c1) (z := .slice a2 n2 c2) hk1)
          refine bodyPost_ret (v := .agg #[.slice a n c, .slice a1 n1 c1, .slice a2 n2 c2]) (by simp [results, Tryd.results14, go_sem, q0, q1, q2]) rfl ?_
          refine ⟨_, _, _, rfl, ?_, ?_⟩
          · have hc3 := (((CT.out.set (a := ⟨w.heap.size + 1, 0, none⟩) hlw (.slice a n c)).set (a := ⟨w.heap.size + 1, 1, none⟩) hlw (.slice a1 n1 c1)).set (a := ⟨w.heap.size + 1, 2, none⟩) hlw (.slice a2 n2 c2))
            rw [HTE.out] at hc3
            exact hc3.own (by omega)
          · exact below_store3 (HB.out.trans (HRW.out.mono HB.out.size)) (by omega)
theorem cut_any (vs vm vj : Value) (o : Ov) (w : World) (ho : ArgOv w vs vm vj o) :
    Calls Tryd.prog 14 #[.agg #[vs, vm, vj]] w fun e w' => ∃ vs' vm' vj', e = .returned (.agg #[vs', vm', vj']) ∧ IsOv w' vs' vm' vj' (cutOv o) ∧ Below w.heap.size w w' := by
  refine (cut_own vs vm vj o w ho).mono ?_
  rintro e w' ⟨a, b, c, h1, h2, h3⟩
  exact ⟨a, b, c, h1, cutOv_isOv h2, h3⟩
end Go.Proofs.YtjonbhimbhidpaaDoor
