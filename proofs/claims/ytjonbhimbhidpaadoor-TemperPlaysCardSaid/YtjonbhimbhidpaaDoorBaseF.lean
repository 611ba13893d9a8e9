/-
  Arguments of any length; appends of parts of them in regions that draw their order.
-/
import Derived.Test.YtjonbhimbhidpaaDoorWalkW
namespace Go.Proofs.YtjonbhimbhidpaaDoor
open Go.RowKit

/-- the value src reads as m elements, of size cells each -/
def Rd (w : World) (src : Value) (m size : Nat) (us : List Value) : Prop :=
  us.length = m * size ∧ (∀ u ∈ us, u.oneCell' = true) ∧ ((src = .slice none 0 0 ∧ m = 0) ∨ ∃ ad c, src = .slice (some ad) m c ∧ (0 < us.length → ad.block < w.heap.size) ∧ ∀ j u, us[j]? = some u → w.cell? (ad.add j) = some u)
theorem rd_below {w w' : World} {src : Value} {m size : Nat} {us : List Value} (h : Rd w src m size us) (hb : Below w.heap.size w w') : Rd w' src m size us := by
  obtain ⟨h1, h2, h3⟩ := h
  refine ⟨h1, h2, h3.imp_right ?_⟩
  rintro ⟨ad, c, rfl, hlt, hc⟩
  exact ⟨ad, c, rfl, fun h0 => Nat.lt_of_lt_of_le (hlt h0) hb.size, fun j u hj => (hb.cell (by rw [add_block]; exact hlt (by have := (List.getElem?_eq_some_iff.1 hj).1; omega))).trans (hc j u hj)⟩
theorem row_of_block {w : World} {B g size : Nat} {e : TypeId} (h : w.heap[g]? = some (.cells #[] e)) (hB : B ≤ g) : w.ownsRow B e size (.slice (some ⟨g, 0, none⟩) 0 0) 0 [] :=
  ⟨by simp, .inr ⟨g, 0, #[], rfl, hB, h, Nat.le_refl _, by decide, by simp, by simp⟩⟩
/-- append of some elements to an empty slice, at a step of a region that draws its order -/
theorem step_app {ops : Array Oper} {o : Oper} {a : Act} {K : Act → World → Prop} {Q : Exit → Act → World → Prop} {E : Prop} {W : World}
    (B : Nat) (s x : Operand) (t e : TypeId) (z : Value) (size bytes : Nat) (hi : (Tryd.prog.info? e).map (fun i => (i.zero, i.size, i.bytes)) = some (some z, size, bytes)) (hz : z.cells.size = size) (hsz : 0 < size)
    (ht : Tryd.prog.underlying t = some (.slice e)) (g m : Nat) (us : List Value) (src : Value)
    (hgd : o.guard = none) (ho : o.op = .call { callee := .builtin .append, args := #[s, x], argTypes := #[t, t] })
    (hs : a.eval s = .slice (some ⟨g, 0, none⟩) 0 0) (hx : a.eval x = src) (hsrc : Rd W src m size us) (hg : W.heap[g]? = some (.cells #[] e)) (hB : B ≤ g)
    (hlen : m * bytes ≤ 100000000 ∧ m ≤ 1000000)
    (h : ∀ sa sn sc w', Hid (w'.ownsRow B e size (.slice sa sn sc) m us) → Hid (W.grownBy w' (some g)) → K (a.put o.dst (.slice sa sn sc)) w') :
    if Region.wanted o (yielded ops a.tmps) = true then Oper.wp Tryd.prog o a W K Q else E := by
  have hw : Region.wanted o (yielded ops a.tmps) = true := by simp [Region.wanted, hgd]
  rw [if_pos hw]
  cases hi0 : Tryd.prog.info? e with
  | none => rw [hi0] at hi; cases hi
  | some i =>
    rw [hi0] at hi
    simp only [Option.map_some, Option.some.injEq, Prod.mk.injEq] at hi
    obtain ⟨h1, h2, h3⟩ := hi
    have hown : W.ownsRow B e size (.slice (some ⟨g, 0, none⟩) 0 0) 0 [] := row_of_block hg hB
    have hgl := heap_lt hg
    obtain ⟨r1, r2, ⟨rfl, rfl⟩ | ⟨ad, c, rfl, hlt, hc⟩⟩ := hsrc
    · have hr := run_append_owned_none (P := Tryd.prog) W B t o.type e i size ht hi0 _ 0 [] hown
      unfold Oper.wp execOp
      simp only [ho, resolve, invoke, builtin, Sem.run_bind, Sem.run_pure, Result.andThen_ok, List.map_toArray, List.map_cons, List.map_nil, hs, hx, hr]
      have hus : us = [] := List.length_eq_zero_iff.1 (by simpa using r1)
      subst hus
      exact h _ _ _ _ hown ⟨rfl, rfl, rfl, Nat.le_refl _, fun _ _ _ => rfl⟩
    · refine wp_append_own W s x t ho B e i z size bytes ht hi0 h1 h2 h3 hz hsz _ 0 [] hs hown ad m c us hx r1 hc r2 (by unfold maxLen; omega) (by rw [Nat.zero_add]; have := hlen.1; omega) (by omega) ?_
      intro v' w' hv hgr _
      rw [Nat.zero_add, List.nil_append] at hv
      obtain ⟨sa, sc, rfl⟩ := row_slice hv
      exact h _ _ _ _ hv hgr

def mcells (ms : List Mv) : List Value := ms.flatMap fun m => [.int .i64 m.1, .int .i64 m.2.1, .int .i64 m.2.2.1, .int .i64 m.2.2.2]
def jcells (js : List (Int × Int)) : List Value := js.flatMap fun j => [.int .i64 j.1, .int .i64 j.2]
theorem mcells_len (ms : List Mv) : (mcells ms).length = ms.length * 4 := by
  induction ms with
  | nil => rfl
  | cons a ms ih => simp only [mcells, List.flatMap_cons, List.length_append, List.length_cons, List.length_nil] at *; omega
theorem jcells_len (js : List (Int × Int)) : (jcells js).length = js.length * 2 := by
  induction js with
  | nil => rfl
  | cons a js ih => simp only [jcells, List.flatMap_cons, List.length_append, List.length_cons, List.length_nil] at *; omega
theorem mcells_take (ms : List Mv) (k : Nat) : mcells (ms.take k) = (mcells ms).take (k * 4) := by
  induction ms generalizing k with
  | nil => simp [mcells]
  | cons a ms ih =>
    cases k with
    | zero => simp [mcells]
    | succ k =>
      have := ih k
      simp only [mcells, List.take_succ_cons, List.flatMap_cons] at this ⊢
      rw [this, show (k + 1) * 4 = k * 4 + 4 by omega]
      simp
theorem jcells_take (js : List (Int × Int)) (k : Nat) : jcells (js.take k) = (jcells js).take (k * 2) := by
  induction js generalizing k with
  | nil => simp [jcells]
  | cons a js ih =>
    cases k with
    | zero => simp [jcells]
    | succ k =>
      have := ih k
      simp only [jcells, List.take_succ_cons, List.flatMap_cons] at this ⊢
      rw [this, show (k + 1) * 2 = k * 2 + 2 by omega]
      simp
theorem mcells_one (ms : List Mv) : ∀ u ∈ mcells ms, u.oneCell' = true := by
  intro u hu
  unfold mcells at hu
  rw [List.mem_flatMap] at hu
  obtain ⟨m, _, hm⟩ := hu
  simp at hm
  rcases hm with rfl | rfl | rfl | rfl <;> rfl
theorem jcells_one (js : List (Int × Int)) : ∀ u ∈ jcells js, u.oneCell' = true := by
  intro u hu
  unfold jcells at hu
  rw [List.mem_flatMap] at hu
  obtain ⟨m, _, hm⟩ := hu
  simp at hm
  rcases hm with rfl | rfl <;> rfl
theorem mcells_at (ms : List Mv) : ∀ i, i < ms.length → (mcells ms)[i * 4]? = some (.int .i64 (mvAt ms i).1) ∧ (mcells ms)[i * 4 + 1]? = some (.int .i64 (mvAt ms i).2.1) ∧ (mcells ms)[i * 4 + 2]? = some (.int .i64 (mvAt ms i).2.2.1) ∧ (mcells ms)[i * 4 + 3]? = some (.int .i64 (mvAt ms i).2.2.2) := by
  induction ms with
  | nil => intro i h; simp at h
  | cons a ms ih =>
    intro i h
    cases i with
    | zero => simp [mcells, mvAt]
    | succ i =>
      have := ih i (by simpa using h)
      have e1 : (i + 1) * 4 = i * 4 + 4 := by omega
      have h2 : mvAt (a :: ms) (i + 1) = mvAt ms i := by simp [mvAt]
      rw [e1, h2]
      simpa [mcells] using this
theorem jcells_at (js : List (Int × Int)) : ∀ i, i < js.length → (jcells js)[i * 2]? = some (.int .i64 (jlAt js i).1) ∧ (jcells js)[i * 2 + 1]? = some (.int .i64 (jlAt js i).2) := by
  induction js with
  | nil => intro i h; simp at h
  | cons a js ih =>
    intro i h
    cases i with
    | zero => simp [jcells, jlAt]
    | succ i =>
      have := ih i (by simpa using h)
      have e1 : (i + 1) * 2 = i * 2 + 2 := by omega
      have h2 : jlAt (a :: js) (i + 1) = jlAt js i := by simp [jlAt]
      rw [e1, h2]
      simpa [jcells] using this
theorem row_isMv {w : World} {B : Nat} {v : Value} {ms : List Mv} (h : w.ownsRow B 53 4 v ms.length (mcells ms)) (hl : ms.length ≤ 1000000) : IsMv w v ms := by
  obtain ⟨h1, h2 | ⟨g, cap, cur, rfl, hB, hh, hn, hm, hs, ht⟩⟩ := h
  · obtain ⟨rfl, h0⟩ := h2
    refine ⟨none, 0, by rw [h0], by omega, fun i hi => by omega⟩
  · refine ⟨_, cap, rfl, hl, fun i hi => ⟨g, rfl, ?_⟩⟩
    obtain ⟨c0, c1, c2, c3⟩ := mcells_at ms i hi
    have hc : ∀ j, j < ms.length * 4 → w.cell? ⟨g, j, none⟩ = (mcells ms)[j]? := by
      intro j hj
      rw [← ht, List.getElem?_take, if_pos hj, World.cell?, hh]
      simp
    exact ⟨by rw [hc _ (by omega)]; exact c0, by rw [hc _ (by omega)]; exact c1, by rw [hc _ (by omega)]; exact c2, by rw [hc _ (by omega)]; exact c3⟩
theorem row_isJl {w : World} {B : Nat} {v : Value} {js : List (Int × Int)} (h : w.ownsRow B 55 2 v js.length (jcells js)) (hl : js.length ≤ 1000000) : IsJl w v js := by
  obtain ⟨h1, h2 | ⟨g, cap, cur, rfl, hB, hh, hn, hm, hs, ht⟩⟩ := h
  · obtain ⟨rfl, h0⟩ := h2
    refine ⟨none, 0, by rw [h0], by omega, fun i hi => by omega⟩
  · refine ⟨_, cap, rfl, hl, fun i hi => ⟨g, rfl, ?_⟩⟩
    obtain ⟨c0, c1⟩ := jcells_at js i hi
    have hc : ∀ j, j < js.length * 2 → w.cell? ⟨g, j, none⟩ = (jcells js)[j]? := by
      intro j hj
      rw [← ht, List.getElem?_take, if_pos hj, World.cell?, hh]
      simp
    exact ⟨by rw [hc _ (by omega)]; exact c0, by rw [hc _ (by omega)]; exact c1⟩
theorem info53 : (Tryd.prog.info? 53).map (fun i => (i.zero, i.size, i.bytes)) = some (some (.agg #[.int .i64 0, .int .i64 0, .int .i64 0, .int .i64 0]), 4, 32) := by kernel_rfl
theorem info55 : (Tryd.prog.info? 55).map (fun i => (i.zero, i.size, i.bytes)) = some (some (.agg #[.int .i64 0, .int .i64 0]), 2, 16) := by kernel_rfl

/-- an argument that is a list of moves ¦ of jolts ¦ of rows of strings -/
def ArgMv (w : World) (v : Value) (ms : List Mv) : Prop := ms.length ≤ maxLen ∧ ∃ a c, v = .slice a ms.length c ∧ ms.length ≤ c ∧ c ≤ maxLen ∧ ((a = none ∧ c = 0) ∨ ∃ ad, a = some ad ∧ (0 < ms.length → ad.block < w.heap.size) ∧ ∀ j u, (mcells ms)[j]? = some u → w.cell? (ad.add j) = some u)
def ArgJl (w : World) (v : Value) (js : List (Int × Int)) : Prop := js.length ≤ maxLen ∧ ∃ a c, v = .slice a js.length c ∧ js.length ≤ c ∧ c ≤ maxLen ∧ ((a = none ∧ c = 0) ∨ ∃ ad, a = some ad ∧ (0 < js.length → ad.block < w.heap.size) ∧ ∀ j u, (jcells js)[j]? = some u → w.cell? (ad.add j) = some u)
def ArgGrid (w : World) (v : Value) (g : Grid) : Prop :=
  ∃ a c, v = .slice a g.length c ∧ g.length ≤ maxLen ∧ ∀ i, i < g.length → ∃ ad u, a = some ad ∧ ad.block < w.heap.size ∧ w.cell? (ad.add i) = some u ∧ ArgStrs w u (g.getD i [])
structure ArgOv (w : World) (vs vm vj : Value) (o : Ov) : Prop where
  safe : ArgGrid w vs o.safe
  moves : ArgMv w vm o.moves
  jolts : ArgJl w vj o.jolts
theorem rd_mv {w : World} {ad : Addr} {c : Nat} {ms : List Mv} (k : Nat) (hlt : 0 < ms.length → ad.block < w.heap.size) (h : ∀ j u, (mcells ms)[j]? = some u → w.cell? (ad.add j) = some u) (hk : k = min ms.length 17) : Rd w (.slice (some ad) k c) k 4 (mcells (ms.take 17)) := by
  refine ⟨by rw [mcells_len, List.length_take, hk, Nat.min_comm], mcells_one _, .inr ⟨ad, c, rfl, fun h0 => hlt (by rw [mcells_len, List.length_take] at h0; omega), fun j u hj => h j u ?_⟩⟩
  rw [mcells_take, List.getElem?_take] at hj
  split at hj
  · exact hj
  · cases hj
theorem rd_jl {w : World} {ad : Addr} {c : Nat} {js : List (Int × Int)} (k : Nat) (hlt : 0 < js.length → ad.block < w.heap.size) (h : ∀ j u, (jcells js)[j]? = some u → w.cell? (ad.add j) = some u) (hk : k = min js.length 5) : Rd w (.slice (some ad) k c) k 2 (jcells (js.take 5)) := by
  refine ⟨by rw [jcells_len, List.length_take, hk, Nat.min_comm], jcells_one _, .inr ⟨ad, c, rfl, fun h0 => hlt (by rw [jcells_len, List.length_take] at h0; omega), fun j u hj => h j u ?_⟩⟩
  rw [jcells_take, List.getElem?_take] at hj
  split at hj
  · exact hj
  · cases hj
theorem rd_nil (w : World) (size : Nat) : Rd w (.slice none 0 0) 0 size [] := ⟨by simp, by simp, .inl ⟨rfl, rfl⟩⟩
end Go.Proofs.YtjonbhimbhidpaaDoor
