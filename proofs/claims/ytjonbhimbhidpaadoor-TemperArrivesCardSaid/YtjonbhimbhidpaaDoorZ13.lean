/-
  Plain facts of chapter 6: more moves, fewer jolts, more safe cells: a greater kernel; the kernel holds.
  Plain facts of chapter 6: in how many steps a cell is lost, by what the moves leave.
  Plain facts of chapter 6: the cells to which one comes by the first moves that stay in the kernel.
  Words for the walks over chapter 6: the region in which a cell moves on, operation by operation.
  Walks over chapter 6: the cells to which one comes.
  Words for the walks over chapter 6: the region in which a statement cuts an oven and a list of numbers, operation by operation.
  Words for the walks over chapter 6: the region in which a statement moves a cell on, operation by operation.
  Walks over chapter 6: an oven is made of numbers.
  Words for the walks over chapter 6: append of one element of any size, in a region by hand.
  Words for the walks over chapter 6: moves and jolts are put into an oven in the making, operation by operation.
  What the frame tells of the numbers that an oven is made of.
-/
import Derived.Test.YtjonbhimbhidpaaDoorZ12
import Derived.Deep.CutBlock
import Derived.Laws.IdiomArrays
import Derived.OpenShut
namespace Go.Proofs.YtjonbhimbhidpaaDoor
theorem canM_mono {o o' : Ov} {S T : Sp → Bool} (hm : ∀ m ∈ o.moves, m ∈ o'.moves) (hj : ∀ j ∈ o'.jolts, j ∈ o.jolts) (hST : ∀ c, S c = true → T c = true) (c : Sp) (h : o.canM S c = true) : o'.canM T c = true := by
  unfold Ov.canM at h ⊢
  rw [List.any_eq_true] at h ⊢
  obtain ⟨m, h1, h2⟩ := h
  refine ⟨m, hm m h1, ?_⟩
  unfold Ov.leads at h2 ⊢
  rw [Bool.and_eq_true, List.all_eq_true] at h2 ⊢
  exact ⟨h2.1, fun j hj' => hST _ (h2.2 j (hj j hj'))⟩
theorem K_mono {o o' : Ov} (h0 : ∀ c, o.K 0 c = true → o'.K 0 c = true) (hm : ∀ m ∈ o.moves, m ∈ o'.moves) (hj : ∀ j ∈ o'.jolts, j ∈ o.jolts) : ∀ k c, o.K k c = true → o'.K k c = true
  | 0, c, h => h0 c h
  | k + 1, c, h => by
    simp only [Ov.K, Bool.and_eq_true] at h ⊢
    exact ⟨K_mono h0 hm hj k c h.1, canM_mono hm hj (K_mono h0 hm hj k) c h.2⟩
theorem KK_all {o : Ov} {c : Sp} (h : o.KK c = true) (k : Nat) : o.K k c = true := by
  rcases Nat.le_total k o.N with hk | hk
  · exact K_le o hk c h
  · rw [still_up o (still_N o) k hk]; exact h
theorem KK_mono {o o' : Ov} (h0 : ∀ c, o.K 0 c = true → o'.K 0 c = true) (hm : ∀ m ∈ o.moves, m ∈ o'.moves) (hj : ∀ j ∈ o'.jolts, j ∈ o.jolts) (c : Sp) (h : o.KK c = true) : o'.KK c = true :=
  K_mono h0 hm hj o'.N c (KK_all h o'.N)
/-- what a set of cells wants to hold -/
theorem holds_gridOf {o : Ov} {S : Sp → Bool} (hex : ∀ c, S c = true → o.ex c = true) (hs : ∀ c, S c = true → inG o.safe c = true) (hm : ∀ c, S c = true → o.canM S c = true) : o.holds (o.gridOf S) = true := by
  unfold Ov.holds
  rw [List.all_eq_true]
  intro c hc
  rw [List.mem_filter, mem_cells] at hc
  have hS : S c = true := by rw [← inG_gridOf o S c hc.1]; exact hc.2
  unfold Ov.good
  rw [exIn_gridOf o S hex, hs c hS, hm c hS]
  rfl
/-- the kernel holds -/
theorem holds_KK (o : Ov) : o.holds (o.gridOf o.KK) = true := holds_gridOf (KK_ex o) (KK_safe o) (KK_move o)
/-- a set that holds lies in the kernel -/
theorem KK_greatest {o : Ov} {S : Sp → Bool} (hex : ∀ c, S c = true → o.ex c = true) (hs : ∀ c, S c = true → inG o.safe c = true) (hm : ∀ c, S c = true → o.canM S c = true) : ∀ k c, S c = true → o.K k c = true
  | 0, c, h => by simp only [Ov.K, Bool.and_eq_true]; exact ⟨hex c h, hs c h⟩
  | k + 1, c, h => by
    simp only [Ov.K, Bool.and_eq_true]
    exact ⟨KK_greatest hex hs hm k c h, canM_mono (fun _ h => h) (fun _ h => h) (KK_greatest hex hs hm k) c (hm c h)⟩
/-- the kernel of an oven whose safe cells are the kernel is the kernel -/
theorem KK_again {o o' : Ov} (h0 : ∀ c, o'.K 0 c = o.KK c) (hm : o'.moves = o.moves) (hj : o'.jolts = o.jolts) (c : Sp) : o'.KK c = o.KK c := by
  rw [Bool.eq_iff_iff]
  constructor
  · intro h
    have := KK_all h 0
    rwa [h0] at this
  · intro h
    refine KK_greatest (o := o') (S := o.KK) (fun d hd => ?_) (fun d hd => ?_) (fun d hd => ?_) o'.N c h
    · have h1 := h0 d
      rw [hd] at h1
      simp only [Ov.K, Bool.and_eq_true] at h1
      exact h1.1
    · have h1 := h0 d
      rw [hd] at h1
      simp only [Ov.K, Bool.and_eq_true] at h1
      exact h1.2
    · have h1 := KK_move o d hd
      unfold Ov.canM Ov.leads at h1 ⊢
      rw [hm, hj]
      exact h1
/-! ### The mirror -/
def mirC (C : Int) (c : Sp) : Sp := (c.1, C - 1 - c.2.1, c.2.2)
def negM (m : Mv) : Mv := (m.1, m.2.1, -m.2.2.1, m.2.2.2)
def negJ (j : Int × Int) : Int × Int := (-j.1, j.2)
theorem step_mirror (C : Int) (c : Sp) (m : Mv) (j : Int × Int) : stepOf (mirC C c) (negM m) (negJ j) = mirC C (stepOf c m j) := by
  unfold stepOf mirC negM negJ
  simp only [Prod.mk.injEq, true_and, and_true]
  omega
theorem canM_mirror {o o' : Ov} {S T : Sp → Bool} (C : Int) (hm : o'.moves = o.moves.map negM) (hj : o'.jolts = o.jolts.map negJ) (h : ∀ d, T (mirC C d) = S d) (c : Sp) : o'.canM T (mirC C c) = o.canM S c := by
  unfold Ov.canM
  rw [hm, List.any_map]
  refine congrArg (fun f => o.moves.any f) (funext fun m => ?_)
  simp only [Function.comp]
  unfold Ov.leads
  rw [hj, List.all_map]
  have e : (fun j => T (stepOf (mirC C c) (negM m) j)) ∘ negJ = fun j => S (stepOf c m j) := by
    funext j
    simp only [Function.comp]
    rw [step_mirror, h]
  rw [e]
  rfl
theorem K_mirror {o o' : Ov} (C : Int) (hm : o'.moves = o.moves.map negM) (hj : o'.jolts = o.jolts.map negJ) (h0 : ∀ c, o'.K 0 (mirC C c) = o.K 0 c) : ∀ k c, o'.K k (mirC C c) = o.K k c
  | 0, c => h0 c
  | k + 1, c => by
    simp only [Ov.K]
    rw [K_mirror C hm hj h0 k c, canM_mirror C hm hj (K_mirror C hm hj h0 k) c]
theorem KK_mirror {o o' : Ov} (C : Int) (hm : o'.moves = o.moves.map negM) (hj : o'.jolts = o.jolts.map negJ) (h0 : ∀ c, o'.K 0 (mirC C c) = o.K 0 c) (c : Sp) : o'.KK (mirC C c) = o.KK c := by
  rw [Bool.eq_iff_iff]
  constructor
  · intro h
    have := KK_all h o.N
    rw [K_mirror C hm hj h0] at this
    exact this
  · intro h
    have := KK_all h o'.N
    rw [← K_mirror C hm hj h0] at this
    exact this
end Go.Proofs.YtjonbhimbhidpaaDoor

namespace Go.Proofs.YtjonbhimbhidpaaDoor
/-- what a cell to which one comes counts: 0 outside, -1 in the kernel -/
def Ov.valD (o : Ov) (d : Sp) : Int := if o.ex d = true then (match o.LL d with | some j => (j : Int) | none => -1) else 0
def Ov.worstF (o : Ov) (c : Sp) (m : Mv) (w : Int) (j : Int × Int) : Int := if 0 ≤ o.valD (stepOf c m j) then min w (o.valD (stepOf c m j)) else w
def Ov.worst (o : Ov) (c : Sp) (m : Mv) : Int := o.jolts.foldl (o.worstF c m) 1000000
def Ov.bestF (o : Ov) (c : Sp) (b : Int) (m : Mv) : Int := if m.1 = c.1 then max b (o.worst c m) else b
def Ov.best (o : Ov) (c : Sp) : Int := o.moves.foldl (o.bestF c) 0
theorem K_val (o : Ov) (k : Nat) (d : Sp) : o.K k d = true ↔ (o.valD d < 0 ∨ (k : Int) < o.valD d) := by
  unfold Ov.valD
  cases hex : o.ex d with
  | false =>
    have h : o.K k d ≠ true := fun h => by rw [K_ex o k d h] at hex; cases hex
    simp [h]
  | true =>
    rw [if_pos rfl]
    cases hl : o.LL d with
    | none =>
      have := KK_all ((LL_none o d).1 hl) k
      simp [this]
    | some j =>
      obtain ⟨_, h1, h2⟩ := (lost_some o o.N d j).1 hl
      constructor
      · intro h
        refine .inr ?_
        by_cases hk : k < j
        · show (k : Int) < (j : Int)
          omega
        · rw [K_le o (by omega : j ≤ k) d h] at h1; cases h1
      · rintro (h | h)
        · exact absurd h (by show ¬ ((j : Nat) : Int) < 0; omega)
        · exact h2 k (by have h' : (k : Int) < (j : Int) := h; omega)
theorem worst_gt (o : Ov) (c : Sp) (m : Mv) (k : Nat) : ∀ (js : List (Int × Int)) (w : Int), ((k : Int) < js.foldl (o.worstF c m) w ↔ (k : Int) < w ∧ ∀ j ∈ js, o.K k (stepOf c m j) = true)
  | [], w => by simp
  | j :: js, w => by
    rw [List.foldl_cons, worst_gt o c m k js]
    have hk := K_val o k (stepOf c m j)
    have e : (k : Int) < o.worstF c m w j ↔ (k : Int) < w ∧ o.K k (stepOf c m j) = true := by
      rw [hk]
      unfold Ov.worstF
      split <;> omega
    rw [e]
    simp only [List.mem_cons, forall_eq_or_imp, and_assoc]
theorem best_gt (o : Ov) (c : Sp) (k : Nat) : ∀ (ms : List Mv) (b : Int), ((k : Int) < ms.foldl (o.bestF c) b ↔ (k : Int) < b ∨ ∃ m ∈ ms, m.1 = c.1 ∧ (k : Int) < o.worst c m)
  | [], b => by simp
  | m :: ms, b => by
    rw [List.foldl_cons, best_gt o c k ms]
    have e : (k : Int) < o.bestF c b m ↔ (k : Int) < b ∨ (m.1 = c.1 ∧ (k : Int) < o.worst c m) := by
      unfold Ov.bestF
      split
      · rename_i h
        simp only [h, true_and]
        omega
      · rename_i h
        simp only [h, false_and, or_false]
    rw [e]
    simp only [List.mem_cons, exists_eq_or_imp, or_assoc]
theorem best_canM (o : Ov) (c : Sp) (k : Nat) (hk : k < 1000000) : (k : Int) < o.best c ↔ o.canM (o.K k) c = true := by
  unfold Ov.best
  rw [best_gt]
  unfold Ov.canM
  rw [List.any_eq_true]
  constructor
  · rintro (h | ⟨m, h1, h2, h3⟩)
    · omega
    · refine ⟨m, h1, ?_⟩
      unfold Ov.worst at h3
      rw [worst_gt] at h3
      unfold Ov.leads
      rw [Bool.and_eq_true, List.all_eq_true]
      exact ⟨by simpa using h2, h3.2⟩
  · rintro ⟨m, h1, h2⟩
    unfold Ov.leads at h2
    rw [Bool.and_eq_true, List.all_eq_true] at h2
    refine .inr ⟨m, h1, by simpa using h2.1, ?_⟩
    unfold Ov.worst
    rw [worst_gt]
    exact ⟨by omega, h2.2⟩
theorem best_ge (o : Ov) (c : Sp) : ∀ (ms : List Mv) (b : Int), 0 ≤ b → 0 ≤ ms.foldl (o.bestF c) b
  | [], b, h => h
  | m :: ms, b, h => by
    rw [List.foldl_cons]
    refine best_ge o c ms _ ?_
    unfold Ov.bestF
    split <;> omega
/-- T4 -/
theorem best_lost {o : Ov} {c : Sp} {j : Nat} (hN : o.N < 1000000) (h : o.LL c = some (j + 1)) : o.best c = (j : Int) := by
  obtain ⟨h0, h1, h2⟩ := (lost_some o o.N c (j + 1)).1 h
  have hj := h2 j (by omega)
  have a1 : ¬ (j : Int) < o.best c := by
    rw [best_canM o c j (by omega)]
    intro hc
    simp only [Ov.K, hj, hc, Bool.and_self] at h1
    cases h1
  have a2 : 0 ≤ o.best c := best_ge o c o.moves 0 (by omega)
  rcases Nat.eq_zero_or_pos j with rfl | hp
  · omega
  · obtain ⟨i, rfl⟩ : ∃ i, j = i + 1 := ⟨j - 1, by omega⟩
    simp only [Ov.K, Bool.and_eq_true] at hj
    have a3 := (best_canM o c i (by omega)).2 hj.2
    omega
end Go.Proofs.YtjonbhimbhidpaaDoor

namespace Go.Proofs.YtjonbhimbhidpaaDoor
theorem firstMove_spec (o : Ov) (S : Sp → Bool) (c : Sp) : ∀ (ms : List Mv) (k : Nat), ms.any (o.leads S c) = true → ∃ i, ∃ h : i < ms.length, firstMove o S c k ms = ((k + i : Nat) : Int) ∧ o.leads S c ms[i] = true
  | [], k, h => by simp at h
  | m :: ms, k, h => by
    unfold firstMove
    by_cases hm : o.leads S c m = true
    · exact ⟨0, by simp, by rw [if_pos hm]; rfl, hm⟩
    · rw [List.any_cons, Bool.or_eq_true] at h
      obtain ⟨i, hi, h1, h2⟩ := firstMove_spec o S c ms (k + 1) (h.resolve_left hm)
      exact ⟨i + 1, by simpa using hi, by rw [if_neg hm, h1]; congr 1; omega, by simpa using h2⟩
theorem move_specK (o : Ov) (S : Sp → Bool) (c : Sp) (h : o.canM S c = true) : ∃ i, ∃ hi : i < o.moves.length, o.move S c = (i : Int) ∧ o.leads S c o.moves[i] = true := by
  obtain ⟨i, hi, h1, h2⟩ := firstMove_spec o S c o.moves 0 h
  exact ⟨i, hi, by unfold Ov.move; rw [h1, Nat.zero_add], h2⟩
/-- the cell to which one comes by the kernel's first move, under a jolt -/
def Ov.nextK (o : Ov) (s : Sp) (j : Int) : Sp := stepOf s (o.moves.getD (o.move o.KK s).toNat (0, 0, 0, 0)) (o.jolts.getD j.toNat (0, 0))
/-- the cell behind some jolts -/
def Ov.walk (o : Ov) (s : Sp) (js : List Int) (i : Nat) : Sp := (js.take i).foldl o.nextK s
/-- all cells to which one comes -/
def Ov.play (o : Ov) (s : Sp) (js : List Int) : List Sp := (List.range js.length).map fun i => o.walk s js (i + 1)
def Ov.jok (o : Ov) (j : Int) : Bool := decide (0 ≤ j ∧ j < (o.jolts.length : Int))
theorem walk_zero (o : Ov) (s : Sp) (js : List Int) : o.walk s js 0 = s := rfl
theorem walk_succ (o : Ov) (s : Sp) (js : List Int) (i : Nat) (h : i < js.length) : o.walk s js (i + 1) = o.nextK (o.walk s js i) (js.getD i 0) := by
  unfold Ov.walk
  rw [List.take_succ_eq_append_getElem h, List.foldl_append, List.getD_eq_getElem?_getD, List.getElem?_eq_getElem h]
  rfl
theorem play_len (o : Ov) (s : Sp) (js : List Int) : (o.play s js).length = js.length := by simp [Ov.play]
theorem play_take (o : Ov) (s : Sp) (js : List Int) (i : Nat) (h : i < js.length) : (o.play s js).take (i + 1) = (o.play s js).take i ++ [o.walk s js (i + 1)] := by
  have hl : i < (o.play s js).length := by rw [play_len]; exact h
  rw [List.take_succ_eq_append_getElem hl]
  simp [Ov.play]
theorem nextK_spec (o : Ov) (s : Sp) (j : Int) (hs : o.KK s = true) (hj : o.jok j = true) :
    ∃ (m n : Nat) (hm : m < o.moves.length) (hn : n < o.jolts.length), o.move o.KK s = (m : Int) ∧ j = (n : Int) ∧ o.nextK s j = stepOf s o.moves[m] o.jolts[n] ∧ o.KK (o.nextK s j) = true := by
  obtain ⟨m, hm, h1, h2⟩ := move_specK o o.KK s (KK_move o s hs)
  unfold Ov.jok at hj
  rw [decide_eq_true_eq] at hj
  have hn : j.toNat < o.jolts.length := by omega
  have e : o.nextK s j = stepOf s o.moves[m] o.jolts[j.toNat] := by
    unfold Ov.nextK
    rw [h1, Int.toNat_natCast, List.getD_eq_getElem?_getD, List.getElem?_eq_getElem hm, List.getD_eq_getElem?_getD, List.getElem?_eq_getElem hn]
    rfl
  refine ⟨m, j.toNat, hm, hn, h1, by omega, e, ?_⟩
  rw [e]
  unfold Ov.leads at h2
  rw [Bool.and_eq_true, List.all_eq_true] at h2
  exact h2.2 _ (List.getElem_mem hn)
theorem walk_KK (o : Ov) (s : Sp) (js : List Int) (hs : o.KK s = true) (hj : js.all o.jok = true) : ∀ i, i ≤ js.length → o.KK (o.walk s js i) = true
  | 0, _ => hs
  | i + 1, h => by
    rw [walk_succ o s js i h]
    obtain ⟨_, _, _, _, _, _, _, hk⟩ := nextK_spec o (o.walk s js i) (js.getD i 0) (walk_KK o s js hs hj i (by omega)) (by
      rw [List.all_eq_true] at hj
      refine hj _ ?_
      rw [List.getD_eq_getElem?_getD, List.getElem?_eq_getElem h]
      exact List.getElem_mem h)
    exact hk
end Go.Proofs.YtjonbhimbhidpaaDoor

namespace Go.Proofs.YtjonbhimbhidpaaDoor
open Go.RowKit
section
variable {md : Region.Mode} {ops : Array Oper} {Q : Exit → Act → World → Prop} {S : World → Prop} {fuel : Nat} {listed : Array Bool} {a : Act} {w : World} {i : Nat} {o : Oper} {rs : List Nat}
theorem node_load87 (d k X : Nat) (x y z : Value) (hi : ops[i]? = some o) (hgd : o.guard = none) (ho : o.op = .load 87 (.tmp k)) (hd : o.dst = some d)
    (hp : a.tmps[k]?.getD undef = .pointer (some ⟨X, 0, none⟩)) (hh : w.heap[X]? = some (.cells #[x, y, z] 87)) (hS : S w)
    (h : wpAnyH Tryd.prog md ops Q S fuel (listed.setIfInBounds i true) (a.put (some d) (.agg #[x, y, z])) w)
    (hs : AllReadyH Tryd.prog md ops Q S fuel listed a w rs) : AllReadyH Tryd.prog md ops Q S fuel listed a w (i :: rs) := by
  refine AllReadyH.cons hi (fun K hK => ?_) hs
  have hw : Region.wanted o (yielded ops a.tmps) = true := by simp [Region.wanted, hgd]
  rw [if_pos hw]
  obtain ⟨k0, k1, k2⟩ := cells3_of hh
  have hk := hK.out _ _ hS (fun _ => h)
  unfold Oper.wp execOp
  simp [ho, go_sem, hp, k0, k1, k2]
  rw [hd]
  exact hk
theorem node_store87 (k j X : Nat) (x y z : Value) (x' y' z' : Int) (hi : ops[i]? = some o) (hgd : o.guard = none) (ho : o.op = .store 87 (.tmp k) (.tmp j)) (hd : o.dst = none)
    (hp : a.tmps[k]?.getD undef = .pointer (some ⟨X, 0, none⟩)) (hv : a.tmps[j]?.getD undef = .agg #[.int .i64 x', .int .i64 y', .int .i64 z'])
    (hh : w.heap[X]? = some (.cells #[x, y, z] 87)) (hS : S (((w.setCell ⟨X, 0, none⟩ (.int .i64 x')).setCell ⟨X, 1, none⟩ (.int .i64 y')).setCell ⟨X, 2, none⟩ (.int .i64 z')))
    (h : wpAnyH Tryd.prog md ops Q S fuel (listed.setIfInBounds i true) a (((w.setCell ⟨X, 0, none⟩ (.int .i64 x')).setCell ⟨X, 1, none⟩ (.int .i64 y')).setCell ⟨X, 2, none⟩ (.int .i64 z')))
    (hs : AllReadyH Tryd.prog md ops Q S fuel listed a w rs) : AllReadyH Tryd.prog md ops Q S fuel listed a w (i :: rs) := by
  refine AllReadyH.cons hi (fun K hK => ?_) hs
  have hw : Region.wanted o (yielded ops a.tmps) = true := by simp [Region.wanted, hgd]
  rw [if_pos hw]
  obtain ⟨k0, k1, k2⟩ := cells3_of hh
  obtain ⟨f0, f1, f2⟩ := free3_of hh
  have hk := hK.out _ _ hS (fun _ => h)
  unfold Oper.wp execOp
  simp [ho, go_sem, hp, hv, k0, k1, k2, f0, f1, f2]
  rw [hd]
  exact hk
theorem node_call46 (d k1 k2 k3 : Nat) (v1 v2 v3 : Value) (hi : ops[i]? = some o) (hgd : o.guard = none) (ho : o.op = .call { callee := .value (.func 46), args := #[.tmp k1, .tmp k2, .tmp k3], argTypes := #[85, 87, 95] }) (hd : o.dst = some d)
    (hp1 : a.tmps[k1]?.getD undef = v1) (hp2 : a.tmps[k2]?.getD undef = v2) (hp3 : a.tmps[k3]?.getD undef = v3)
    (h : Calls Tryd.prog 46 #[v1, v2, v3] w fun e w' => ∃ u, e = .returned u ∧ S w' ∧ wpAnyH Tryd.prog md ops Q S fuel (listed.setIfInBounds i true) (a.put (some d) u) w')
    (hs : AllReadyH Tryd.prog md ops Q S fuel listed a w rs) : AllReadyH Tryd.prog md ops Q S fuel listed a w (i :: rs) := by
  refine AllReadyH.cons hi (fun K hK => ?_) hs
  have hw : Region.wanted o (yielded ops a.tmps) = true := by simp [Region.wanted, hgd]
  rw [if_pos hw]
  unfold Oper.wp execOp
  simp [ho, go_sem, hp1, hp2, hp3]
  refine h.mono ?_
  rintro e w' ⟨u, rfl, h1, h2⟩
  have hk := hK.out _ _ h1 (fun _ => h2)
  rw [hd]
  exact hk
theorem node_call58 (d k1 k2 k3 k4 : Nat) (v1 v2 v3 v4 : Value) (hi : ops[i]? = some o) (hgd : o.guard = none) (ho : o.op = .call { callee := .value (.func 58), args := #[.tmp k1, .tmp k2, .tmp k3, .tmp k4], argTypes := #[85, 87, 3, 3] }) (hd : o.dst = some d)
    (hp1 : a.tmps[k1]?.getD undef = v1) (hp2 : a.tmps[k2]?.getD undef = v2) (hp3 : a.tmps[k3]?.getD undef = v3) (hp4 : a.tmps[k4]?.getD undef = v4)
    (h : Calls Tryd.prog 58 #[v1, v2, v3, v4] w fun e w' => ∃ u, e = .returned u ∧ S w' ∧ wpAnyH Tryd.prog md ops Q S fuel (listed.setIfInBounds i true) (a.put (some d) u) w')
    (hs : AllReadyH Tryd.prog md ops Q S fuel listed a w rs) : AllReadyH Tryd.prog md ops Q S fuel listed a w (i :: rs) := by
  refine AllReadyH.cons hi (fun K hK => ?_) hs
  have hw : Region.wanted o (yielded ops a.tmps) = true := by simp [Region.wanted, hgd]
  rw [if_pos hw]
  unfold Oper.wp execOp
  simp [ho, go_sem, hp1, hp2, hp3, hp4]
  refine h.mono ?_
  rintro e w' ⟨u, rfl, h1, h2⟩
  have hk := hK.out _ _ h1 (fun _ => h2)
  rw [hd]
  exact hk
end
theorem below_grown {w w' : World} (h : Below w.heap.size w w') : w.grownBy w' none := ⟨h.os, h.tape, h.output, h.size, fun k hk _ => h.block k hk⟩
theorem grown_below {a b c : World} {row : Option Nat} (h : a.grownBy b row) (k : Below a.heap.size b c) : a.grownBy c row :=
  ⟨k.os.trans h.os, k.tape.trans h.tape, k.output.trans h.output, Nat.le_trans h.size k.size, fun j hj hn => (k.block j hj).trans (h.block j hj hn)⟩
theorem grown_store3 {a b : World} {x : Nat} (h : a.grownBy b (some x)) (u v z : Value) : a.grownBy (((b.setCell ⟨x, 0, none⟩ u).setCell ⟨x, 1, none⟩ v).setCell ⟨x, 2, none⟩ z) (some x) :=
  ((h.trans (grown_set _ ⟨x, 0, none⟩ u)).trans (grown_set _ ⟨x, 1, none⟩ v)).trans (grown_set _ ⟨x, 2, none⟩ z)
theorem ovAt_far {a b : World} {x xb : Nat} {vs vm vj : Value} {o : Ov} (h : a.grownBy b (some x)) (ho : OvAt a xb vs vm vj o) (hne : xb ≠ x) (hov : IsOv b vs vm vj o) : OvAt b xb vs vm vj o := by
  have hlt := ovAt_lt ho
  have e := h.block xb hlt (fun e => hne (Option.some.inj e))
  exact ⟨hov, (cell_of_heap e 0).trans ho.c0, (cell_of_heap e 1).trans ho.c1, (cell_of_heap e 2).trans ho.c2, (cell_of_heap e 3).trans ho.c3, (cell_of_heap e 4).trans ho.c4⟩
end Go.Proofs.YtjonbhimbhidpaaDoor

namespace Go.Proofs.YtjonbhimbhidpaaDoor
open Go.RowKit

/-- what Play returns -/
def PlayR (w : World) (o : Ov) (c : Sp) (js : List Int) (e : Ending) (w' : World) : Prop :=
  Below w.heap.size w w' ∧ if (o.valid && o.ex c) = true then (if 200 < js.length then e = .returned (.tuple #[.slice none 0 0, .int .i64 3]) else if js.all o.jok = true then (if o.KK c = true then ∃ v, e = .returned (.tuple #[v, .int .i64 0]) ∧ OwnS w' w.heap.size 28 v (o.play c js) else e = .returned (.tuple #[.slice none 0 0, .int .i64 5])) else e = .returned (.tuple #[.slice none 0 0, .int .i64 2])) else e = .returned (.tuple #[.slice none 0 0, .int .i64 1])

set_option maxHeartbeats 8000000 in
set_option maxRecDepth 100000 in
theorem play_any (vs vm vj v : Value) (o : Ov) (c : Sp) (js : List Int) (w : World) (ho : IsOv w vs vm vj o) (hn : o.Num) (hj : IsInts w v js) :
    Calls Tryd.prog 39 #[.agg #[vs, vm, vj], spv c, v] w (PlayR w o c js) := by
  obtain ⟨p, x, y⟩ := c
  have HO := hid ho
  obtain ⟨hb2, hz2, k0, k1⟩ := alloc2 w (.cells #[vs, vm, vj] 26) (.cells #[.int .i64 p, .int .i64 x, .int .i64 y] 28)
  obtain ⟨W, hW⟩ : ∃ W, W = ((w.alloc (.cells #[vs, vm, vj] 26)).alloc (.cells #[.int .i64 p, .int .i64 x, .int .i64 y] 28)) := ⟨_, rfl⟩
  rw [← hW] at hb2 hz2 k0 k1
  have cr := hid (at_any _ _ _ o (p, x, y) W (isOv_below HO.out hb2) hn)
  obtain ⟨ja, jc, rfl, hjl, hjc⟩ := hj
  have HB := hid hb2
  have HW := hid hW
  have HJC := hid hjc
  obtain ⟨n, hn0⟩ : ∃ n, n = js.length := ⟨_, rfl⟩
  have HNN := hid hn0
  rw [← hn0] at hjl ⊢
  unfold spv at cr ⊢
  simp only
  clear hn hb2 hz2 k0 k1 hW hjc hn0
  cases hv : (o.valid && o.ex (p, x, y))
  · have cr2 : Hid (Calls Tryd.prog 44 #[.agg #[vs, vm, vj], .agg #[.int .i64 p, .int .i64 x, .int .i64 y]] W (fun e w' => e = .returned (.tuple #[.pointer none, .agg #[.int .i64 0, .int .i64 0, .int .i64 0], .int .i64 1]) ∧ Below W.heap.size W w')) := (cr.out).mono (by
      rintro e w4 ⟨hb4, h4⟩
      rw [hv, if_neg (by decide)] at h4
      exact ⟨h4, hb4⟩)
    have HVN := hid hv
    clear hv cr ho
    go_enter Tryd.func39, Tryd.ntmps39
    go_wp2_with (first | (go_at_call 44; rw [← HW.out]; refine (cr2.out).mono ?_; rintro e w4 ⟨rfl, hb4⟩; have HB4 := hid hb4; clear hb4) | fail)
    go_ret2
    refine ⟨?_, ?_⟩
    · have hb := HB.out.trans (HB4.out.mono HB.out.size)
      exact hb.alloc hb.size _
    · rw [if_neg (by rw [HVN.out]; decide)]; rfl
  · have HOK : Hid o.Ok := by rw [Bool.and_eq_true] at hv; exact ok_of_valid hv.1
    have HEX : Hid (o.ex (p, x, y) = true) := by rw [Bool.and_eq_true] at hv; exact hv.2
    have cr2 : Hid (Calls Tryd.prog 44 #[.agg #[vs, vm, vj], .agg #[.int .i64 p, .int .i64 x, .int .i64 y]] W (fun e w' => ∃ xb, e = .returned (.tuple #[.pointer (some ⟨xb, 0, none⟩), .agg #[.int .i64 p, .int .i64 x, .int .i64 y], .int .i64 0]) ∧ OvAt w' xb vs vm vj o ∧ Below W.heap.size W w')) := (cr.out).mono (by
      rintro e w4 ⟨hb4, h4⟩
      rw [hv, if_pos rfl] at h4
      obtain ⟨xb, h5, h6⟩ := h4
      exact ⟨xb, h5, h6, hb4⟩)
    have HV := hid hv
    clear hv cr
    by_cases h200 : 200 < n
    · have HR : Hid (200 < js.length) := by rw [← HNN.out]; exact h200
      clear ho
      go_enter Tryd.func39, Tryd.ntmps39
      go_wp2_with (first | (go_at_call 44; rw [← HW.out]; refine (cr2.out).mono ?_; rintro e w4 ⟨xb, rfl, hov, hb4⟩; have HB4 := hid hb4; clear hb4 hov) | fail)
      go_ret2
      refine ⟨?_, ?_⟩
      · have hb := HB.out.trans (HB4.out.mono HB.out.size)
        exact hb.alloc hb.size _
      · rw [if_pos HV.out, if_pos HR.out]; rfl
    · have HR : Hid (¬ 200 < js.length) := by rw [← HNN.out]; exact h200
      obtain ⟨_, ⟨a2, c2, rfl, hl2, hcm⟩, ⟨a3, c3, rfl, hl3, hcj⟩⟩ := ho
      obtain ⟨nm, hnm⟩ : ∃ nm, nm = o.moves.length := ⟨_, rfl⟩
      obtain ⟨nj, hnj⟩ : ∃ nj, nj = o.jolts.length := ⟨_, rfl⟩
      rw [← hnm] at hl2
      rw [← hnj] at hl3
      rw [← hnm, ← hnj] at cr2 HW HO ⊢
      have HNJ := hid hnj
      clear hcm hcj hnm hnj
      go_enter Tryd.func39, Tryd.ntmps39
      go_wp2_with (first | (go_at_call 44; rw [← HW.out]; refine (cr2.out).mono ?_; rintro e w4 ⟨xb, rfl, hov, hb4⟩; have HOV := hid hov; have HB4 : Hid (Below w.heap.size w w4) := HB.out.trans (hb4.mono HB.out.size); clear hb4 hov) | fail)
      have HOV5 := hid (ovAt_below HOV.out ((Below.refl _ _).alloc (Nat.le_refl _) (.cells #[.int .i64 p, .int .i64 x, .int .i64 y] 87)))
      have HB5 : Hid (Below w.heap.size w (w4.alloc (.cells #[.int .i64 p, .int .i64 x, .int .i64 y] 87))) := HB4.out.alloc HB4.out.size _
      have z9 := heap_alloc_new w4 (.cells #[.int .i64 p, .int .i64 x, .int .i64 y] 87)
      obtain ⟨w5, hw5⟩ : ∃ w5, w5 = w4.alloc (.cells #[.int .i64 p, .int .i64 x, .int .i64 y] 87) := ⟨_, rfl⟩
      rw [← hw5] at HOV5 HB5 z9 ⊢
      obtain ⟨x9, hx9⟩ : ∃ x9, x9 = w4.heap.size := ⟨_, rfl⟩
      have h9 : w.heap.size ≤ x9 := by rw [hx9]; exact HB4.out.size
      rw [← hx9] at z9 ⊢
      have y2 := HOV5.out.c2
      clear hw5 hx9 HB4 HOV
      go_loopw [12, 35] (fun _ iv wr => ∃ i : Nat, iv = .int .i64 i ∧ i ≤ n ∧ Hid ((js.take i).all o.jok = true) ∧ wr = w5) (fun _ iv _ => n - (intOf iv).toNat)
      case atStart => exact ⟨0, rfl, Nat.zero_le _, by rw [List.take_zero]; rfl, rfl⟩
      case round =>
        obtain ⟨i, rfl, hi, HA, rfl⟩ := hrel
        by_cases hlt : i < n
        · have hlo : i < js.length := by rw [← HNN.out]; exact hlt
          obtain ⟨g, rfl, hcell⟩ := HJC.out i hlo
          have e1 := (HB5.out.cell (p := ⟨g, i, none⟩) (World.block_lt_of_cell? w _ hcell)).trans hcell
          have HNX : Hid (o.jok (js.getD i 0) = true → (js.take (i + 1)).all o.jok = true) := by
            intro h
            rw [List.take_succ_eq_append_getElem hlo, List.all_append, HA.out, List.all_cons, List.all_nil, Bool.and_true, Bool.true_and]
            rw [List.getD_eq_getElem?_getD, List.getElem?_eq_getElem hlo] at h
            exact h
          have HBAD : Hid (o.jok (js.getD i 0) = false → js.all o.jok = false) := by
            intro h
            rw [List.all_eq_false]
            refine ⟨_, List.getElem_mem hlo, ?_⟩
            rw [List.getD_eq_getElem?_getD, List.getElem?_eq_getElem hlo] at h
            intro h2
            have h3 : o.jok js[i] = false := h
            rw [h3] at h2; cases h2
          have HJK : Hid (∀ j : Int, o.jok j = decide (0 ≤ j ∧ j < (nj : Int))) := fun j => by unfold Ov.jok; rw [HNJ.out]
          rw [HJK.out] at HNX HBAD
          generalize js.getD i 0 = j at *
          clear hlo hcell HA
          by_cases hj0 : j < 0
          · have HF : Hid (js.all o.jok = false) := HBAD.out (decide_eq_false (by omega))
            clear HNX HBAD
            go_wp2
            go_ret2
            refine ⟨HB5.out, ?_⟩
            rw [if_pos HV.out, if_neg HR.out, if_neg (by rw [HF.out]; decide)]
            rfl
          · by_cases hj1 : j < (nj : Int)
            · have HAX := hid (HNX.out (decide_eq_true (by omega)))
              clear HNX HBAD
              go_wp2
              go_roundw
              case rel => exact ⟨i + 1, by go_num, by omega, HAX, trivial⟩
              case measure => simp [intOf]; omega
            · have HF : Hid (js.all o.jok = false) := HBAD.out (decide_eq_false (by omega))
              clear HNX HBAD
              go_wp2
              go_ret2
              refine ⟨HB5.out, ?_⟩
              rw [if_pos HV.out, if_neg HR.out, if_neg (by rw [HF.out]; decide)]
              rfl
        · obtain rfl : n = i := by omega
          have HALL : Hid (js.all o.jok = true) := by
            have := HA.out
            rwa [List.take_of_length_le (by rw [HNN.out]; exact Nat.le_refl _)] at this
          clear HA y2
          cases hk : o.KK (p, x, y)
          · have HKK := hid hk
            clear hk
            go_wp2_with (first
              | (go_at_call 45; refine (kernel_kk xb _ _ _ o _ HOV5.out HOK.out).mono ?_; rintro e w6 ⟨m, ml, nl, rfl, hS, hN, hb6⟩; have hz6 := (hb6.block x9 (heap_lt z9)).trans z9; have HOV6 := hid (ovAt_below HOV5.out hb6); have HB6 : Hid (Below w.heap.size w w6) := HB5.out.trans (hb6.mono HB5.out.size); have HS6 := hid hS; have hal := (Below.refl w6.heap.size w6).alloc (Nat.le_refl _) (.cells #[.map (some m)] 90); have hlk := setW_look (setW_below hS hal (setW_lt hS)) (ex_inR HOK.out HEX.out); rw [congrFun (dec_KK o) _, HKK.out] at hlk; unfold spv at hlk; simp only at hlk; obtain ⟨g0, g1, g2⟩ := cells3_of hz6; have hx6 := heap_lt hz6; clear hS hN hb6 hal)
              | fail)
            go_ret2
            refine ⟨?_, ?_⟩
            · exact HB6.out.alloc HB6.out.size _
            · rw [if_pos HV.out, if_neg HR.out, if_pos HALL.out, if_neg (by rw [HKK.out]; decide)]
              rfl
          · have HKK := hid hk
            clear hk
            go_wp2_with (first
              | (go_at_call 45; refine (kernel_kk xb _ _ _ o _ HOV5.out HOK.out).mono ?_; rintro e w6 ⟨m, ml, nl, rfl, hS, hN, hb6⟩; have hz6 := (hb6.block x9 (heap_lt z9)).trans z9; have HOV6 := hid (ovAt_below HOV5.out hb6); have HB6 : Hid (Below w.heap.size w w6) := HB5.out.trans (hb6.mono HB5.out.size); have HS6 := hid hS; have hal := (Below.refl w6.heap.size w6).alloc (Nat.le_refl _) (.cells #[.map (some m)] 90); have hlk := setW_look (setW_below hS hal (setW_lt hS)) (ex_inR HOK.out HEX.out); rw [congrFun (dec_KK o) _, HKK.out] at hlk; unfold spv at hlk; simp only at hlk; obtain ⟨g0, g1, g2⟩ := cells3_of hz6; have hx6 := heap_lt hz6; clear hS hN hb6 hal)
              | fail)
            obtain ⟨bi, hbi⟩ : ∃ bi, bi = w6.heap.size := ⟨_, rfl⟩
            have hal := (Below.refl w6.heap.size w6).alloc (Nat.le_refl _) (.cells #[.map (some m)] 90)
            have HOVb := hid (ovAt_below HOV6.out hal)
            have HBb : Hid (Below w.heap.size w (w6.alloc (.cells #[.map (some m)] 90))) := HB6.out.alloc HB6.out.size _
            have HSb := hid (setW_below HS6.out hal (setW_lt HS6.out))
            have hzb := (hal.block x9 hx6).trans hz6
            have hbb := heap_alloc_new w6 (.cells #[.map (some m)] 90)
            rw [← hbi] at hbb ⊢
            clear hlk g0 g1 g2 hx6 hz6 hal hbi z9 HOV5 HOV6 HB5 HB6 HS6
            generalize w6.alloc (.cells #[.map (some m)] 90) = wq at *
            have KP : Hid (∀ w', wq.grownBy w' (some x9) → OvAt w' xb vs (.slice a2 nm c2) (.slice a3 nj c3) o ∧ SetW w' m (o.cells.filter o.KK) ∧ w'.cell? ⟨bi, 0, none⟩ = some (.map (some m)) ∧ Below w.heap.size w w') := by
              intro w' hg
              have hB : Below w.heap.size w w' := HBb.out.grown hg HBb.out.size (fun k hk => by cases hk; exact h9)
              have n1 : xb ≠ x9 := by
                rintro rfl
                have h1 := HOVb.out.c1
                rw [(cells3_of hzb).2.1] at h1
                cases h1
              have n2 : m ≠ x9 := by
                rintro rfl
                obtain ⟨es, ck, h1⟩ := setW_obj HSb.out
                rw [hzb] at h1
                cases h1
              have n3 : bi ≠ x9 := block_ne hbb hzb (by decide)
              exact ⟨ovAt_far hg HOVb.out n1 (isOv_below HO.out hB), setW_kept HSb.out hg (fun e => n2 (Option.some.inj e)), box1 ((hg.block bi (heap_lt hbb) (fun e => n3 (Option.some.inj e))).trans hbb), hB⟩
            have HZB := hid hzb
            clear hzb hbb
            go_loopw [15, 17, 63] (fun v15 _ iv wr => ∃ (i : Nat) (oa : Option Addr) (om oc : Nat), v15 = .slice oa om oc ∧ iv = .int .i64 i ∧ i ≤ n ∧ wr.heap[x9]? = some (.cells #[.int .i64 (o.walk (p, x, y) js i).1, .int .i64 (o.walk (p, x, y) js i).2.1, .int .i64 (o.walk (p, x, y) js i).2.2] 87) ∧ Hid (OwnS wr wq.heap.size 28 (.slice oa om oc) ((o.play (p, x, y) js).take i)) ∧ Hid (wq.grownBy wr (some x9))) (fun _ _ iv _ => n - (intOf iv).toNat)
            case atStart => exact ⟨0, none, 0, 0, rfl, rfl, Nat.zero_le _, HZB.out, by rw [List.take_zero]; exact ownS_nil _ _ _, ⟨rfl, rfl, rfl, Nat.le_refl _, fun _ _ _ => rfl⟩⟩
            case round =>
              obtain ⟨i, oa, om, oc, rfl, rfl, hi, hz, HOW, HGW⟩ := hrel
              by_cases hlt : i < n
              · have hlo : i < js.length := by rw [← HNN.out]; exact hlt
                obtain ⟨g, rfl, hcell⟩ := HJC.out i hlo
                have hgl : g < w.heap.size := World.block_lt_of_cell? w _ hcell
                have e1 := ((KP.out wr HGW.out).2.2.2.cell (p := ⟨g, i, none⟩) hgl).trans hcell
                have HKI := walk_KK o (p, x, y) js HKK.out HALL.out i (by omega)
                have hjk : o.jok (js.getD i 0) = true := by
                  have h := HALL.out
                  rw [List.all_eq_true] at h
                  refine h _ ?_
                  rw [List.getD_eq_getElem?_getD, List.getElem?_eq_getElem hlo]
                  exact List.getElem_mem hlo
                obtain ⟨mm, nn, hm, hnn, hmv, hje, hst, hkn⟩ := nextK_spec o (o.walk (p, x, y) js i) (js.getD i 0) HKI hjk
                rw [hje] at e1
                have hws := walk_succ o (p, x, y) js i hlo
                rw [hst] at hws
                have htk := (play_take o (p, x, y) js i hlo).symm
                have HLN : Hid (((o.play (p, x, y) js).take i).length < 100000000) := by show _ < _; rw [List.length_take, play_len]; have := HR.out; omega
                have cM := fun (w' : World) (hg : wq.grownBy w' (some x9)) => move_any xb _ _ _ o (o.walk (p, x, y) js i) 59 #[.pointer (some ⟨bi, 0, none⟩)] _ w' (KP.out w' hg).1 HOK.out (KK_ex o _ HKI) (testC59 (KP.out w' hg).2.2.1 (KP.out w' hg).2.1)
                have cS := fun (w' : World) (hg : wq.grownBy w' (some x9)) => step_any xb _ _ _ o (o.walk (p, x, y) js i) mm nn w' (KP.out w' hg).1 HOK.out hm hnn (ex_inR HOK.out (KK_ex o _ HKI))
                rw [dec_KK o, hmv] at cM
                rw [← hws] at cS
                obtain ⟨s, hs⟩ : ∃ s, s = o.walk (p, x, y) js i := ⟨_, rfl⟩
                obtain ⟨t', ht⟩ : ∃ t', t' = o.walk (p, x, y) js (i + 1) := ⟨_, rfl⟩
                rw [← hs] at cM cS hz
                rw [← ht] at cS htk
                have HTK := hid htk
                have HT := hid ht
                have HCM := hid cM
                have HCS := hid cS
                clear hs ht htk hkn hst hws hje hmv hm hnn hcell hgl hlo hjk HKI cM cS
                obtain ⟨sx, sy, sz⟩ := s
                obtain ⟨tx, ty, tz⟩ := t'
                unfold spv at HCM HCS
                simp only at hz HCM HCS
                have HZ := hid hz
                clear hz
                have hmf : ∀ (fn : Fn) (first cap : Array Value) (w : World), (Instr.makeFunc fn first cap).run Tryd.prog w = .ok (.func fn first cap) w := fun _ _ _ _ => rfl
                go_upto_region 19 with fail
                have HGx : wq.grownBy wr.drew (some x9) := grown_below HGW.out ((Below.refl _ _).drew)
                have HOx : wr.drew.ownsRow wq.heap.size 28 3 (.slice oa om oc) _ _ := HOW.out
                have hzx : wr.drew.heap[x9]? = _ := HZ.out
                refine wp_region_held_drew (S := fun w' => Hid (wq.grownBy w' (some x9))) (by kernel_rfl) HGx (fun hHeld => ?_)
                refine take_at (i := 0) 67 (v := .pointer (some ⟨xb, 0, none⟩)) rfl (by kernel_rfl) (by kernel_rfl) (by kernel_rfl) rfl (fun _ _ _ h => h) (by rfl) (fun w hSw => ?_) hHeld ?_
                · (try dsimp only at hSw); go_simp
                simp only [Act.put, List.setIfInBounds_toArray, List.set_cons_zero, List.set_cons_succ]
                refine take_at (i := 2) 69 (v := .pointer (some ⟨xb, 0, none⟩)) rfl (by kernel_rfl) (by kernel_rfl) (by kernel_rfl) rfl (fun _ _ _ h => h) (by rfl) (fun w hSw => ?_) hHeld ?_
                · (try dsimp only at hSw); go_simp
                simp only [Act.put, List.setIfInBounds_toArray, List.set_cons_zero, List.set_cons_succ]
                refine take_at (i := 4) 71 (v := .func (.func 59) #[] #[.pointer (some ⟨bi, 0, none⟩)]) rfl (by kernel_rfl) (by kernel_rfl) (by kernel_rfl) rfl (fun _ _ _ h => h) (by rfl) (fun w hSw => ?_) hHeld ?_
                · (try dsimp only at hSw); go_simp
                simp only [Act.put, List.setIfInBounds_toArray, List.set_cons_zero, List.set_cons_succ]
                refine take_at (i := 6) 73 (v := .int .i64 nn) rfl (by kernel_rfl) (by kernel_rfl) (by kernel_rfl) rfl (fun _ _ _ h => h) (by rfl) (fun w hSw => ?_) hHeld ?_
                · (try dsimp only at hSw); go_simp
                simp only [Act.put, List.setIfInBounds_toArray, List.set_cons_zero, List.set_cons_succ]
                refine wpAnyH_ready (rs := [1, 3]) (by kernel_rfl) (by simp) ?_
                refine node_load87 68 9 x9 _ _ _ rfl rfl rfl rfl rfl hzx HGx ?_ ?_
                · simp only [Act.put, List.setIfInBounds_toArray, List.set_cons_zero, List.set_cons_succ]
                  refine wpAnyH_ready (rs := [3]) (by kernel_rfl) (by simp) ?_
                  refine node_load87 70 9 x9 _ _ _ rfl rfl rfl rfl rfl hzx HGx ?_ AllReadyH.nil
                  · simp only [Act.put, List.setIfInBounds_toArray, List.set_cons_zero, List.set_cons_succ]
                    refine wpAnyH_ready (rs := [5]) (by kernel_rfl) (by simp) ?_
                    refine node_call46 72 69 70 71 _ _ _ rfl rfl rfl rfl rfl rfl rfl ((HCM.out _ HGx).mono ?_) AllReadyH.nil
                    · rintro e w7 ⟨rfl, hb7⟩
                      have hzx := (hb7.block x9 (heap_lt hzx)).trans hzx
                      have HOx := row_below HOx hb7
                      have HGx := grown_below HGx (hb7.mono HGx.size)
                      refine ⟨_, rfl, HGx, ?_⟩
                      clear hb7
                      simp only [Act.put, List.setIfInBounds_toArray, List.set_cons_zero, List.set_cons_succ]
                      refine wpAnyH_ready (rs := [7]) (by kernel_rfl) (by simp) ?_
                      refine node_call58 74 67 68 72 73 _ _ _ _ rfl rfl rfl rfl rfl rfl rfl rfl ((HCS.out _ HGx).mono ?_) AllReadyH.nil
                      · rintro e w7 ⟨rfl, hb7⟩
                        have hzx := (hb7.block x9 (heap_lt hzx)).trans hzx
                        have HOx := row_below HOx hb7
                        have HGx := grown_below HGx (hb7.mono HGx.size)
                        refine ⟨_, rfl, HGx, ?_⟩
                        clear hb7
                        simp only [Act.put, List.setIfInBounds_toArray, List.set_cons_zero, List.set_cons_succ]
                        refine wpAnyH_ready (rs := [8]) (by kernel_rfl) (by simp) ?_
                        refine node_store87 9 74 x9 _ _ _ tx ty tz rfl rfl rfl rfl rfl rfl hzx (grown_store3 HGx _ _ _) ?_ AllReadyH.nil
                        have HGy : Hid (wq.grownBy (((w7.setCell ⟨x9, 0, none⟩ (.int .i64 tx)).setCell ⟨x9, 1, none⟩ (.int .i64 ty)).setCell ⟨x9, 2, none⟩ (.int .i64 tz)) (some x9)) := grown_store3 HGx _ _ _
                        have hzy := store3 (x := .int .i64 tx) (y := .int .i64 ty) (z := .int .i64 tz) hzx
                        have HOy := hid (row_other HOx (grown_store3 (⟨rfl, rfl, rfl, Nat.le_refl _, fun _ _ _ => rfl⟩) (.int .i64 tx) (.int .i64 ty) (.int .i64 tz)) (fun k hk => by cases hk; exact ⟨_, hzx⟩) (by decide))
                        obtain ⟨w8, hw8⟩ : ∃ w8, w8 = ((w7.setCell ⟨x9, 0, none⟩ (.int .i64 tx)).setCell ⟨x9, 1, none⟩ (.int .i64 ty)).setCell ⟨x9, 2, none⟩ (.int .i64 tz) := ⟨_, rfl⟩
                        rw [← hw8] at HGy hzy HOy ⊢
                        refine wpAnyH_done (by kernel_rfl) ?_ _
                        obtain ⟨g0, g1, g2⟩ := cells3_of hzy
                        have hl8 := heap_lt hzy
                        have HZY := hid hzy
                        have hz8 : wq.heap.size ≤ w8.heap.size := HGy.out.size
                        clear hw8 hzy hzx HGx HOx
                        go_wp2_with (first | (at_builtin; refine wpl_app_cell (tx, ty, tz) _ _ (.slice oa om oc) wq.heap.size ((o.play (p, x, y) js).take i) (by rfl) (by rfl) (by rfl) (by rfl) HOy.out HLN.out hz8 ?_; intro v' w9 ho9 hb9; rw [HTK.out] at ho9; obtain ⟨sa, sn, sc, rfl⟩ := ownS_slice' ho9; have HO9 := hid ho9; have HG9 := hid (grown_below HGy.out hb9); have hz9 := (hb9.block x9 (heap_lt HZB.out)).trans HZY.out; clear ho9 hb9) | fail)
                        go_roundw
                        case rel => exact ⟨i + 1, _, _, _, rfl, by go_num, by omega, by rw [← HT.out]; exact hz9, HO9, HG9⟩
                        case measure => simp [intOf]; omega
                refine node_load87 70 9 x9 _ _ _ rfl rfl rfl rfl rfl hzx HGx ?_ AllReadyH.nil
                · simp only [Act.put, List.setIfInBounds_toArray, List.set_cons_zero, List.set_cons_succ]
                  refine wpAnyH_ready (rs := [1, 5]) (by kernel_rfl) (by simp) ?_
                  refine node_load87 68 9 x9 _ _ _ rfl rfl rfl rfl rfl hzx HGx ?_ ?_
                  · simp only [Act.put, List.setIfInBounds_toArray, List.set_cons_zero, List.set_cons_succ]
                    refine wpAnyH_ready (rs := [5]) (by kernel_rfl) (by simp) ?_
                    refine node_call46 72 69 70 71 _ _ _ rfl rfl rfl rfl rfl rfl rfl ((HCM.out _ HGx).mono ?_) AllReadyH.nil
                    · rintro e w7 ⟨rfl, hb7⟩
                      have hzx := (hb7.block x9 (heap_lt hzx)).trans hzx
                      have HOx := row_below HOx hb7
                      have HGx := grown_below HGx (hb7.mono HGx.size)
                      refine ⟨_, rfl, HGx, ?_⟩
                      clear hb7
                      simp only [Act.put, List.setIfInBounds_toArray, List.set_cons_zero, List.set_cons_succ]
                      refine wpAnyH_ready (rs := [7]) (by kernel_rfl) (by simp) ?_
                      refine node_call58 74 67 68 72 73 _ _ _ _ rfl rfl rfl rfl rfl rfl rfl rfl ((HCS.out _ HGx).mono ?_) AllReadyH.nil
                      · rintro e w7 ⟨rfl, hb7⟩
                        have hzx := (hb7.block x9 (heap_lt hzx)).trans hzx
                        have HOx := row_below HOx hb7
                        have HGx := grown_below HGx (hb7.mono HGx.size)
                        refine ⟨_, rfl, HGx, ?_⟩
                        clear hb7
                        simp only [Act.put, List.setIfInBounds_toArray, List.set_cons_zero, List.set_cons_succ]
                        refine wpAnyH_ready (rs := [8]) (by kernel_rfl) (by simp) ?_
                        refine node_store87 9 74 x9 _ _ _ tx ty tz rfl rfl rfl rfl rfl rfl hzx (grown_store3 HGx _ _ _) ?_ AllReadyH.nil
                        have HGy : Hid (wq.grownBy (((w7.setCell ⟨x9, 0, none⟩ (.int .i64 tx)).setCell ⟨x9, 1, none⟩ (.int .i64 ty)).setCell ⟨x9, 2, none⟩ (.int .i64 tz)) (some x9)) := grown_store3 HGx _ _ _
                        have hzy := store3 (x := .int .i64 tx) (y := .int .i64 ty) (z := .int .i64 tz) hzx
                        have HOy := hid (row_other HOx (grown_store3 (⟨rfl, rfl, rfl, Nat.le_refl _, fun _ _ _ => rfl⟩) (.int .i64 tx) (.int .i64 ty) (.int .i64 tz)) (fun k hk => by cases hk; exact ⟨_, hzx⟩) (by decide))
                        obtain ⟨w8, hw8⟩ : ∃ w8, w8 = ((w7.setCell ⟨x9, 0, none⟩ (.int .i64 tx)).setCell ⟨x9, 1, none⟩ (.int .i64 ty)).setCell ⟨x9, 2, none⟩ (.int .i64 tz) := ⟨_, rfl⟩
                        rw [← hw8] at HGy hzy HOy ⊢
                        refine wpAnyH_done (by kernel_rfl) ?_ _
                        obtain ⟨g0, g1, g2⟩ := cells3_of hzy
                        have hl8 := heap_lt hzy
                        have HZY := hid hzy
                        have hz8 : wq.heap.size ≤ w8.heap.size := HGy.out.size
                        clear hw8 hzy hzx HGx HOx
                        go_wp2_with (first | (at_builtin; refine wpl_app_cell (tx, ty, tz) _ _ (.slice oa om oc) wq.heap.size ((o.play (p, x, y) js).take i) (by rfl) (by rfl) (by rfl) (by rfl) HOy.out HLN.out hz8 ?_; intro v' w9 ho9 hb9; rw [HTK.out] at ho9; obtain ⟨sa, sn, sc, rfl⟩ := ownS_slice' ho9; have HO9 := hid ho9; have HG9 := hid (grown_below HGy.out hb9); have hz9 := (hb9.block x9 (heap_lt HZB.out)).trans HZY.out; clear ho9 hb9) | fail)
                        go_roundw
                        case rel => exact ⟨i + 1, _, _, _, rfl, by go_num, by omega, by rw [← HT.out]; exact hz9, HO9, HG9⟩
                        case measure => simp [intOf]; omega
                  refine node_call46 72 69 70 71 _ _ _ rfl rfl rfl rfl rfl rfl rfl ((HCM.out _ HGx).mono ?_) AllReadyH.nil
                  · rintro e w7 ⟨rfl, hb7⟩
                    have hzx := (hb7.block x9 (heap_lt hzx)).trans hzx
                    have HOx := row_below HOx hb7
                    have HGx := grown_below HGx (hb7.mono HGx.size)
                    refine ⟨_, rfl, HGx, ?_⟩
                    clear hb7
                    simp only [Act.put, List.setIfInBounds_toArray, List.set_cons_zero, List.set_cons_succ]
                    refine wpAnyH_ready (rs := [1]) (by kernel_rfl) (by simp) ?_
                    refine node_load87 68 9 x9 _ _ _ rfl rfl rfl rfl rfl hzx HGx ?_ AllReadyH.nil
                    · simp only [Act.put, List.setIfInBounds_toArray, List.set_cons_zero, List.set_cons_succ]
                      refine wpAnyH_ready (rs := [7]) (by kernel_rfl) (by simp) ?_
                      refine node_call58 74 67 68 72 73 _ _ _ _ rfl rfl rfl rfl rfl rfl rfl rfl ((HCS.out _ HGx).mono ?_) AllReadyH.nil
                      · rintro e w7 ⟨rfl, hb7⟩
                        have hzx := (hb7.block x9 (heap_lt hzx)).trans hzx
                        have HOx := row_below HOx hb7
                        have HGx := grown_below HGx (hb7.mono HGx.size)
                        refine ⟨_, rfl, HGx, ?_⟩
                        clear hb7
                        simp only [Act.put, List.setIfInBounds_toArray, List.set_cons_zero, List.set_cons_succ]
                        refine wpAnyH_ready (rs := [8]) (by kernel_rfl) (by simp) ?_
                        refine node_store87 9 74 x9 _ _ _ tx ty tz rfl rfl rfl rfl rfl rfl hzx (grown_store3 HGx _ _ _) ?_ AllReadyH.nil
                        have HGy : Hid (wq.grownBy (((w7.setCell ⟨x9, 0, none⟩ (.int .i64 tx)).setCell ⟨x9, 1, none⟩ (.int .i64 ty)).setCell ⟨x9, 2, none⟩ (.int .i64 tz)) (some x9)) := grown_store3 HGx _ _ _
                        have hzy := store3 (x := .int .i64 tx) (y := .int .i64 ty) (z := .int .i64 tz) hzx
                        have HOy := hid (row_other HOx (grown_store3 (⟨rfl, rfl, rfl, Nat.le_refl _, fun _ _ _ => rfl⟩) (.int .i64 tx) (.int .i64 ty) (.int .i64 tz)) (fun k hk => by cases hk; exact ⟨_, hzx⟩) (by decide))
                        obtain ⟨w8, hw8⟩ : ∃ w8, w8 = ((w7.setCell ⟨x9, 0, none⟩ (.int .i64 tx)).setCell ⟨x9, 1, none⟩ (.int .i64 ty)).setCell ⟨x9, 2, none⟩ (.int .i64 tz) := ⟨_, rfl⟩
                        rw [← hw8] at HGy hzy HOy ⊢
                        refine wpAnyH_done (by kernel_rfl) ?_ _
                        obtain ⟨g0, g1, g2⟩ := cells3_of hzy
                        have hl8 := heap_lt hzy
                        have HZY := hid hzy
                        have hz8 : wq.heap.size ≤ w8.heap.size := HGy.out.size
                        clear hw8 hzy hzx HGx HOx
                        go_wp2_with (first | (at_builtin; refine wpl_app_cell (tx, ty, tz) _ _ (.slice oa om oc) wq.heap.size ((o.play (p, x, y) js).take i) (by rfl) (by rfl) (by rfl) (by rfl) HOy.out HLN.out hz8 ?_; intro v' w9 ho9 hb9; rw [HTK.out] at ho9; obtain ⟨sa, sn, sc, rfl⟩ := ownS_slice' ho9; have HO9 := hid ho9; have HG9 := hid (grown_below HGy.out hb9); have hz9 := (hb9.block x9 (heap_lt HZB.out)).trans HZY.out; clear ho9 hb9) | fail)
                        go_roundw
                        case rel => exact ⟨i + 1, _, _, _, rfl, by go_num, by omega, by rw [← HT.out]; exact hz9, HO9, HG9⟩
                        case measure => simp [intOf]; omega
              · obtain rfl : n = i := by omega
                have hO := HOW.out
                rw [List.take_of_length_le (by rw [play_len, HNN.out]; exact Nat.le_refl _)] at hO
                have HOF := hid (row_mono hO HBb.out.size)
                clear hz hO
                go_wp2
                go_ret2
                refine ⟨(KP.out _ HGW.out).2.2.2, ?_⟩
                rw [if_pos HV.out, if_neg HR.out, if_pos HALL.out, if_pos HKK.out]
                exact ⟨_, rfl, HOF.out⟩
end Go.Proofs.YtjonbhimbhidpaaDoor

namespace Go.Proofs.YtjonbhimbhidpaaDoor
open Go.RowKit
section
variable {md : Region.Mode} {ops : Array Oper} {Q : Exit → Act → World → Prop} {S : World → Prop} {fuel : Nat} {listed : Array Bool} {a : Act} {w : World} {i : Nat} {o : Oper} {rs : List Nat}
theorem node_call14 (d k : Nat) (v : Value) (hi : ops[i]? = some o) (hgd : o.guard = none) (ho : o.op = .call { callee := .value (.func 14), args := #[.tmp k], argTypes := #[26] }) (hd : o.dst = some d)
    (hp : a.tmps[k]?.getD undef = v)
    (h : Calls Tryd.prog 14 #[v] w fun e w' => ∃ u, e = .returned u ∧ S w' ∧ wpAnyH Tryd.prog md ops Q S fuel (listed.setIfInBounds i true) (a.put (some d) u) w')
    (hs : AllReadyH Tryd.prog md ops Q S fuel listed a w rs) : AllReadyH Tryd.prog md ops Q S fuel listed a w (i :: rs) := by
  refine AllReadyH.cons hi (fun K hK => ?_) hs
  have hw : Region.wanted o (yielded ops a.tmps) = true := by simp [Region.wanted, hgd]
  rw [if_pos hw]
  unfold Oper.wp execOp
  simp [ho, go_sem, hp]
  refine h.mono ?_
  rintro e w' ⟨u, rfl, h1, h2⟩
  have hk := hK.out _ _ h1 (fun _ => h2)
  rw [hd]
  exact hk
end
/-- an argument that is a list of numbers -/
def ArgInts (w : World) (v : Value) (xs : List Int) : Prop := ∃ a c, v = .slice a xs.length c ∧ xs.length ≤ c ∧ c ≤ maxLen ∧ ((a = none ∧ c = 0) ∨ ∃ ad, a = some ad ∧ (0 < xs.length → ad.block < w.heap.size) ∧ ∀ j u, (ints xs)[j]? = some u → w.cell? (ad.add j) = some u)
theorem ints_take (xs : List Int) (n : Nat) : ints (xs.take n) = (ints xs).take n := by simp [ints, List.map_take]
theorem rd_ints {w : World} {v : Value} {xs : List Int} (h : ArgInts w v xs) (k m : Nat) (hk : k = min xs.length m) : ∃ a c, v = .slice a xs.length c ∧ xs.length ≤ c ∧ c ≤ maxLen ∧ (a = none → c = 0) ∧ Rd w (.slice a k c) k 1 (ints (xs.take m)) := by
  obtain ⟨a, c, rfl, h1, h2, h3⟩ := h
  have hl : (ints (xs.take m)).length = k * 1 := by
    have e : (ints (xs.take m)).length = (xs.take m).length := by simp [ints]
    rw [e, List.length_take, hk, Nat.mul_one, Nat.min_comm]
  have h1c : ∀ u ∈ ints (xs.take m), u.oneCell' = true := by
    intro u hu
    unfold ints at hu
    rw [List.mem_map] at hu
    obtain ⟨z, _, rfl⟩ := hu
    rfl
  rcases h3 with ⟨rfl, rfl⟩ | ⟨ad, rfl, hlt, hc⟩
  · have hx : xs = [] := List.length_eq_zero_iff.1 (by omega)
    subst hx
    obtain rfl : k = 0 := by simpa using hk
    exact ⟨none, 0, rfl, h1, h2, fun _ => rfl, by simpa [ints] using rd_nil w 1⟩
  · refine ⟨some ad, c, rfl, h1, h2, fun e => (by cases e), hl, h1c, .inr ⟨ad, c, rfl, fun h0 => hlt (by rw [hl] at h0; omega), fun j u hj => hc j u ?_⟩⟩
    rw [ints_take, List.getElem?_take] at hj
    split at hj
    · exact hj
    · cases hj
/-- the region's state -/
structure R3 (W : World) (q : Ov) (xs : List Int) (w : World) (e2 x9 : Option Nat) (ov : Option (Value × Value × Value)) (m : Option Value) : Prop where
  below : Below W.heap.size W w
  h2 : ∀ g, e2 = some g → W.heap.size ≤ g ∧ w.heap[g]? = some (.cells #[] 3)
  h9 : ∀ g, x9 = some g → W.heap.size ≤ g ∧ w.heap[g]? = some (.cells #[.slice none 0 0, .slice none 0 0, .slice none 0 0] 26)
  hov : ∀ t, ov = some t → OwnOv w W.heap.size t.1 t.2.1 t.2.2 q
  hm : ∀ v, m = some v → w.ownsRow W.heap.size 3 1 v xs.length (ints xs)
section
variable {W w w' : World} {q : Ov} {xs : List Int} {e2 x9 : Option Nat} {ov : Option (Value × Value × Value)} {m : Option Value}
theorem R3.start (W : World) (q : Ov) (xs : List Int) : R3 W q xs W.drew none none none none :=
  ⟨(Below.refl _ _).drew, fun _ h => (nomatch h), fun _ h => (nomatch h), fun _ h => (nomatch h), fun _ h => (nomatch h)⟩
theorem R3.step (h : R3 W q xs w e2 x9 ov m) (hb : Below w.heap.size w w') : R3 W q xs w' e2 x9 ov m :=
  ⟨h.below.trans (hb.mono h.below.size), fun g e => ⟨(h.h2 g e).1, (hb.block g (heap_lt (h.h2 g e).2)).trans (h.h2 g e).2⟩, fun g e => ⟨(h.h9 g e).1, (hb.block g (heap_lt (h.h9 g e).2)).trans (h.h9 g e).2⟩,
    fun t e => (h.hov t e).below hb, fun v e => row_below (h.hm v e) hb⟩
theorem R3.cut {a b c : Value} (h : R3 W q xs w e2 x9 none m) (hb : Below w.heap.size w w') (ho : OwnOv w' w.heap.size a b c q) : R3 W q xs w' e2 x9 (some (a, b, c)) m :=
  let h2 := h.step hb
  ⟨h2.below, h2.h2, h2.h9, fun _ e => by cases e; exact ⟨ownG_mono ho.g h.below.size, row_mono ho.mv h.below.size, row_mono ho.jl h.below.size⟩, h2.hm⟩
theorem R3.build (h : R3 W q xs w none x9 ov m) : R3 W q xs (w.alloc (.cells #[] 3)) (some w.heap.size) x9 ov m :=
  let h2 := h.step ((Below.refl _ _).alloc (Nat.le_refl _) (.cells #[] 3))
  ⟨h2.below, fun _ e => by cases e; exact ⟨h.below.size, heap_alloc_new _ _⟩, h2.h9, h2.hov, h2.hm⟩
theorem R3.box (h : R3 W q xs w e2 none ov m) : R3 W q xs (w.alloc (.cells #[.slice none 0 0, .slice none 0 0, .slice none 0 0] 26)) e2 (some w.heap.size) ov m :=
  let h2 := h.step ((Below.refl _ _).alloc (Nat.le_refl _) (.cells #[.slice none 0 0, .slice none 0 0, .slice none 0 0] 26))
  ⟨h2.below, h2.h2, fun _ e => by cases e; exact ⟨h.below.size, heap_alloc_new _ _⟩, h2.hov, h2.hm⟩
theorem R3.app {g : Nat} {v : Value} (h : R3 W q xs w (some g) x9 ov none) (hg : w.grownBy w' (some g)) (ho : w'.ownsRow W.heap.size 3 1 v xs.length (ints xs)) : R3 W q xs w' none x9 ov (some v) := by
  obtain ⟨hB, hh⟩ := h.h2 g rfl
  refine ⟨h.below.grown hg h.below.size (fun k hk => by cases hk; exact hB), fun _ e => (nomatch e), fun g' e => ⟨(h.h9 g' e).1, ?_⟩, fun t e => (h.hov t e).other hg hh (by decide) (by decide) (by decide) (by decide), fun v' e => by cases e; exact ho⟩
  exact (hg.block g' (heap_lt (h.h9 g' e).2) (fun e2 => block_ne (h.h9 g' e).2 hh (by decide) (Option.some.inj e2))).trans (h.h9 g' e).2
theorem R3.fin {X : Nat} {a b c v : Value} (h : R3 W q xs w none (some X) (some (a, b, c)) (some v)) :
    W.heap.size ≤ X ∧ (((w.setCell ⟨X, 0, none⟩ a).setCell ⟨X, 1, none⟩ b).setCell ⟨X, 2, none⟩ c).heap[X]? = some (.cells #[a, b, c] 26) ∧
      Hid (OwnOv (((w.setCell ⟨X, 0, none⟩ a).setCell ⟨X, 1, none⟩ b).setCell ⟨X, 2, none⟩ c) W.heap.size a b c q) ∧
      Hid ((((w.setCell ⟨X, 0, none⟩ a).setCell ⟨X, 1, none⟩ b).setCell ⟨X, 2, none⟩ c).ownsRow W.heap.size 3 1 v xs.length (ints xs)) ∧
      Hid (Below W.heap.size W (((w.setCell ⟨X, 0, none⟩ a).setCell ⟨X, 1, none⟩ b).setCell ⟨X, 2, none⟩ c)) := by
  obtain ⟨hB, hh⟩ := h.h9 X rfl
  have hs := grown_store3 (a := w) (b := w) (x := X) ⟨rfl, rfl, rfl, Nat.le_refl _, fun _ _ _ => rfl⟩ a b c
  have ht : ∀ k, some X = some k → ∃ cs, w.heap[k]? = some (.cells cs 26) := by intro k hk; cases hk; exact ⟨_, hh⟩
  exact ⟨hB, store3 hh, (h.hov _ rfl).other hs hh (by decide) (by decide) (by decide) (by decide), row_other (h.hm v rfl) hs ht (by decide), below_store3 h.below hB⟩
end
end Go.Proofs.YtjonbhimbhidpaaDoor

namespace Go.Proofs.YtjonbhimbhidpaaDoor
open Go.RowKit
section
variable {md : Region.Mode} {ops : Array Oper} {Q : Exit → Act → World → Prop} {S : World → Prop} {fuel : Nat} {listed : Array Bool} {a : Act} {w : World} {i : Nat} {o : Oper} {rs : List Nat}
theorem node_load28 (d k X : Nat) (x y z : Value) (hi : ops[i]? = some o) (hgd : o.guard = none) (ho : o.op = .load 28 (.tmp k)) (hd : o.dst = some d)
    (hp : a.tmps[k]?.getD undef = .pointer (some ⟨X, 0, none⟩)) (hh : w.heap[X]? = some (.cells #[x, y, z] 28)) (hS : S w)
    (h : wpAnyH Tryd.prog md ops Q S fuel (listed.setIfInBounds i true) (a.put (some d) (.agg #[x, y, z])) w)
    (hs : AllReadyH Tryd.prog md ops Q S fuel listed a w rs) : AllReadyH Tryd.prog md ops Q S fuel listed a w (i :: rs) := by
  refine AllReadyH.cons hi (fun K hK => ?_) hs
  have hw : Region.wanted o (yielded ops a.tmps) = true := by simp [Region.wanted, hgd]
  rw [if_pos hw]
  obtain ⟨k0, k1, k2⟩ := cells3_of hh
  have hk := hK.out _ _ hS (fun _ => h)
  unfold Oper.wp execOp
  simp [ho, go_sem, hp, k0, k1, k2]
  rw [hd]
  exact hk
theorem node_store28 (k j X : Nat) (x y z : Value) (x' y' z' : Int) (hi : ops[i]? = some o) (hgd : o.guard = none) (ho : o.op = .store 28 (.tmp k) (.tmp j)) (hd : o.dst = none)
    (hp : a.tmps[k]?.getD undef = .pointer (some ⟨X, 0, none⟩)) (hv : a.tmps[j]?.getD undef = .agg #[.int .i64 x', .int .i64 y', .int .i64 z'])
    (hh : w.heap[X]? = some (.cells #[x, y, z] 28)) (hS : S (((w.setCell ⟨X, 0, none⟩ (.int .i64 x')).setCell ⟨X, 1, none⟩ (.int .i64 y')).setCell ⟨X, 2, none⟩ (.int .i64 z')))
    (h : wpAnyH Tryd.prog md ops Q S fuel (listed.setIfInBounds i true) a (((w.setCell ⟨X, 0, none⟩ (.int .i64 x')).setCell ⟨X, 1, none⟩ (.int .i64 y')).setCell ⟨X, 2, none⟩ (.int .i64 z')))
    (hs : AllReadyH Tryd.prog md ops Q S fuel listed a w rs) : AllReadyH Tryd.prog md ops Q S fuel listed a w (i :: rs) := by
  refine AllReadyH.cons hi (fun K hK => ?_) hs
  have hw : Region.wanted o (yielded ops a.tmps) = true := by simp [Region.wanted, hgd]
  rw [if_pos hw]
  obtain ⟨k0, k1, k2⟩ := cells3_of hh
  obtain ⟨f0, f1, f2⟩ := free3_of hh
  have hk := hK.out _ _ hS (fun _ => h)
  unfold Oper.wp execOp
  simp [ho, go_sem, hp, hv, k0, k1, k2, f0, f1, f2]
  rw [hd]
  exact hk
theorem node_call30 (d k1 k2 k3 k4 : Nat) (v1 v2 v3 v4 : Value) (hi : ops[i]? = some o) (hgd : o.guard = none) (ho : o.op = .call { callee := .value (.func 30), args := #[.tmp k1, .tmp k2, .tmp k3, .tmp k4], argTypes := #[26, 28, 53, 55] }) (hd : o.dst = some d)
    (hp1 : a.tmps[k1]?.getD undef = v1) (hp2 : a.tmps[k2]?.getD undef = v2) (hp3 : a.tmps[k3]?.getD undef = v3) (hp4 : a.tmps[k4]?.getD undef = v4)
    (h : Calls Tryd.prog 30 #[v1, v2, v3, v4] w fun e w' => ∃ u, e = .returned u ∧ S w' ∧ wpAnyH Tryd.prog md ops Q S fuel (listed.setIfInBounds i true) (a.put (some d) u) w')
    (hs : AllReadyH Tryd.prog md ops Q S fuel listed a w rs) : AllReadyH Tryd.prog md ops Q S fuel listed a w (i :: rs) := by
  refine AllReadyH.cons hi (fun K hK => ?_) hs
  have hw : Region.wanted o (yielded ops a.tmps) = true := by simp [Region.wanted, hgd]
  rw [if_pos hw]
  unfold Oper.wp execOp
  simp [ho, go_sem, hp1, hp2, hp3, hp4]
  refine h.mono ?_
  rintro e w' ⟨u, rfl, h1, h2⟩
  have hk := hK.out _ _ h1 (fun _ => h2)
  rw [hd]
  exact hk
end
/-- a row of numbers that came in, as an argument -/
theorem argInts_row {w : World} {x : Addr} {len cap : Nat} {zs : List Int} (hl : len ≤ cap) (hm : cap ≤ maxLen) (hz : zs.length = cap) (hc : ∀ i, i < zs.length → w.cell? (x.add i) = some (.int .i64 (zs.getD i 0))) : ∃ xs, ArgInts w (.slice (some x) len cap) xs := by
  have e : (zs.take len).length = len := by rw [List.length_take]; omega
  refine ⟨zs.take len, some x, cap, by rw [e], by rw [e]; exact hl, hm, .inr ⟨x, rfl, fun h0 => ?_, fun j u hj => ?_⟩⟩
  · have := World.block_lt_of_cell? w _ (hc 0 (by rw [e] at h0; omega))
    rwa [add_block] at this
  · unfold ints at hj
    rw [List.getElem?_map, List.getElem?_take] at hj
    split at hj
    · have hjz : j < zs.length := by omega
      rw [List.getElem?_eq_getElem hjz] at hj
      rw [hc j hjz, List.getD_eq_getElem?_getD, List.getElem?_eq_getElem hjz]
      exact hj
    · cases hj
theorem row_far {w w' : World} {B n size x : Nat} {e : TypeId} {v : Value} {xs : List Value} (h : w.ownsRow B e size v n xs) (hg : w.grownBy w' (some x)) (hx : x < B) : w'.ownsRow B e size v n xs := by
  have hlt := h.lt
  refine World.ownsRow.kept h hg ?_
  cases hk : v.ownBlock with
  | none => exact .inl rfl
  | some k =>
    refine .inr fun e2 => ?_
    have := (hlt k hk).1
    cases e2
    omega
theorem ownG_far {w w' : World} {B x : Nat} {v : Value} {g : Grid} (h : OwnG w B v g) (hg : w.grownBy w' (some x)) (hx : x < B) : OwnG w' B v g := by
  obtain ⟨us, h1, h2, h3⟩ := h
  exact ⟨us, row_far h1 hg hx, h2, fun i hi => row_far (h3 i hi) hg hx⟩
theorem OwnOv.far {w w' : World} {B x : Nat} {v vm vj : Value} {o : Ov} (h : OwnOv w B v vm vj o) (hg : w.grownBy w' (some x)) (hx : x < B) : OwnOv w' B v vm vj o :=
  ⟨ownG_far h.g hg hx, row_far h.mv hg hx, row_far h.jl hg hx⟩
end Go.Proofs.YtjonbhimbhidpaaDoor

namespace Go.Proofs.YtjonbhimbhidpaaDoor
open Go.RowKit

/-- a number from -2 to 2 -/
def smallI (z : Int) : Int := z % 5 - 2
theorem smallI_le (z : Int) : -2 ≤ smallI z ∧ smallI z ≤ 2 := by unfold smallI; omega
set_option maxHeartbeats 1000000 in
theorem smallK_any (z : Int) (w : World) (h0 : 0 ≤ z) (h1 : z < 256) :
    Calls Tryd.prog 26 #[.int .u8 z] w fun e w' => e = .returned (.int .i64 (smallI z)) ∧ w' = w := by
  go_enter Tryd.func26, Tryd.ntmps26
  go_wp2
  go_ret
  exact ⟨rfl, rfl⟩
/-- append of one row: what has turned -/
theorem wpl_app_row2 {ops : Array Oper} {rest : List Oper} {o : Oper} {a : Act} {Q : Exit → Act → World → Prop} {W : World} (u : Value) (z : List Str)
    (s x : Operand) (v : Value) (B : Nat) (g : Grid)
    (hgd : o.guard = none) (ho : o.op = .call { callee := .builtin .append, args := #[s, x], argTypes := #[22, 22] })
    (hs : a.eval s = v) (hx : a.eval x = .slice (some ⟨W.heap.size, 0, none⟩) 1 1)
    (hown : OwnG W B v g) (hu : OwnT W B u z) (hlen : g.length < 1000000) (hB : B ≤ W.heap.size)
    (h : ∀ v' w', OwnG w' B v' (g ++ [z]) → (W.alloc (.cells #[u] 71)).grownBy w' v.ownBlock → wpList Tryd.prog ops Q rest (a.put o.dst v') w') :
    wpList Tryd.prog ops Q (o :: rest) a (W.alloc (.cells #[u] 71)) := by
  have hty := ownG_type hown
  have hlt := ownG_lt hown
  obtain ⟨us, h1, h2, h3⟩ := hown
  have hu1 : u.oneCell' = true := by obtain ⟨a, c, rfl⟩ := ownT_slice hu; rfl
  refine wpl_appn hgd s x 22 71 ho (.slice none 0 0) 1 24 info71 rfl (by decide) Tryd.underlying22 v B g.length us hs h1 [u] rfl (by simpa using hu1) hx
    (by omega) (by unfold maxLen; omega) hB ?_
  intro v' w' g1 g2
  have hkeep : ∀ (q : Value) (ys : List Str), OwnT W B q ys → OwnT w' B q ys := by
    intro q ys hq
    have hqt := ownT_type hq
    have hql := ownT_lt hq
    have hq2 : OwnT (W.alloc (.cells #[u] 71)) B q ys := ownT_below hq ((Below.refl _ _).alloc (Nat.le_refl _) _)
    refine World.ownsRow.kept hq2 g2.grown ?_
    cases hk : q.ownBlock with
    | none => exact .inl rfl
    | some k =>
      refine .inr fun e => ?_
      obtain ⟨c1, e1⟩ := hqt k hk
      obtain ⟨c2, e2⟩ := hty k e.symm
      rw [e1] at e2
      simp at e2
  refine h v' w' ⟨us ++ [u], by rw [List.length_append]; exact g1, by simp [h2], fun i hi => ?_⟩ g2.grown
  rw [List.length_append] at hi
  by_cases hi2 : i < g.length
  · have e1 : (us ++ [u]).getD i undef = us.getD i undef := by simp [List.getD, List.getElem?_append, h2 ▸ hi2]
    have e2 : (g ++ [z]).getD i [] = g.getD i [] := by simp [List.getD, List.getElem?_append, hi2]
    rw [e1, e2]
    exact hkeep _ _ (h3 i hi2)
  · obtain rfl : i = g.length := by simp at hi; omega
    have e1 : (us ++ [u]).getD g.length undef = u := by rw [← h2]; simp [List.getD]
    have e2 : (g ++ [z]).getD g.length [] = z := by simp [List.getD]
    rw [e1, e2]
    exact hkeep _ _ hu
end Go.Proofs.YtjonbhimbhidpaaDoor

namespace Go.Proofs.YtjonbhimbhidpaaDoor
open Go.RowKit
section
variable {md : Region.Mode} {ops : Array Oper} {Q : Exit → Act → World → Prop} {S : World → Prop} {fuel : Nat} {listed : Array Bool} {a : Act} {w : World} {i : Nat} {o : Oper} {rs : List Nat}
theorem node_app1 (d B : Nat) (s x : Operand) (t e : TypeId) (z : Value) (size bytes : Nat) (hinf : (Tryd.prog.info? e).map (fun i => (i.zero, i.size, i.bytes)) = some (some z, size, bytes)) (hz : z.cells.size = size) (hsz : 0 < size)
    (ht : Tryd.prog.underlying t = some (.slice e)) (v : Value) (n : Nat) (xs : List Value) (gb : Nat) (us : List Value) (hus : us.length = size) (hone : ∀ u ∈ us, u.oneCell' = true)
    (hi : ops[i]? = some o) (hgd : o.guard = none) (ho : o.op = .call { callee := .builtin .append, args := #[s, x], argTypes := #[t, t] }) (hd : o.dst = some d)
    (hs' : a.eval s = v) (hx : a.eval x = .slice (some ⟨gb, 0, none⟩) 1 1) (hgb : w.heap[gb]? = some (.cells us.toArray e (0, 0)))
    (hown : w.ownsRow B e size v n xs) (hB : B ≤ w.heap.size) (hlen : n + 1 ≤ 1000000) (hby : bytes ≤ 100)
    (h : ∀ sa sn sc w', w'.ownsRow B e size (.slice sa sn sc) (n + 1) (xs ++ us) → w.grownBy w' v.ownBlock → S w' ∧ wpAnyH Tryd.prog md ops Q S fuel (listed.setIfInBounds i true) (a.put (some d) (.slice sa sn sc)) w')
    (hs : AllReadyH Tryd.prog md ops Q S fuel listed a w rs) : AllReadyH Tryd.prog md ops Q S fuel listed a w (i :: rs) := by
  refine AllReadyH.cons hi (fun K hK => ?_) hs
  cases hi0 : Tryd.prog.info? e with
  | none => rw [hi0] at hinf; cases hinf
  | some inf =>
    have hh := hinf
    rw [hi0] at hh
    simp only [Option.map_some, Option.some.injEq, Prod.mk.injEq] at hh
    obtain ⟨e1, e2, e3⟩ := hh
    have hbb : (n + 1) * bytes ≤ 140737488355328 := Nat.le_trans (Nat.mul_le_mul hlen hby) (by decide)
    refine step_append_lies _ hgd s x t ho B e inf z size bytes ht hi0 e1 e2 e3 hz hsz v n xs hs' hown ⟨gb, 0, none⟩ 1 1 us hx (by rw [Nat.one_mul]; exact hus) ?_ hone (by decide) (by unfold maxLen; omega) hbb hB _ rfl ?_
    · have h9 := World.news_of_block hgb
      simpa using h9
    · intro g' cap w1 hown1 hgrow hat hlt
      rw [hd]
      exact hK.out _ _ (h _ _ _ w1 hown1 hgrow).1 (fun _ => (h _ _ _ w1 hown1 hgrow).2)
theorem node_buildMv (d k : Nat) (i0 i1 i2 i3 : Int) (hi : ops[i]? = some o) (hgd : o.guard = none) (ho : o.op = .buildSlice 23 1 #[(0, .tmp k)]) (hd : o.dst = some d)
    (hp : a.tmps[k]?.getD undef = .agg #[.int .i64 i0, .int .i64 i1, .int .i64 i2, .int .i64 i3]) (hS : S (w.alloc (.cells #[.int .i64 i0, .int .i64 i1, .int .i64 i2, .int .i64 i3] 53)))
    (h : wpAnyH Tryd.prog md ops Q S fuel (listed.setIfInBounds i true) (a.put (some d) (.slice (some ⟨w.heap.size, 0, none⟩) 1 1)) (w.alloc (.cells #[.int .i64 i0, .int .i64 i1, .int .i64 i2, .int .i64 i3] 53)))
    (hs : AllReadyH Tryd.prog md ops Q S fuel listed a w rs) : AllReadyH Tryd.prog md ops Q S fuel listed a w (i :: rs) := by
  refine AllReadyH.cons hi (fun K hK => ?_) hs
  have hw : Region.wanted o (yielded ops a.tmps) = true := by simp [Region.wanted, hgd]
  rw [if_pos hw]
  have hk := hK.out _ _ hS (fun _ => h)
  unfold Oper.wp execOp
  simp [ho, go_sem, hp]
  rw [hd]
  exact hk
theorem node_buildJl (d k : Nat) (i0 i1 : Int) (hi : ops[i]? = some o) (hgd : o.guard = none) (ho : o.op = .buildSlice 24 1 #[(0, .tmp k)]) (hd : o.dst = some d)
    (hp : a.tmps[k]?.getD undef = .agg #[.int .i64 i0, .int .i64 i1]) (hS : S (w.alloc (.cells #[.int .i64 i0, .int .i64 i1] 55)))
    (h : wpAnyH Tryd.prog md ops Q S fuel (listed.setIfInBounds i true) (a.put (some d) (.slice (some ⟨w.heap.size, 0, none⟩) 1 1)) (w.alloc (.cells #[.int .i64 i0, .int .i64 i1] 55)))
    (hs : AllReadyH Tryd.prog md ops Q S fuel listed a w rs) : AllReadyH Tryd.prog md ops Q S fuel listed a w (i :: rs) := by
  refine AllReadyH.cons hi (fun K hK => ?_) hs
  have hw : Region.wanted o (yielded ops a.tmps) = true := by simp [Region.wanted, hgd]
  rw [if_pos hw]
  have hk := hK.out _ _ hS (fun _ => h)
  unfold Oper.wp execOp
  simp [ho, go_sem, hp]
  rw [hd]
  exact hk
theorem node_call26 (d k : Nat) (z : Int) (h0 : 0 ≤ z) (h1 : z < 256) (hi : ops[i]? = some o) (hgd : o.guard = none) (ho : o.op = .call { callee := .value (.func 26), args := #[.tmp k], argTypes := #[5] }) (hd : o.dst = some d)
    (hp : a.tmps[k]?.getD undef = .int .u8 z) (hS : S w)
    (h : wpAnyH Tryd.prog md ops Q S fuel (listed.setIfInBounds i true) (a.put (some d) (.int .i64 (smallI z))) w)
    (hs : AllReadyH Tryd.prog md ops Q S fuel listed a w rs) : AllReadyH Tryd.prog md ops Q S fuel listed a w (i :: rs) := by
  refine AllReadyH.cons hi (fun K hK => ?_) hs
  have hw : Region.wanted o (yielded ops a.tmps) = true := by simp [Region.wanted, hgd]
  rw [if_pos hw]
  have hk := hK.out _ _ hS (fun _ => h)
  unfold Oper.wp execOp
  simp [ho, go_sem, hp]
  refine (smallK_any z w h0 h1).mono ?_
  rintro e w' ⟨rfl, rfl⟩
  rw [hd]
  exact hk
end
end Go.Proofs.YtjonbhimbhidpaaDoor

namespace Go.Proofs.YtjonbhimbhidpaaDoor
open Go.RowKit
section
variable {md : Region.Mode} {ops : Array Oper} {Q : Exit → Act → World → Prop} {S : World → Prop} {fuel : Nat} {listed : Array Bool} {a : Act} {w : World} {i : Nat} {o : Oper} {rs : List Nat}
theorem node_load23 (d k : Nat) (ad : Addr) (v : Value) (hi : ops[i]? = some o) (hgd : o.guard = none) (ho : o.op = .load 23 (.tmp k)) (hd : o.dst = some d)
    (hp : a.tmps[k]?.getD undef = .pointer (some ad)) (hc : w.cell? ad = some v) (hS : S w)
    (h : wpAnyH Tryd.prog md ops Q S fuel (listed.setIfInBounds i true) (a.put (some d) v) w)
    (hs : AllReadyH Tryd.prog md ops Q S fuel listed a w rs) : AllReadyH Tryd.prog md ops Q S fuel listed a w (i :: rs) := by
  refine AllReadyH.cons hi (fun K hK => ?_) hs
  have hw : Region.wanted o (yielded ops a.tmps) = true := by simp [Region.wanted, hgd]
  rw [if_pos hw]
  have hk := hK.out _ _ hS (fun _ => h)
  unfold Oper.wp execOp
  simp [ho, go_sem, hp, hc]
  rw [hd]
  exact hk
theorem node_load24 (d k : Nat) (ad : Addr) (v : Value) (hi : ops[i]? = some o) (hgd : o.guard = none) (ho : o.op = .load 24 (.tmp k)) (hd : o.dst = some d)
    (hp : a.tmps[k]?.getD undef = .pointer (some ad)) (hc : w.cell? ad = some v) (hS : S w)
    (h : wpAnyH Tryd.prog md ops Q S fuel (listed.setIfInBounds i true) (a.put (some d) v) w)
    (hs : AllReadyH Tryd.prog md ops Q S fuel listed a w rs) : AllReadyH Tryd.prog md ops Q S fuel listed a w (i :: rs) := by
  refine AllReadyH.cons hi (fun K hK => ?_) hs
  have hw : Region.wanted o (yielded ops a.tmps) = true := by simp [Region.wanted, hgd]
  rw [if_pos hw]
  have hk := hK.out _ _ hS (fun _ => h)
  unfold Oper.wp execOp
  simp [ho, go_sem, hp, hc]
  rw [hd]
  exact hk
theorem node_store23 (k j : Nat) (X : Nat) (x y z : Value) (b : Option Addr) (n c : Nat)
    (hi : ops[i]? = some o) (hgd : o.guard = none) (ho : o.op = .store 23 (.tmp k) (.tmp j)) (hd : o.dst = none)
    (hp : a.tmps[k]?.getD undef = .pointer (some ⟨X, 1, none⟩)) (hv : a.tmps[j]?.getD undef = .slice b n c)
    (hh : w.heap[X]? = some (.cells #[x, y, z] 26)) (hS : S (w.setCell ⟨X, 1, none⟩ (.slice b n c)))
    (h : wpAnyH Tryd.prog md ops Q S fuel (listed.setIfInBounds i true) a (w.setCell ⟨X, 1, none⟩ (.slice b n c)))
    (hs : AllReadyH Tryd.prog md ops Q S fuel listed a w rs) : AllReadyH Tryd.prog md ops Q S fuel listed a w (i :: rs) := by
  refine AllReadyH.cons hi (fun K hK => ?_) hs
  have hw : Region.wanted o (yielded ops a.tmps) = true := by simp [Region.wanted, hgd]
  rw [if_pos hw]
  obtain ⟨k0, k1, k2⟩ := cells3_of hh
  obtain ⟨f0, f1, f2⟩ := free3_of hh
  have hk := hK.out _ _ hS (fun _ => h)
  unfold Oper.wp execOp
  simp [ho, go_sem, hp, hv, k1, f1]
  rw [hd]
  exact hk
theorem node_store24 (k j : Nat) (X : Nat) (x y z : Value) (b : Option Addr) (n c : Nat)
    (hi : ops[i]? = some o) (hgd : o.guard = none) (ho : o.op = .store 24 (.tmp k) (.tmp j)) (hd : o.dst = none)
    (hp : a.tmps[k]?.getD undef = .pointer (some ⟨X, 2, none⟩)) (hv : a.tmps[j]?.getD undef = .slice b n c)
    (hh : w.heap[X]? = some (.cells #[x, y, z] 26)) (hS : S (w.setCell ⟨X, 2, none⟩ (.slice b n c)))
    (h : wpAnyH Tryd.prog md ops Q S fuel (listed.setIfInBounds i true) a (w.setCell ⟨X, 2, none⟩ (.slice b n c)))
    (hs : AllReadyH Tryd.prog md ops Q S fuel listed a w rs) : AllReadyH Tryd.prog md ops Q S fuel listed a w (i :: rs) := by
  refine AllReadyH.cons hi (fun K hK => ?_) hs
  have hw : Region.wanted o (yielded ops a.tmps) = true := by simp [Region.wanted, hgd]
  rw [if_pos hw]
  obtain ⟨k0, k1, k2⟩ := cells3_of hh
  obtain ⟨f0, f1, f2⟩ := free3_of hh
  have hk := hK.out _ _ hS (fun _ => h)
  unfold Oper.wp execOp
  simp [ho, go_sem, hp, hv, k2, f2]
  rw [hd]
  exact hk
end
theorem mcells_snoc (ms : List Mv) (m : Mv) : mcells (ms ++ [m]) = mcells ms ++ [.int .i64 m.1, .int .i64 m.2.1, .int .i64 m.2.2.1, .int .i64 m.2.2.2] := by simp [mcells]
theorem jcells_snoc (js : List (Int × Int)) (m : Int × Int) : jcells (js ++ [m]) = jcells js ++ [.int .i64 m.1, .int .i64 m.2] := by simp [jcells]
section
variable {B bx : Nat} {v vm vj : Value} {g : Grid} {ms : List Mv} {js : List (Int × Int)} {w w' : World}
theorem grid_other {W W' : World} {B : Nat} {e' : TypeId} {q : Value} {g : Grid} {row : Option Nat} (h : OwnG W B q g) (hg : W.grownBy W' row) (ht : ∀ k, row = some k → ∃ cs, W.heap[k]? = some (.cells cs e')) (h1 : e' ≠ 71) (h2 : e' ≠ 9) : OwnG W' B q g := by
  obtain ⟨us, g1, g2, g3⟩ := h
  exact ⟨us, row_other g1 hg ht (Ne.symm h1), g2, fun i hi => row_other (g3 i hi) hg ht (Ne.symm h2)⟩
theorem Cut.boxM (h : Cut B bx v vm vj g ms js w) (hg : w.grownBy w' vm.ownBlock) : w'.heap[bx]? = some (.cells #[v, vm, vj] 26) := by
  refine (hg.block bx h.lt ?_).trans h.box
  intro e
  obtain ⟨cs, hc⟩ := row_type h.mv bx e.symm
  rw [h.box] at hc
  simp at hc
theorem Cut.boxJ (h : Cut B bx v vm vj g ms js w) (hg : w.grownBy w' vj.ownBlock) : w'.heap[bx]? = some (.cells #[v, vm, vj] 26) := by
  refine (hg.block bx h.lt ?_).trans h.box
  intro e
  obtain ⟨cs, hc⟩ := row_type h.jl bx e.symm
  rw [h.box] at hc
  simp at hc
theorem set1 {W : World} {g : Nat} {a b c x : Value} {t : TypeId} (h : W.heap[g]? = some (.cells #[a, b, c] t)) : (W.setCell ⟨g, 1, none⟩ x).heap[g]? = some (.cells #[a, x, c] t) := by
  simp [World.setCell, Array.getElem?_modify, h]
theorem set2 {W : World} {g : Nat} {a b c x : Value} {t : TypeId} (h : W.heap[g]? = some (.cells #[a, b, c] t)) : (W.setCell ⟨g, 2, none⟩ x).heap[g]? = some (.cells #[a, b, x] t) := by
  simp [World.setCell, Array.getElem?_modify, h]
theorem Cut.stepM {vm' : Value} {m : Mv} (h : Cut B bx v vm vj g ms js w) (hg : w.grownBy w' vm.ownBlock)
    (ho : w'.ownsRow B 53 4 vm' (ms.length + 1) (mcells ms ++ [.int .i64 m.1, .int .i64 m.2.1, .int .i64 m.2.2.1, .int .i64 m.2.2.2])) :
    Cut B bx v vm' vj g (ms ++ [m]) js (w'.setCell ⟨bx, 1, none⟩ vm') := by
  have h1 := h.boxM hg
  have ht0 := row_type h.mv
  have hs := grown_set w' ⟨bx, 1, none⟩ vm'
  have ht : ∀ k, some bx = some k → ∃ cs, w'.heap[k]? = some (.cells cs 26) := by
    intro k hk; cases hk; exact ⟨_, h1⟩
  rw [← mcells_snoc, show ms.length + 1 = (ms ++ [m]).length by simp] at ho
  exact ⟨h.hB, set1 h1, grid_other (grid_other h.g hg ht0 (by decide) (by decide)) hs ht (by decide) (by decide), row_other ho hs ht (by decide), row_other (row_other h.jl hg ht0 (by decide)) hs ht (by decide)⟩
theorem Cut.stepJ {vj' : Value} {m : Int × Int} (h : Cut B bx v vm vj g ms js w) (hg : w.grownBy w' vj.ownBlock)
    (ho : w'.ownsRow B 55 2 vj' (js.length + 1) (jcells js ++ [.int .i64 m.1, .int .i64 m.2])) :
    Cut B bx v vm vj' g ms (js ++ [m]) (w'.setCell ⟨bx, 2, none⟩ vj') := by
  have h1 := h.boxJ hg
  have ht0 := row_type h.jl
  have hs := grown_set w' ⟨bx, 2, none⟩ vj'
  have ht : ∀ k, some bx = some k → ∃ cs, w'.heap[k]? = some (.cells cs 26) := by
    intro k hk; cases hk; exact ⟨_, h1⟩
  rw [← jcells_snoc, show js.length + 1 = (js ++ [m]).length by simp] at ho
  exact ⟨h.hB, set2 h1, grid_other (grid_other h.g hg ht0 (by decide) (by decide)) hs ht (by decide) (by decide), row_other (row_other h.mv hg ht0 (by decide)) hs ht (by decide), row_other ho hs ht (by decide)⟩
/-- a list of jolts of one jolt, just made, is put into the box -/
theorem Cut.putJ {m : Int × Int} (h : Cut B bx v vm vj g ms [] w) (hB : B ≤ w.heap.size) :
    Cut B bx v vm (.slice (some ⟨w.heap.size, 0, none⟩) 1 1) g ms [m] ((w.alloc (.cells #[.int .i64 m.1, .int .i64 m.2] 55)).setCell ⟨bx, 2, none⟩ (.slice (some ⟨w.heap.size, 0, none⟩) 1 1)) := by
  have hb := (Below.refl w.heap.size w).alloc (Nat.le_refl _) (.cells #[.int .i64 m.1, .int .i64 m.2] 55)
  have h2 := h.below hb
  have hs := grown_set (w.alloc (.cells #[.int .i64 m.1, .int .i64 m.2] 55)) ⟨bx, 2, none⟩ (.slice (some ⟨w.heap.size, 0, none⟩) 1 1)
  have ht : ∀ k, some bx = some k → ∃ cs, (w.alloc (.cells #[.int .i64 m.1, .int .i64 m.2] 55)).heap[k]? = some (.cells cs 26) := by
    intro k hk; cases hk; exact ⟨_, h2.box⟩
  refine ⟨h.hB, set2 h2.box, grid_other h2.g hs ht (by decide) (by decide), row_other h2.mv hs ht (by decide), row_other ?_ hs ht (by decide)⟩
  exact ⟨by simp [jcells], .inr ⟨w.heap.size, 1, #[.int .i64 m.1, .int .i64 m.2], rfl, hB, heap_alloc_new _ _, Nat.le_refl _, by decide, by simp, by simp [jcells]⟩⟩
end
theorem add_succ (a : Addr) (n k : Nat) : a.add (n + (k + 1)) = { block := (a.add n).block, off := (a.add n).off + (k + 1) } := by
  unfold Addr.add
  rw [if_neg (by omega)]
  split
  · subst_vars; simp
  · simp [Nat.add_assoc]
theorem cells4_of {W : World} {g : Nat} {a b c d : Value} {t : TypeId} (h : W.heap[g]? = some (.cells #[a, b, c, d] t)) : W.cell? ⟨g, 0, none⟩ = some a ∧ W.cell? ⟨g, 1, none⟩ = some b ∧ W.cell? ⟨g, 2, none⟩ = some c ∧ W.cell? ⟨g, 3, none⟩ = some d := by
  refine ⟨?_, ?_, ?_, ?_⟩ <;> simp [World.cell?, h]
/-- the state of the region that puts a move into the box -/
structure R4 (X M : Nat) (w3 : World) (z0 z1 z2 z3 : Int) (v vm vj : Value) (g : Grid) (ms : List Mv) (js : List (Int × Int)) (w : World) : Prop where
  cut : Cut X X v vm vj g ms js w
  m : w.heap[M]? = some (.cells #[.int .u8 z0, .int .u8 z1, .int .u8 z2, .int .u8 z3] 46)
  below : Below X w3 w
section
variable {X M : Nat} {w3 w w' : World} {z0 z1 z2 z3 : Int} {v vm vj : Value} {g : Grid} {ms : List Mv} {js : List (Int × Int)}
theorem R4.keep (h : R4 X M w3 z0 z1 z2 z3 v vm vj g ms js w) : w.cell? ⟨X, 0, none⟩ = some v ∧ w.cell? ⟨M, 0, none⟩ = some (.int .u8 z0) ∧ w.cell? ⟨M, 1, none⟩ = some (.int .u8 z1) ∧ w.cell? ⟨M, 2, none⟩ = some (.int .u8 z2) ∧ w.cell? ⟨M, 3, none⟩ = some (.int .u8 z3) ∧ Hid (Below X w3 w) := by
  obtain ⟨a, b, c, d⟩ := cells4_of h.m
  exact ⟨(cells3_of h.cut.box).1, a, b, c, d, h.below⟩
theorem R4.box (h : R4 X M w3 z0 z1 z2 z3 v vm vj g ms js w) : w.heap[X]? = some (.cells #[v, vm, vj] 26) := h.cut.box
theorem R4.lt (h : R4 X M w3 z0 z1 z2 z3 v vm vj g ms js w) : X ≤ w.heap.size := Nat.le_of_lt h.cut.lt
theorem R4.start {wr : World} (h : Cut X X v vm vj g ms js wr) (hb : Below X w3 wr) : R4 X wr.heap.size w3 z0 z1 z2 z3 v vm vj g ms js (wr.alloc (.cells #[.int .u8 z0, .int .u8 z1, .int .u8 z2, .int .u8 z3] 46)).drew :=
  ⟨(h.below ((Below.refl _ _).alloc (Nat.le_refl _) _)).below ((Below.refl _ _).drew), heap_alloc_new _ _, (hb.alloc (Nat.le_of_lt h.lt) _).drew⟩
theorem R4.step (h : R4 X M w3 z0 z1 z2 z3 v vm vj g ms js w) (hb : Below w.heap.size w w') : R4 X M w3 z0 z1 z2 z3 v vm vj g ms js w' :=
  ⟨h.cut.below hb, (hb.block M (heap_lt h.m)).trans h.m, h.below.trans (hb.mono h.lt)⟩
theorem R4.made (h : R4 X M w3 z0 z1 z2 z3 v vm vj g ms js w) {o : Obj} : R4 X M w3 z0 z1 z2 z3 v vm vj g ms js (w.alloc o) := h.step ((Below.refl _ _).alloc (Nat.le_refl _) _)
theorem R4.new (_ : R4 X M w3 z0 z1 z2 z3 v vm vj g ms js w) (o : Obj) : (w.alloc o).heap[w.heap.size]? = some o := heap_alloc_new _ _
/-- the state of the region when the append is done: the list that is to be stored -/
structure R5 (X M : Nat) (w3 : World) (z0 z1 z2 z3 : Int) (v vm vm' vj : Value) (g : Grid) (ms : List Mv) (js : List (Int × Int)) (w : World) : Prop where
  box : w.heap[X]? = some (.cells #[v, vm, vj] 26)
  fin : Cut X X v vm' vj g ms js (w.setCell ⟨X, 1, none⟩ vm')
  m : w.heap[M]? = some (.cells #[.int .u8 z0, .int .u8 z1, .int .u8 z2, .int .u8 z3] 46)
  below : Below X w3 w
theorem R4.app {sa : Option Addr} {sn sc : Nat} (m : Mv) (h : R4 X M w3 z0 z1 z2 z3 v vm vj g ms js w) (hg : w.grownBy w' vm.ownBlock)
    (ho : w'.ownsRow X 53 4 (.slice sa sn sc) (ms.length + 1) (mcells ms ++ [.int .i64 m.1, .int .i64 m.2.1, .int .i64 m.2.2.1, .int .i64 m.2.2.2])) :
    R5 X M w3 z0 z1 z2 z3 v vm (.slice sa sn sc) vj g (ms ++ [m]) js w' := by
  refine ⟨h.cut.boxM hg, h.cut.stepM hg ho, (hg.block M (heap_lt h.m) ?_).trans h.m, h.below.grown hg h.lt (fun k hk => (h.cut.mv.lt k hk).1)⟩
  intro e
  obtain ⟨cs, hc⟩ := row_type h.cut.mv M e.symm
  rw [h.m] at hc
  simp at hc
theorem R5.keep {vm' : Value} (h : R5 X M w3 z0 z1 z2 z3 v vm vm' vj g ms js w) : w.cell? ⟨X, 0, none⟩ = some v ∧ w.cell? ⟨M, 0, none⟩ = some (.int .u8 z0) ∧ w.cell? ⟨M, 1, none⟩ = some (.int .u8 z1) ∧ w.cell? ⟨M, 2, none⟩ = some (.int .u8 z2) ∧ w.cell? ⟨M, 3, none⟩ = some (.int .u8 z3) ∧ Hid (Below X w3 w) := by
  obtain ⟨a, b, c, d⟩ := cells4_of h.m
  exact ⟨(cells3_of h.box).1, a, b, c, d, h.below⟩
theorem R5.set {vm' : Value} (h : R5 X M w3 z0 z1 z2 z3 v vm vm' vj g ms js w) : R4 X M w3 z0 z1 z2 z3 v vm' vj g ms js (w.setCell ⟨X, 1, none⟩ vm') := by
  have hne : M ≠ X := block_ne h.m h.box (by decide)
  exact ⟨h.fin, (Below.heap_setCell _ _ _ _ hne).trans h.m, h.below.setCell (p := ⟨X, 1, none⟩) (Nat.le_refl _) _⟩
end
/-- the state of the region that puts a jolt into the box, ahead of the append and behind it -/
structure R6 (X : Nat) (w3 : World) (v vm vj : Value) (g : Grid) (ms : List Mv) (js : List (Int × Int)) (w : World) : Prop where
  cut : Cut X X v vm vj g ms js w
  below : Below X w3 w
structure R7 (X : Nat) (w3 : World) (v vm vj vj' : Value) (g : Grid) (ms : List Mv) (js : List (Int × Int)) (w : World) : Prop where
  box : w.heap[X]? = some (.cells #[v, vm, vj] 26)
  fin : Cut X X v vm vj' g ms js (w.setCell ⟨X, 2, none⟩ vj')
  below : Below X w3 w
section
variable {X : Nat} {w3 w w' : World} {v vm vj : Value} {g : Grid} {ms : List Mv} {js : List (Int × Int)}
theorem R6.box (h : R6 X w3 v vm vj g ms js w) : w.heap[X]? = some (.cells #[v, vm, vj] 26) := h.cut.box
theorem R6.lt (h : R6 X w3 v vm vj g ms js w) : X ≤ w.heap.size := Nat.le_of_lt h.cut.lt
theorem R6.made {o : Obj} (h : R6 X w3 v vm vj g ms js w) : R6 X w3 v vm vj g ms js (w.alloc o) :=
  ⟨h.cut.below ((Below.refl _ _).alloc (Nat.le_refl _) _), h.below.alloc h.lt _⟩
theorem R6.new (_ : R6 X w3 v vm vj g ms js w) (o : Obj) : (w.alloc o).heap[w.heap.size]? = some o := heap_alloc_new _ _
theorem R6.app {sa : Option Addr} {sn sc : Nat} (m : Int × Int) (h : R6 X w3 v vm vj g ms js w) (hg : w.grownBy w' vj.ownBlock)
    (ho : w'.ownsRow X 55 2 (.slice sa sn sc) (js.length + 1) (jcells js ++ [.int .i64 m.1, .int .i64 m.2])) :
    R7 X w3 v vm vj (.slice sa sn sc) g ms (js ++ [m]) w' :=
  ⟨h.cut.boxJ hg, h.cut.stepJ hg ho, h.below.grown hg h.lt (fun k hk => (h.cut.jl.lt k hk).1)⟩
theorem R7.set {vj' : Value} (h : R7 X w3 v vm vj vj' g ms js w) : R6 X w3 v vm vj' g ms js (w.setCell ⟨X, 2, none⟩ vj') :=
  ⟨h.fin, h.below.setCell (p := ⟨X, 2, none⟩) (Nat.le_refl _) _⟩
end
theorem alloc_set (w : World) (o : Obj) (a : Addr) (u : Value) (h : a.block < w.heap.size) : (w.setCell a u).alloc o = (w.alloc o).setCell a u := by
  unfold World.alloc World.setCell
  simp only [World.mk.injEq, and_true]
  apply Array.ext_getElem?
  intro i
  simp only [Array.getElem?_modify, Array.getElem?_push, Array.size_modify]
  by_cases h1 : i = w.heap.size
  · simp [h1]
    intro h3; omega
  · simp [h1]
theorem Cut.putJ' {B bx : Nat} {v vm vj : Value} {g : Grid} {ms : List Mv} {w : World} {m : Int × Int} (h : Cut B bx v vm vj g ms [] w) (hB : B ≤ w.heap.size) :
    Cut B bx v vm (.slice (some ⟨w.heap.size, 0, none⟩) 1 1) g ms [m] ((w.setCell ⟨bx, 2, none⟩ (.slice (some ⟨w.heap.size, 0, none⟩) 1 1)).alloc (.cells #[.int .i64 m.1, .int .i64 m.2] 55)) := by
  rw [alloc_set _ _ _ _ h.lt]
  exact h.putJ hB
theorem made_valid {P R C : Nat} {g : Grid} {ms : List Mv} {js : List (Int × Int)} (hg : g.length = P + 1) (hgo : ∀ s ∈ g, phaseOk (R + 1) (C + 1) s = true) (hP : P ≤ 1) (hR : R ≤ 5) (hC : C ≤ 5)
    (hm : ∀ m ∈ ms, mvOk (P + 1) m = true) (hml : ms.length ≤ 8) (hj : ∀ j ∈ js, jlOk j = true) (hjl : 1 ≤ js.length ∧ js.length ≤ 4) : Ov.valid ⟨g, ms, js⟩ = true := by
  match g, hg with
  | p :: g', hg =>
    have h0 := hgo p (by simp)
    unfold phaseOk rowsOk at h0
    simp only [Bool.and_eq_true, decide_eq_true_eq, List.all_eq_true] at h0
    match p, h0 with
    | s :: p', h0 =>
      have h1 := h0.2 s (by simp)
      unfold rowOk at h1
      simp only [Bool.and_eq_true, decide_eq_true_eq] at h1
      have eP : Ov.P ⟨(s :: p') :: g', ms, js⟩ = P + 1 := hg
      have eR : Ov.R ⟨(s :: p') :: g', ms, js⟩ = R + 1 := h0.1
      have eC : Ov.C ⟨(s :: p') :: g', ms, js⟩ = C + 1 := h1.1
      unfold Ov.valid
      rw [eP, eR, eC]
      unfold formB
      simp only [Bool.and_eq_true, decide_eq_true_eq, List.all_eq_true]
      exact ⟨⟨⟨by omega, hg, hgo⟩, hm⟩, hj⟩
    | [], h0 => simp at h0
theorem wrap_small {z : Int} (h0 : 0 ≤ z) (h1 : z < 256) : IntKind.i64.wrap z = z := by rw [IntKind.wrap_i64]; omega
end Go.Proofs.YtjonbhimbhidpaaDoor

namespace Go.Proofs.YtjonbhimbhidpaaDoor
open Go.RowKit Go.ChangeShapes Go.WideShapes Go.Deep Go.Joins
/-- the numbers of an oven that came in -/
structure ArgKiln (w : World) (ph ro wi : Int) (ca : Option Addr) (cn cc : Nat) (ma : Option Addr) (mn mc : Nat) (ja : Option Addr) (jn jc : Nat) : Prop where
  ph : 0 ≤ ph ∧ ph < 256
  ro : 0 ≤ ro ∧ ro < 256
  wi : 0 ≤ wi ∧ wi < 256
  cells : cn ≤ maxLen ∧ ∀ i, i < cn → ∃ ad z, ca = some ad ∧ ad.block < w.heap.size ∧ w.cell? (ad.add i) = some (.int .u8 z) ∧ 0 ≤ z ∧ z < 256
  moves : mn ≤ maxLen ∧ ∀ i, i < mn → ∃ ad z0 z1 z2 z3, ma = some ad ∧ ad.block < w.heap.size ∧ w.cell? (ad.add (i * 4)) = some (.int .u8 z0) ∧ w.cell? (ad.add (i * 4 + 1)) = some (.int .u8 z1) ∧ w.cell? (ad.add (i * 4 + 2)) = some (.int .u8 z2) ∧ w.cell? (ad.add (i * 4 + 3)) = some (.int .u8 z3) ∧ (0 ≤ z0 ∧ z0 < 256) ∧ (0 ≤ z1 ∧ z1 < 256) ∧ (0 ≤ z2 ∧ z2 < 256) ∧ (0 ≤ z3 ∧ z3 < 256)
  jolts : jn ≤ maxLen ∧ ∀ i, i < jn → ∃ ad z0 z1, ja = some ad ∧ ad.block < w.heap.size ∧ w.cell? (ad.add (i * 2)) = some (.int .u8 z0) ∧ w.cell? (ad.add (i * 2 + 1)) = some (.int .u8 z1) ∧ (0 ≤ z0 ∧ z0 < 256) ∧ (0 ≤ z1 ∧ z1 < 256)
section
variable {H : Type} {enc : TypeId × Value → H} {P : Program} {w : World} {base : Nat} {spare : Nat → Bool} {held : Bool}
theorem trod_array2 {t e : TypeId} {fuel : Nat} {c0 c1 : Value} {x : DataW H × List MemPlace} (ht : P.underlying t = some (.array 2 e)) (hce : P.cellsOf e = 1)
    (h : DataW.trod enc P w base spare held fuel t [c0, c1] = some x) : ∃ n y0 y1, DataW.trod enc P w base spare held n e [c0] = some y0 ∧ DataW.trod enc P w base spare held n e [c1] = some y1 := by
  obtain ⟨xs, m, _, _, _, hn, hi⟩ := DataW.trod_array ht h
  rw [hce] at hi
  match xs, hn with
  | [x0, x1], _ => exact ⟨m, x0, x1, by simpa using hi 0 (by decide), by simpa using hi 1 (by decide)⟩
theorem array_len {t e : TypeId} {n k fuel : Nat} {cs : List Value} {x : DataW H × List MemPlace} (ht : P.underlying t = some (.array n e)) (hc : P.cellsOf t = k) (h : DataW.trod enc P w base spare held fuel t cs = some x) : cs.length = k := by
  obtain ⟨xs, m, _, _, h1, _⟩ := DataW.trod_array ht h
  rw [h1, hc]
theorem open_fields6 {t : TypeId} {f0 f1 f2 f3 f4 f5 : Field} {fuel : Nat} {c0 c1 c2 c3 c4 c5 : Value} {x : DataW H × List MemPlace} (hs : P.underlying t = some (.struct #[f0, f1, f2, f3, f4, f5])) (hone : oneCellFields P #[f0, f1, f2, f3, f4, f5] = true)
    (h : DataW.trod enc P w base spare held fuel t [c0, c1, c2, c3, c4, c5] = some x) :
    ∃ n y0 y1 y2 y3 y4 y5, DataW.trod enc P w base spare held n f0.type [c0] = some y0 ∧ DataW.trod enc P w base spare held n f1.type [c1] = some y1 ∧ DataW.trod enc P w base spare held n f2.type [c2] = some y2 ∧
      DataW.trod enc P w base spare held n f3.type [c3] = some y3 ∧ DataW.trod enc P w base spare held n f4.type [c4] = some y4 ∧ DataW.trod enc P w base spare held n f5.type [c5] = some y5 := by
  obtain ⟨xs, n, _, _, _, hlen, hi⟩ := DataW.trod_struct hs h
  obtain ⟨o0, k0⟩ := hone_of hone 0 f0 rfl
  obtain ⟨o1, k1⟩ := hone_of hone 1 f1 rfl
  obtain ⟨o2, k2⟩ := hone_of hone 2 f2 rfl
  obtain ⟨o3, k3⟩ := hone_of hone 3 f3 rfl
  obtain ⟨o4, k4⟩ := hone_of hone 4 f4 rfl
  obtain ⟨o5, k5⟩ := hone_of hone 5 f5 rfl
  match xs, hlen with
  | [x0, x1, x2, x3, x4, x5], _ =>
    exact ⟨n, x0, x1, x2, x3, x4, x5, by simpa [o0, k0] using hi 0 f0 rfl, by simpa [o1, k1] using hi 1 f1 rfl, by simpa [o2, k2] using hi 2 f2 rfl, by simpa [o3, k3] using hi 3 f3 rfl, by simpa [o4, k4] using hi 4 f4 rfl, by simpa [o5, k5] using hi 5 f5 rfl⟩
end
section
variable {H : Type} {enc : TypeId × Value → H} {w : World} {base : Nat} {held : Bool}
theorem wf_u8 {z : Int} (h : (Lit.int .u8 z).wf = true) : 0 ≤ z ∧ z < 256 := by
  unfold Lit.wf at h
  rw [Bool.and_eq_true, decide_eq_true_eq, decide_eq_true_eq] at h
  have h1 : IntKind.u8.min = 0 := by decide
  have h2 : IntKind.u8.max = 255 := by decide
  omega
theorem trod_u8 {n : Nat} {v : Value} {y : DataW H × List MemPlace} (h : DataW.trod enc Tryd.prog w base (fun _ => true) held n 5 [v] = some y) : ∃ z, v = .int .u8 z ∧ 0 ≤ z ∧ z < 256 := by
  obtain ⟨z, hz, _, g⟩ := DataW.trod_int Tryd.underlying5 h
  simp only [List.cons.injEq, and_true] at hz
  exact ⟨z, hz, wf_u8 g⟩
theorem read_row8 {n : Nat} {v : Value} {y : DataW H × List MemPlace} (h : DataW.trod enc Tryd.prog w base (fun _ => true) held n 41 [v] = some y) :
    ∃ ca cn cc, v = .slice ca cn cc ∧ cn ≤ maxLen ∧ ∀ i, i < cn → ∃ ad z, ca = some ad ∧ ad.block < w.heap.size ∧ w.cell? (ad.add i) = some (.int .u8 z) ∧ 0 ≤ z ∧ z < 256 := by
  rcases open_slice1 Tryd.underlying41 (by kernel_rfl) h with ⟨hcs, _⟩ | ⟨a, len, cap, m, n', V, D, Pl, hcs, _, hl, hm, hmm, _, hc⟩
  · simp only [List.cons.injEq, and_true] at hcs
    exact ⟨none, 0, 0, hcs, by decide, fun i hi => by omega⟩
  · simp only [List.cons.injEq, and_true] at hcs
    simp only [if_true] at hmm
    refine ⟨some a, len, cap, hcs, by omega, fun i hi => ?_⟩
    obtain ⟨hcell, ht⟩ := hc i (by omega)
    obtain ⟨z, hz, g⟩ := trod_u8 ht
    rw [hz] at hcell
    have := World.block_lt_of_cell? w _ hcell
    rw [add_block] at this
    exact ⟨a, z, rfl, this, hcell, g⟩
theorem trod_arr4 {n : Nat} {cs : List Value} {y : DataW H × List MemPlace} (h : DataW.trod enc Tryd.prog w base (fun _ => true) held n 46 cs = some y) :
    ∃ z0 z1 z2 z3, cs = [.int .u8 z0, .int .u8 z1, .int .u8 z2, .int .u8 z3] ∧ (0 ≤ z0 ∧ z0 < 256) ∧ (0 ≤ z1 ∧ z1 < 256) ∧ (0 ≤ z2 ∧ z2 < 256) ∧ (0 ≤ z3 ∧ z3 < 256) := by
  have hl : cs.length = 4 := array_len Tryd.underlying46 (by kernel_rfl) h
  match cs, hl with
  | [c0, c1, c2, c3], _ =>
    obtain ⟨y0, y1, y2, y3, k, _, h0, h1, h2, h3⟩ := trod_array4 Tryd.underlying46 (by kernel_rfl) h
    obtain ⟨z0, rfl, g0⟩ := trod_u8 h0
    obtain ⟨z1, rfl, g1⟩ := trod_u8 h1
    obtain ⟨z2, rfl, g2⟩ := trod_u8 h2
    obtain ⟨z3, rfl, g3⟩ := trod_u8 h3
    exact ⟨z0, z1, z2, z3, rfl, g0, g1, g2, g3⟩
theorem trod_arr2 {n : Nat} {cs : List Value} {y : DataW H × List MemPlace} (h : DataW.trod enc Tryd.prog w base (fun _ => true) held n 47 cs = some y) :
    ∃ z0 z1, cs = [.int .u8 z0, .int .u8 z1] ∧ (0 ≤ z0 ∧ z0 < 256) ∧ (0 ≤ z1 ∧ z1 < 256) := by
  have hl : cs.length = 2 := array_len Tryd.underlying47 (by kernel_rfl) h
  match cs, hl with
  | [c0, c1], _ =>
    obtain ⟨k, y0, y1, h0, h1⟩ := trod_array2 Tryd.underlying47 (by kernel_rfl) h
    obtain ⟨z0, rfl, g0⟩ := trod_u8 h0
    obtain ⟨z1, rfl, g1⟩ := trod_u8 h1
    exact ⟨z0, z1, rfl, g0, g1⟩
theorem read_row4 {n : Nat} {v : Value} {y : DataW H × List MemPlace} (h : DataW.trod enc Tryd.prog w base (fun _ => true) held n 42 [v] = some y) :
    ∃ ma mn mc, v = .slice ma mn mc ∧ mn ≤ maxLen ∧ ∀ i, i < mn → ∃ ad z0 z1 z2 z3, ma = some ad ∧ ad.block < w.heap.size ∧ w.cell? (ad.add (i * 4)) = some (.int .u8 z0) ∧ w.cell? (ad.add (i * 4 + 1)) = some (.int .u8 z1) ∧ w.cell? (ad.add (i * 4 + 2)) = some (.int .u8 z2) ∧ w.cell? (ad.add (i * 4 + 3)) = some (.int .u8 z3) ∧ (0 ≤ z0 ∧ z0 < 256) ∧ (0 ≤ z1 ∧ z1 < 256) ∧ (0 ≤ z2 ∧ z2 < 256) ∧ (0 ≤ z3 ∧ z3 < 256) := by
  have c46 : Tryd.prog.cellsOf 46 = 4 := by kernel_rfl
  rcases open_slice Tryd.underlying42 h with ⟨hcs, _⟩ | ⟨a, len, cap, m, n', D, Pl, hcs, _, hl, hm, hmm, _, hc⟩
  · simp only [List.cons.injEq, and_true] at hcs
    exact ⟨none, 0, 0, hcs, by decide, fun i hi => by omega⟩
  · simp only [List.cons.injEq, and_true] at hcs
    simp only [if_true] at hmm
    refine ⟨some a, len, cap, hcs, by omega, fun i hi => ?_⟩
    obtain ⟨cs', hcs', ht⟩ := hc i (by omega)
    rw [c46] at hcs'
    obtain ⟨_, hlen, hat⟩ := World.cells?_some hcs'
    obtain ⟨z0, z1, z2, z3, rfl, g0, g1, g2, g3⟩ := trod_arr4 ht
    have k0 := hat 0 (by decide)
    have k1 := hat 1 (by decide)
    have k2 := hat 2 (by decide)
    have k3 := hat 3 (by decide)
    rw [add_add] at k0 k1 k2 k3
    have := World.block_lt_of_cell? w _ k0
    rw [add_block] at this
    exact ⟨a, z0, z1, z2, z3, rfl, this, k0, k1, k2, k3, g0, g1, g2, g3⟩
theorem read_row2 {n : Nat} {v : Value} {y : DataW H × List MemPlace} (h : DataW.trod enc Tryd.prog w base (fun _ => true) held n 43 [v] = some y) :
    ∃ ja jn jc, v = .slice ja jn jc ∧ jn ≤ maxLen ∧ ∀ i, i < jn → ∃ ad z0 z1, ja = some ad ∧ ad.block < w.heap.size ∧ w.cell? (ad.add (i * 2)) = some (.int .u8 z0) ∧ w.cell? (ad.add (i * 2 + 1)) = some (.int .u8 z1) ∧ (0 ≤ z0 ∧ z0 < 256) ∧ (0 ≤ z1 ∧ z1 < 256) := by
  have c47 : Tryd.prog.cellsOf 47 = 2 := by kernel_rfl
  rcases open_slice Tryd.underlying43 h with ⟨hcs, _⟩ | ⟨a, len, cap, m, n', D, Pl, hcs, _, hl, hm, hmm, _, hc⟩
  · simp only [List.cons.injEq, and_true] at hcs
    exact ⟨none, 0, 0, hcs, by decide, fun i hi => by omega⟩
  · simp only [List.cons.injEq, and_true] at hcs
    simp only [if_true] at hmm
    refine ⟨some a, len, cap, hcs, by omega, fun i hi => ?_⟩
    obtain ⟨cs', hcs', ht⟩ := hc i (by omega)
    rw [c47] at hcs'
    obtain ⟨_, hlen, hat⟩ := World.cells?_some hcs'
    obtain ⟨z0, z1, rfl, g0, g1⟩ := trod_arr2 ht
    have k0 := hat 0 (by decide)
    have k1 := hat 1 (by decide)
    rw [add_add] at k0 k1
    have := World.block_lt_of_cell? w _ k0
    rw [add_block] at this
    exact ⟨a, z0, z1, rfl, this, k0, k1, g0, g1⟩
set_option maxRecDepth 100000 in
theorem read_kiln {b0 : Nat} {v : Value} {d : DataW H} {p : List MemPlace} (hv : Value.okWide Tryd.prog w .any b0 45 v) (h : DataW.Trod enc Tryd.prog w base (fun _ => true) held 45 v d p) :
    ∃ ph ro wi ca cn cc ma mn mc ja jn jc, v = .agg #[.int .u8 ph, .int .u8 ro, .int .u8 wi, .slice ca cn cc, .slice ma mn mc, .slice ja jn jc] ∧ ArgKiln w ph ro wi ca cn cc ma mn mc ja jn jc := by
  have c45 : Tryd.prog.cellsOf 45 = 6 := by kernel_rfl
  obtain ⟨cs, rfl, hsz⟩ := okWide_struct Tryd.underlying45 hv
  rw [c45] at hsz
  obtain ⟨cs⟩ := cs
  obtain ⟨fuel, hf⟩ := h
  match cs, hsz with
  | [v0, v1, v2, v3, v4, v5], _ =>
    obtain ⟨n, x0, x1, x2, x3, x4, x5, h0, h1, h2, h3, h4, h5⟩ := open_fields6 (c0 := v0) (c1 := v1) (c2 := v2) (c3 := v3) (c4 := v4) (c5 := v5) Tryd.underlying45 (by kernel_rfl) hf
    obtain ⟨ph, rfl, g0⟩ := trod_u8 h0
    obtain ⟨ro, rfl, g1⟩ := trod_u8 h1
    obtain ⟨wi, rfl, g2⟩ := trod_u8 h2
    obtain ⟨ca, cn, cc, rfl, g3⟩ := read_row8 h3
    obtain ⟨ma, mn, mc, rfl, g4⟩ := read_row4 h4
    obtain ⟨ja, jn, jc, rfl, g5⟩ := read_row2 h5
    exact ⟨ph, ro, wi, ca, cn, cc, ma, mn, mc, ja, jn, jc, rfl, g0, g1, g2, g3, g4, g5⟩
set_option maxRecDepth 100000 in
theorem read_arr4 {b0 : Nat} {v : Value} {d : DataW H} {p : List MemPlace} (hv : Value.okWide Tryd.prog w .any b0 46 v) (h : DataW.Trod enc Tryd.prog w base (fun _ => true) held 46 v d p) :
    ∃ z0 z1 z2 z3, v = .agg #[.int .u8 z0, .int .u8 z1, .int .u8 z2, .int .u8 z3] ∧ (0 ≤ z0 ∧ z0 < 256) ∧ (0 ≤ z1 ∧ z1 < 256) ∧ (0 ≤ z2 ∧ z2 < 256) ∧ (0 ≤ z3 ∧ z3 < 256) := by
  simp only [Value.okWide, Tryd.underlying46] at hv
  obtain ⟨cs, rfl, hsz, _⟩ := hv
  obtain ⟨fuel, hf⟩ := h
  obtain ⟨z0, z1, z2, z3, hz, g⟩ := trod_arr4 hf
  obtain ⟨cs⟩ := cs
  simp [Value.cells] at hz
  subst hz
  exact ⟨z0, z1, z2, z3, rfl, g⟩
set_option maxRecDepth 100000 in
theorem read_arr2 {b0 : Nat} {v : Value} {d : DataW H} {p : List MemPlace} (hv : Value.okWide Tryd.prog w .any b0 47 v) (h : DataW.Trod enc Tryd.prog w base (fun _ => true) held 47 v d p) :
    ∃ z0 z1, v = .agg #[.int .u8 z0, .int .u8 z1] ∧ (0 ≤ z0 ∧ z0 < 256) ∧ (0 ≤ z1 ∧ z1 < 256) := by
  simp only [Value.okWide, Tryd.underlying47] at hv
  obtain ⟨cs, rfl, hsz, _⟩ := hv
  obtain ⟨fuel, hf⟩ := h
  obtain ⟨z0, z1, hz, g⟩ := trod_arr2 hf
  obtain ⟨cs⟩ := cs
  simp [Value.cells] at hz
  subst hz
  exact ⟨z0, z1, rfl, g⟩
end
end Go.Proofs.YtjonbhimbhidpaaDoor
