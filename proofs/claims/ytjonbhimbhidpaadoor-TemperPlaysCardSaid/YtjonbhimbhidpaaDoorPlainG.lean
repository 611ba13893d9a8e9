/-
  Plain facts of chapter 6: the cells to which one comes by the first moves that stay in the kernel.
-/
import Derived.Test.YtjonbhimbhidpaaDoorPlainF
namespace Go.Proofs.YtjonbhimbhidpaaDoor
theorem firstMove_spec (o : Ov) (S : Sp → Bool) (c : Sp) : ∀ (ms : List Mv) (k : Nat), ms.any (o.leads S c) = true → ∃ i, ∃ h : i < ms.length, firstMove o S c k ms = ((k + i : Nat) : Int) ∧ o.leads S c ms[i] = true
  | [], k, h => by simp at h
  | m :: ms, k, h => by
    unfold firstMove
    by_cases hm : o.leads S c m = true
    · exact ⟨0, by simp, by rw [if_pos hm]; rfl, hm⟩
    · rw [List.any_cons, Bool.or_eq_true] at h
      obtain ⟨i, hi, h1, h2⟩ := firstMove_spec o S c ms (k + 1) (h.resolve_left hm)
      exact ⟨i + 1, by simpa using hi, by rw [if_neg hm, h1]; congr 1; omega, by simpa using h2⟩
theorem move_specK (o : Ov) (S : Sp → Bool) (c : Sp) (h : o.canM S c = true) : ∃ i, ∃ hi : i < o.moves.length, o.move S c = (i : Int) ∧ o.leads S c o.moves[i] = true := by
  obtain ⟨i, hi, h1, h2⟩ := firstMove_spec o S c o.moves 0 h
  exact ⟨i, hi, by unfold Ov.move; rw [h1, Nat.zero_add], h2⟩
/-- the cell to which one comes by the kernel's first move, under a jolt -/
def Ov.nextK (o : Ov) (s : Sp) (j : Int) : Sp := stepOf s (o.moves.getD (o.move o.KK s).toNat (0, 0, 0, 0)) (o.jolts.getD j.toNat (0, 0))
/-- the cell behind some jolts -/
def Ov.walk (o : Ov) (s : Sp) (js : List Int) (i : Nat) : Sp := (js.take i).foldl o.nextK s
/-- all cells to which one comes -/
def Ov.play (o : Ov) (s : Sp) (js : List Int) : List Sp := (List.range js.length).map fun i => o.walk s js (i + 1)
def Ov.jok (o : Ov) (j : Int) : Bool := decide (0 ≤ j ∧ j < (o.jolts.length : Int))
theorem walk_zero (o : Ov) (s : Sp) (js : List Int) : o.walk s js 0 = s := rfl
theorem walk_succ (o : Ov) (s : Sp) (js : List Int) (i : Nat) (h : i < js.length) : o.walk s js (i + 1) = o.nextK (o.walk s js i) (js.getD i 0) := by
  unfold Ov.walk
  rw [List.take_succ_eq_append_getElem h, List.foldl_append, List.getD_eq_getElem?_getD, List.getElem?_eq_getElem h]
  rfl
theorem play_len (o : Ov) (s : Sp) (js : List Int) : (o.play s js).length = js.length := by simp [Ov.play]
theorem play_take (o : Ov) (s : Sp) (js : List Int) (i : Nat) (h : i < js.length) : (o.play s js).take (i + 1) = (o.play s js).take i ++ [o.walk s js (i + 1)] := by
  have hl : i < (o.play s js).length := by rw [play_len]; exact h
  rw [List.take_succ_eq_append_getElem hl]
  simp [Ov.play]
theorem nextK_spec (o : Ov) (s : Sp) (j : Int) (hs : o.KK s = true) (hj : o.jok j = true) :
    ∃ (m n : Nat) (hm : m < o.moves.length) (hn : n < o.jolts.length), o.move o.KK s = (m : Int) ∧ j = (n : Int) ∧ o.nextK s j = stepOf s o.moves[m] o.jolts[n] ∧ o.KK (o.nextK s j) = true := by
  obtain ⟨m, hm, h1, h2⟩ := move_specK o o.KK s (KK_move o s hs)
  unfold Ov.jok at hj
  rw [decide_eq_true_eq] at hj
  have hn : j.toNat < o.jolts.length := by omega
  have e : o.nextK s j = stepOf s o.moves[m] o.jolts[j.toNat] := by
    unfold Ov.nextK
    rw [h1, Int.toNat_natCast, List.getD_eq_getElem?_getD, List.getElem?_eq_getElem hm, List.getD_eq_getElem?_getD, List.getElem?_eq_getElem hn]
    rfl
  refine ⟨m, j.toNat, hm, hn, h1, by omega, e, ?_⟩
  rw [e]
  unfold Ov.leads at h2
  rw [Bool.and_eq_true, List.all_eq_true] at h2
  exact h2.2 _ (List.getElem_mem hn)
theorem walk_KK (o : Ov) (s : Sp) (js : List Int) (hs : o.KK s = true) (hj : js.all o.jok = true) : ∀ i, i ≤ js.length → o.KK (o.walk s js i) = true
  | 0, _ => hs
  | i + 1, h => by
    rw [walk_succ o s js i h]
    obtain ⟨_, _, _, _, _, _, _, hk⟩ := nextK_spec o (o.walk s js i) (js.getD i 0) (walk_KK o s js hs hj i (by omega)) (by
      rw [List.all_eq_true] at hj
      refine hj _ ?_
      rw [List.getD_eq_getElem?_getD, List.getElem?_eq_getElem h]
      exact List.getElem_mem h)
    exact hk
end Go.Proofs.YtjonbhimbhidpaaDoor
