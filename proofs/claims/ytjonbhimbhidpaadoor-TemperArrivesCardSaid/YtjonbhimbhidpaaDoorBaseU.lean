/-
  Elements of lists in memory, read by their places (for the laws of chapter 6 that make an oven of numbers).
-/
import Derived.Test.YtjonbhimbhidpaaDoorBaseT
namespace Go.Proofs.YtjonbhimbhidpaaDoor
open Go.RowKit
theorem below_step {A a b : World} (h1 : Below A.heap.size A a) (h2 : Below a.heap.size a b) : Below A.heap.size A b := h1.trans (h2.mono h1.size)
theorem mv_at {w : World} {a : Option Addr} {n c : Nat} {xs : List Mv} (h : IsMv w (.slice a n c) xs) (i : Nat) (hi : i < xs.length) : ∃ g, a = some ⟨g, 0, none⟩ ∧ n = xs.length ∧ w.cell? ⟨g, i * 4, none⟩ = some (.int .i64 (mvAt xs i).1) ∧ w.cell? ⟨g, i * 4 + 1, none⟩ = some (.int .i64 (mvAt xs i).2.1) ∧ w.cell? ⟨g, i * 4 + 2, none⟩ = some (.int .i64 (mvAt xs i).2.2.1) ∧ w.cell? ⟨g, i * 4 + 3, none⟩ = some (.int .i64 (mvAt xs i).2.2.2) := by
  obtain ⟨a', c', hv, _, hc⟩ := h
  cases hv
  obtain ⟨g, h1, h2⟩ := hc i hi
  exact ⟨g, h1, rfl, h2⟩
theorem jl_at {w : World} {a : Option Addr} {n c : Nat} {xs : List (Int × Int)} (h : IsJl w (.slice a n c) xs) (i : Nat) (hi : i < xs.length) : ∃ g, a = some ⟨g, 0, none⟩ ∧ n = xs.length ∧ w.cell? ⟨g, i * 2, none⟩ = some (.int .i64 (jlAt xs i).1) ∧ w.cell? ⟨g, i * 2 + 1, none⟩ = some (.int .i64 (jlAt xs i).2) := by
  obtain ⟨a', c', hv, _, hc⟩ := h
  cases hv
  obtain ⟨g, h1, h2⟩ := hc i hi
  exact ⟨g, h1, rfl, h2⟩
theorem sp_at {w : World} {B : Nat} {e : TypeId} {a : Option Addr} {n c : Nat} {xs : List Sp} (h : OwnS w B e (.slice a n c) xs) (i : Nat) (hi : i < xs.length) : ∃ g, a = some ⟨g, 0, none⟩ ∧ w.cell? ⟨g, i * 3, none⟩ = some (.int .i64 (sAt xs i).1) ∧ w.cell? ⟨g, i * 3 + 1, none⟩ = some (.int .i64 (sAt xs i).2.1) ∧ w.cell? ⟨g, i * 3 + 2, none⟩ = some (.int .i64 (sAt xs i).2.2) := by
  obtain ⟨a', c', hv, _, hc⟩ := ownS_isSp h
  cases hv
  exact hc i hi
theorem sAt_play (o : Ov) (s : Sp) (js : List Int) (i : Nat) (h : i < js.length) : sAt (o.play s js) i = o.walk s js (i + 1) := by
  unfold sAt
  rw [List.getD_eq_getElem?_getD, List.getElem?_eq_getElem (by rw [play_len]; exact h)]
  simp [Ov.play]
theorem mv5 {P : Nat} {m : Mv} (h : mvOk P m = true) : (-5 ≤ m.2.2.1 ∧ m.2.2.1 ≤ 5) ∧ (-5 ≤ m.2.2.2 ∧ m.2.2.2 ≤ 5) := by
  unfold mvOk within5 at h
  simp only [Bool.and_eq_true, decide_eq_true_eq] at h
  exact ⟨h.1.2, h.2⟩
theorem jl5 {j : Int × Int} (h : jlOk j = true) : (-5 ≤ j.1 ∧ j.1 ≤ 5) ∧ (-5 ≤ j.2 ∧ j.2 ≤ 5) := by
  unfold jlOk within5 at h
  simp only [Bool.and_eq_true, decide_eq_true_eq] at h
  exact h
theorem ints_at {w : World} {a : Option Addr} {n c : Nat} {xs : List Int} (h : IsInts w (.slice a n c) xs) (i : Nat) (hi : i < xs.length) : ∃ g, a = some ⟨g, 0, none⟩ ∧ w.cell? ⟨g, i, none⟩ = some (.int .i64 (xs.getD i 0)) := by
  obtain ⟨a', c', hv, _, hc⟩ := h
  cases hv
  exact hc i hi
theorem all_at {α : Type} {f : α → Bool} {xs : List α} {d : α} (h : xs.all f = true) {i : Nat} (hi : i < xs.length) : f (xs.getD i d) = true := by
  rw [List.all_eq_true] at h
  refine h _ ?_
  rw [List.getD_eq_getElem?_getD, List.getElem?_eq_getElem hi]
  exact List.getElem_mem hi
theorem all_snoc {f : Int → Bool} {xs : List Int} {i : Nat} (hi : i < xs.length) (h : (xs.take i).all f = true) (h2 : f (xs.getD i 0) = true) : (xs.take (i + 1)).all f = true := by
  rw [List.take_succ_eq_append_getElem hi, List.all_append, h, List.all_cons, List.all_nil, Bool.and_true, Bool.true_and]
  rw [List.getD_eq_getElem?_getD, List.getElem?_eq_getElem hi] at h2
  exact h2
end Go.Proofs.YtjonbhimbhidpaaDoor
