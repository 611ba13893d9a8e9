/-
  A gear is read (23).
-/
import Derived.Test.YtlhmidecjiihcaaDoorWalkZ
namespace Go.Proofs.YtlhmidecjiihcaaDoor
open Go.RowKit
theorem belt_of {W : World} {g : Nat} {a b c d : Value} {t : TypeId} (h : W.heap[g]? = some (.cells #[a, b, c, d] t)) : W.cell? ⟨g, 0, none⟩ = some a ∧ W.cell? ⟨g, 1, none⟩ = some b ∧ W.cell? ⟨g, 2, none⟩ = some c ∧ W.cell? ⟨g, 3, none⟩ = some d := cells4_of h
/-- a belt of the chain -/
def beltRow (m i : Nat) : List Value := [.int .i64 (i : Int), .int .i64 ((i + 1 : Nat) : Int), .int .i64 (m : Int), .int .i64 1]
/-- the belts of the chain, read -/
def IsB (w : World) (v : Value) (m b : Nat) : Prop := ∃ s k, v = .slice s b k ∧ ∀ i, i < b → ∃ G, s = some ⟨G, 0, none⟩ ∧ w.cell? ⟨G, i * 4, none⟩ = some (.int .i64 (i : Int)) ∧ w.cell? ⟨G, i * 4 + 1, none⟩ = some (.int .i64 ((i + 1 : Nat) : Int)) ∧ w.cell? ⟨G, i * 4 + 2, none⟩ = some (.int .i64 (m : Int)) ∧ w.cell? ⟨G, i * 4 + 3, none⟩ = some (.int .i64 1)
theorem IsB.below {w w' : World} {v : Value} {m b : Nat} (h : IsB w v m b) (hb : Below w.heap.size w w') : IsB w' v m b := by
  obtain ⟨s, k, rfl, h⟩ := h
  refine ⟨s, k, rfl, fun i hi => ?_⟩
  obtain ⟨G, hs, h0, h1, h2, h3⟩ := h i hi
  have f : ∀ {j : Nat} {x : Value}, w.cell? ⟨G, j, none⟩ = some x → w'.cell? ⟨G, j, none⟩ = some x := fun hx => (hb.cell (World.block_lt_of_cell? w _ hx)).trans hx
  exact ⟨G, hs, f h0, f h1, f h2, f h3⟩
theorem IsB.sh {w : World} {v : Value} {m b : Nat} (h : IsB w v m b) : ∃ s k, v = .slice s b k := by
  obtain ⟨s, k, h, _⟩ := h
  exact ⟨s, k, h⟩
theorem IsB.at {w : World} {s : Option Addr} {n k : Nat} {m b : Nat} (h : IsB w (.slice s n k) m b) (i : Nat) (hi : i < b) : ∃ G, s = some ⟨G, 0, none⟩ ∧ w.cell? ⟨G, i * 4, none⟩ = some (.int .i64 (i : Int)) ∧ w.cell? ⟨G, i * 4 + 1, none⟩ = some (.int .i64 ((i + 1 : Nat) : Int)) ∧ w.cell? ⟨G, i * 4 + 2, none⟩ = some (.int .i64 (m : Int)) ∧ w.cell? ⟨G, i * 4 + 3, none⟩ = some (.int .i64 1) := by
  obtain ⟨s', k', hv, h⟩ := h
  cases hv
  exact h i hi
theorem IsB.of {w : World} {B : Nat} {v : Value} {m b : Nat} (h : OwnS w B 39 4 v ((List.range b).map (beltRow m))) : IsB w v m b := by
  obtain ⟨s, k, rfl⟩ := ownS_sh h
  rw [List.length_map, List.length_range] at h ⊢
  refine ⟨s, k, rfl, fun i hi => ?_⟩
  obtain ⟨G, k', hv, _, _⟩ := ownS_some h (by rw [List.length_map, List.length_range]; omega)
  injection hv with e1 e2 e3
  subst e1
  have f : ∀ j, j < 4 → w.cell? ⟨G, i * 4 + j, none⟩ = some ((((List.range b).map (beltRow m)).getD i []).getD j undef) := fun j hj => ownS_cell h i j (by rw [List.length_map, List.length_range]; omega) hj
  rw [List.getD_eq_getElem?_getD, List.getElem?_map, List.getElem?_range hi] at f
  exact ⟨G, rfl, f 0 (by omega), f 1 (by omega), f 2 (by omega), f 3 (by omega)⟩
set_option maxRecDepth 100000 in
set_option maxHeartbeats 4000000 in
theorem gread_any (v : Value) (m b : Nat) (w : World) (hv : IsB w v m b) (hm : 1 ≤ m) (hm2 : m ≤ 12) (hb : b ≤ 9) :
    Calls Tryd.prog 23 #[.int .i64 ((b + 1 : Nat) : Int), v] w fun e w' => ∃ X, e = .returned (.tuple #[.pointer (some ⟨X, 0, none⟩), .bool true]) ∧ Hid (w'.heap[X]? = some (.cells #[.int .i64 ((b + 1 : Nat) : Int), v] 83)) ∧ Hid (w.heap.size ≤ X) ∧ Below w.heap.size w w' := by
  obtain ⟨s, k, rfl⟩ := hv.sh
  have HV : Hid (∀ w', Below w.heap.size w w' → IsB w' (.slice s b k) m b) := fun w' h => hv.below h
  obtain ⟨n, hn⟩ : ∃ n, n = b + 1 := ⟨_, rfl⟩
  rw [← hn]
  have HN := hid hn
  have hn10 : n ≤ 10 := by omega
  have hn1 : 1 ≤ n := by omega
  clear hv hn
  go_enter Tryd.func23, Tryd.ntmps23
  go_wp2_with fail
  go_loopw [21] (fun iv wr => ∃ i : Nat, iv = .int .i64 (i : Int) ∧ i ≤ b ∧ Hid (Below w.heap.size w wr)) (fun iv _ => b - (intOf iv).toNat)
  case atStart => exact ⟨0, rfl, Nat.zero_le _, Below.refl _ _⟩
  case round =>
    obtain ⟨i, rfl, hi, HBr⟩ := hrel
    by_cases hlt : i < b
    · obtain ⟨G, rfl, e0, e1, e2, e3⟩ := (HV.out wr HBr.out).at i hlt
      have HB7 := hid (ba wr (.cells #[.int .i64 (i : Int), .int .i64 ((i + 1 : Nat) : Int), .int .i64 (m : Int), .int .i64 1] 39))
      obtain ⟨y0, y1, y2, y3⟩ := belt_of (heap_alloc_new wr (.cells #[.int .i64 (i : Int), .int .i64 ((i + 1 : Nat) : Int), .int .i64 (m : Int), .int .i64 1] 39))
      have HBr7 := hid (below_step HBr.out HB7.out)
      have hi1 : i < n := by have := HN.out; omega
      have hi2 : i + 1 < n := by have := HN.out; omega
      have hne : ((i : Int) == (i : Int) + 1) = false := by simp; omega
      have hm0 : ((m : Int) == 0) = false := by simp; omega
      go_wp2_with fail
      exact ⟨⟨i + 1, by go_num, by omega, HBr7⟩, by simp [intOf]; omega⟩
    · obtain rfl : i = b := by omega
      go_wp2_with fail
      go_ret2
      exact ⟨_, rfl, hid (heap_alloc_new _ _), hid HBr.out.size, HBr.out.alloc HBr.out.size _⟩
end Go.Proofs.YtlhmidecjiihcaaDoor
