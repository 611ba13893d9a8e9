/-
  Integers and rationals: Of (33).
-/
import Derived.Test.YtlhmidecjiihcaaDoorWalkA
namespace Go.Proofs.YtlhmidecjiihcaaDoor
open Go.RowKit
theorem IntZ.sh {w : World} {v : Value} {z : Int} (h : IntZ w v z) : ∃ a n c, v = .agg #[.bool (decide (z < 0)), .slice a n c] ∧ Lb w (.slice a n c) z.natAbs := by
  obtain ⟨s, rfl, h⟩ := h
  obtain ⟨a, c, rfl, _⟩ := id h
  exact ⟨a, _, c, rfl, h⟩
def two (k : Nat) (j : Nat) : Nat := if j = 0 then k else 0
theorem two_cells {w : World} {g k : Nat} (h : w.heap[g]? = some (.cells #[.int .u32 (k : Int), .int .u32 0] 94)) : ∀ j, j < 2 → w.cell? ⟨g, j, none⟩ = some (.int .u32 (two k j : Int)) := fun j hj => by
  obtain ⟨h0, h1⟩ := cells2_of h
  have : j = 0 ∨ j = 1 := by omega
  rcases this with rfl | rfl
  · exact h0
  · exact h1
theorem cells_box {w w' : World} {X : Nat} {cs : Array Value} {t : TypeId} (h : w.heap[X]? = some (.cells cs t)) (hb : Below w.heap.size w w') : w'.heap[X]? = some (.cells cs t) := (hb.block X (heap_lt h)).trans h
theorem free_box {w : World} {X : Nat} {cs : Array Value} {t : TypeId} (h : w.heap[X]? = some (.cells cs t)) (j : Nat) : w.frozen? ⟨X, j, none⟩ = false := by simp [World.frozen?, h]
theorem below_set {B X j : Nat} {w w' : World} {v : Value} (h : Below B w w') (hX : B ≤ X) : Below B w (w'.setCell ⟨X, j, none⟩ v) := h.setCell (by simpa using hX) _
theorem set_other {w : World} {X j b : Nat} {u : Value} (h : b ≠ X) : (w.setCell ⟨X, j, none⟩ u).heap[b]? = w.heap[b]? := by
  simp [World.setCell, Array.getElem?_modify]
  intro e
  exact absurd e.symm h
/-- a block that begins with no limb may turn -/
theorem Lb.off {w w' : World} {X : Nat} {v : Value} {k : Nat} (h : Lb w v k) (hX : ∀ z, w.cell? ⟨X, 0, none⟩ ≠ some (.int .u32 z)) (hb : ∀ b, b ≠ X → w'.heap[b]? = w.heap[b]?) : Lb w' v k := by
  obtain ⟨a, c, rfl, h0, h1, h2⟩ := h
  refine ⟨a, c, rfl, h0, h1, fun hk => ?_⟩
  obtain ⟨g, e, hc⟩ := h2 hk
  refine ⟨g, e, ?_⟩
  rw [← hc]
  exact World.cell?_of_block (hb g (fun e2 => hX _ (e2 ▸ hc)))
theorem IntZ.off {w w' : World} {X : Nat} {v : Value} {z : Int} (h : IntZ w v z) (hX : ∀ z, w.cell? ⟨X, 0, none⟩ ≠ some (.int .u32 z)) (hb : ∀ b, b ≠ X → w'.heap[b]? = w.heap[b]?) : IntZ w' v z := by
  obtain ⟨s, rfl, h⟩ := h
  exact ⟨s, rfl, h.off hX hb⟩
theorem off_bool {w : World} {X : Nat} {b : Bool} (h : w.cell? ⟨X, 0, none⟩ = some (.bool b)) : ∀ z, w.cell? ⟨X, 0, none⟩ ≠ some (.int .u32 z) := fun z e => by rw [h] at e; cases e
theorem off2 {w : World} {X : Nat} {u0 u1 : Value} : ∀ b, b ≠ X → ((w.setCell ⟨X, 0, none⟩ u0).setCell ⟨X, 1, none⟩ u1).heap[b]? = w.heap[b]? := fun b hb => (set_other hb).trans (set_other hb)
theorem off4 {w : World} {X : Nat} {u0 u1 u2 u3 : Value} : ∀ b, b ≠ X → ((((w.setCell ⟨X, 0, none⟩ u0).setCell ⟨X, 1, none⟩ u1).setCell ⟨X, 2, none⟩ u2).setCell ⟨X, 3, none⟩ u3).heap[b]? = w.heap[b]? := fun b hb => (set_other hb).trans ((set_other hb).trans ((set_other hb).trans (set_other hb)))
set_option maxRecDepth 100000 in
set_option maxHeartbeats 1000000 in
theorem of_any (z : Int) (k : Nat) (w : World) (hz : z = k) (hk : k < 4294967296) :
    Calls Tryd.prog 33 #[.int .i64 z] w fun e w' => ∃ v, e = .returned v ∧ IntZ w' v k ∧ Below w.heap.size w w' := by
  subst hz
  have h1 : ¬ ((k : Int) < 0) := by omega
  have h2 : (k : Int) / 4294967296 = 0 := by omega
  have h3 : (k : Int) % 4294967296 = k := by omega
  have HK := hid hk
  go_enter Tryd.func33, Tryd.ntmps33
  go_upto_region 4 with fail
  obtain ⟨w1, hw1⟩ : ∃ v, v = w.alloc (.cells #[.bool false, .slice none 0 0] 52) := ⟨_, rfl⟩
  rw [← hw1]
  have HX1 : Hid (w1.heap[w.heap.size]? = some (.cells #[.bool false, .slice none 0 0] 52)) := by rw [hw1]; exact heap_alloc_new _ _
  have HB1 : Hid (Below w.heap.size w w1) := by rw [hw1]; exact ba _ _
  clear hw1
  have hnew := heap_alloc_new w1 (.cells #[.int .u32 (k : Int), .int .u32 0] 94)
  have TC := hid (trim_any (some ⟨w1.heap.size, 0, none⟩) w1.heap.size 2 2 (two k) _ (fun _ => rfl) (by decide) (Nat.le_refl _) (two_cells hnew))
  have HL := hid (lb_trim (n := 2) (c := 2) (k := k) hk (fun _ => rfl) (fun h => by cases h) (fun j h0 h2 => by unfold two; rw [if_neg (by omega)]) (Nat.le_refl _) (two_cells hnew))
  have HX2 := hid (cells_box HX1.out (ba w1 (.cells #[.int .u32 (k : Int), .int .u32 0] 94)))
  have HB2 := hid (HB1.out.alloc HB1.out.size (.cells #[.int .u32 (k : Int), .int .u32 0] 94))
  clear hnew HX1 HB1
  go_wp2_with (first
    | (go_at_call 48; refine TC.out.mono ?_; rintro e w2 ⟨rfl, hw2⟩; rw [hw2]; clear hw2)
    | (go_at_call 47; refine (made_any false _ k _ HL.out).mono ?_; rintro e w3 ⟨rfl, hb3⟩; have HX3 := hid (cells_box HX2.out hb3); have HB3 := hid (below_step HB2.out hb3); have HL3 := hid (HL.out.below hb3); obtain ⟨c0, c1⟩ := cells2_of HX3.out; have f0 := free_box HX3.out 0; have f1 := free_box HX3.out 1; clear hb3)
    | fail)
  exact bodyPost_ret (v := .agg #[.bool false, .slice (some ⟨w1.heap.size, 0, none⟩) (tlen (two k) 2) 2]) (by simp [results, Tryd.results33, go_sem, c0, c1]) rfl
    ⟨_, rfl, ⟨.slice (some ⟨w1.heap.size, 0, none⟩) (tlen (two k) 2) 2, by rw [show decide ((k : Int) < 0) = false from decide_eq_false (by omega)], by simpa using HL3.out.off (off_bool c0) off2⟩, below_set (below_set HB3.out (Nat.le_refl _)) (Nat.le_refl _)⟩
set_option maxRecDepth 100000 in
set_option maxHeartbeats 1000000 in
theorem sign_any (v : Value) (z : Int) (w : World) (h : IntZ w v z) :
    Calls Tryd.prog 34 #[v] w fun e w' => e = .returned (.int .i64 (if z = 0 then 0 else if z < 0 then -1 else 1)) ∧ Below w.heap.size w w' := by
  obtain ⟨a, n, c, rfl, hl⟩ := h.sh
  by_cases hz : z = 0
  · subst hz
    obtain ⟨a', c', e⟩ := (show Lb w _ 0 from hl).z
    cases e
    go_enter Tryd.func34, Tryd.ntmps34
    go_wp2_with fail
    go_ret
    exact ⟨rfl, ba _ _⟩
  · obtain ⟨g', c', e, _⟩ := hl.p (by omega)
    cases e
    rw [if_neg hz]
    by_cases hn : z < 0
    · have hd : decide (z < 0) = true := decide_eq_true hn
      rw [hd, if_pos hn]
      clear hd hn hz hl
      go_enter Tryd.func34, Tryd.ntmps34
      go_wp2_with fail
      go_ret
      exact ⟨rfl, ba _ _⟩
    · have hd : decide (z < 0) = false := decide_eq_false hn
      rw [hd, if_neg hn]
      clear hd hn hz hl
      go_enter Tryd.func34, Tryd.ntmps34
      go_wp2_with fail
      go_ret
      exact ⟨rfl, ba _ _⟩
end Go.Proofs.YtlhmidecjiihcaaDoor
