/-
  Walks over chapter 12: the examples of the document.
-/
import Derived.Test.YtaedbkdimpdngaaWalkO
namespace Go.Proofs.Ytaedbkdimpdngaa
open Go.RowKit
theorem isV_blk {w : World} {g : Nat} {e : TypeId} {cs : Array Value} {xs : List Value} {n : Nat} (h : w.heap[g]? = some (.cells cs e)) (hcs : cs.toList = xs) (hn : n = xs.length) (hl : xs.length ≤ 1000000) : IsV w (.slice (some ⟨g, 0, none⟩) n n) xs := by
  subst hn hcs
  refine ⟨_, _, rfl, hl, fun i hi => ⟨g, rfl, ?_⟩⟩
  rw [World.cell?, h, List.getD_eq_getElem?_getD]
  simp at hi
  simp [hi]
theorem isPr_blk {w : World} {g : Nat} {cs : Array Value} {l : List Pr} {n : Nat} (h : w.heap[g]? = some (.cells cs 45)) (hcs : cs.toList = pcells l) (hn : n = l.length) (hl : l.length ≤ 1000000) : IsPr w (.slice (some ⟨g, 0, none⟩) n n) l := by
  subst hn
  refine ⟨_, _, rfl, hl, fun i hi => ⟨g, rfl, ?_⟩⟩
  have h2 := pcells_at l i hi
  have h3 : ∀ j, w.cell? ⟨g, j, none⟩ = (pcells l)[j]? := fun j => by
    rw [World.cell?, h, ← hcs]; simp
  exact ⟨(h3 _).trans h2.1, (h3 _).trans h2.2⟩
theorem spec1 : validP 3 [(0, 1), (1, 2)] = true := by decide
theorem spec2 : elems (dsp (Int.toNat 3) [(0, 1), (1, 2)]).grd = [0, 2] := by decide +kernel
theorem spec3 : (dsp (Int.toNat 3) [(0, 1), (1, 2)]).stepOf 2 = some 2 := by decide +kernel
theorem spec4 : lists (dsp (Int.toNat 2) [(0, 1), (1, 0)]).pref = [[0], [1]] := by decide +kernel
theorem spec5 : (dsp (Int.toNat 3) [(0, 1), (1, 2), (2, 0)]).odd = some [0, 1, 2] := by decide +kernel
theorem liveG {v : Value} {w : World} (h : IsPr w v [(0, 1), (1, 2)]) : Calls Try.prog 17 #[.int .i64 3, v] w fun e w' => ∃ x, e = .returned (.tuple #[x, .int .i64 0]) ∧ IsV w' x ([0, 2].map iv) ∧ Below w.heap.size w w' :=
  (pGranted_any 3 v _ w h).mono fun e w' hp => by
    obtain ⟨hb, ⟨h2, _⟩ | ⟨_, u, he, x, rfl, hx⟩⟩ := hp
    · rw [spec1] at h2; cases h2
    · rw [spec2] at hx
      exact ⟨x, he, ownV_isV hx (by decide), hb⟩
theorem liveS {v : Value} {w : World} (h : IsPr w v [(0, 1), (1, 2)]) : Calls Try.prog 18 #[.int .i64 3, v, .int .i64 2] w fun e w' => e = .returned (.tuple #[.int .i64 2, .int .i64 0]) ∧ Below w.heap.size w w' :=
  (pSteps_any 3 v _ 2 w h).mono fun e w' hp => by
    obtain ⟨hb, ⟨h2, _⟩ | ⟨_, m, hm, _, he⟩⟩ := hp
    · rcases h2 with h2 | h2 | h2
      · rw [spec1] at h2; cases h2
      · omega
      · omega
    · have : m = 2 := by omega
      subst this
      unfold stepsV at he
      rw [spec3] at he
      exact ⟨he, hb⟩
theorem liveP {v : Value} {w : World} (h : IsPr w v [(0, 1), (1, 0)]) : Calls Try.prog 28 #[.int .i64 2, v] w fun e w' => ∃ x, e = .returned (.tuple #[x, .int .i64 0]) ∧ IsLL w' x [[0], [1]] ∧ Below w.heap.size w w' :=
  (pPreferred_any 2 v _ w h).mono fun e w' hp => by
    obtain ⟨hb, ⟨h2, _⟩ | ⟨_, u, he, x, rfl, hx⟩⟩ := hp
    · have : validP 2 [(0, 1), (1, 0)] = true := by decide
      rw [this] at h2; cases h2
    · rw [spec4] at hx
      exact ⟨x, he, hx, hb⟩
theorem liveO {v : Value} {w : World} (h : IsPr w v [(0, 1), (1, 2), (2, 0)]) : Calls Try.prog 25 #[.int .i64 3, v] w fun e w' => ∃ x, e = .returned (.tuple #[x, .int .i64 0]) ∧ IsV w' x ([0, 1, 2].map iv) ∧ Below w.heap.size w w' :=
  (pOdd_any 3 v _ w h).mono fun e w' hp => by
    obtain ⟨hb, ⟨h2, _⟩ | ⟨_, u, he, hx⟩⟩ := hp
    · have : validP 3 [(0, 1), (1, 2), (2, 0)] = true := by decide
      rw [this] at h2; cases h2
    · rw [spec5] at hx
      obtain ⟨o, rfl, ho⟩ := hx
      exact ⟨o, he, ho, hb⟩
theorem ba (w : World) (o : Obj) : Below w.heap.size w (w.alloc o) := (Below.refl _ _).alloc (Nat.le_refl _) _
theorem isLL_three (w : World) : IsLL (((w.alloc (.cells #[.int .i64 0] 3)).alloc (.cells #[.int .i64 1] 3)).alloc (.cells #[.slice (some ⟨w.heap.size, 0, none⟩) 1 1, .slice (some ⟨w.heap.size + 1, 0, none⟩) 1 1] 24)) (.slice (some ⟨w.heap.size + 1 + 1, 0, none⟩) 2 2) [[0], [1]] := by
  obtain ⟨h1, h2, h3, _⟩ := three_made w (.cells #[.int .i64 0] 3) (.cells #[.int .i64 1] 3) (.cells #[.slice (some ⟨w.heap.size, 0, none⟩) 1 1, .slice (some ⟨w.heap.size + 1, 0, none⟩) 1 1] 24)
  refine ⟨[.slice (some ⟨w.heap.size, 0, none⟩) 1 1, .slice (some ⟨w.heap.size + 1, 0, none⟩) 1 1], rfl, isV_blk h3 rfl rfl (by simp), fun j hj => ?_⟩
  match j, hj with
  | 0, _ => exact isV_blk h1 rfl rfl (by simp)
  | 1, _ => exact isV_blk h2 rfl rfl (by simp)
theorem live4 (w : World) : Calls Try.prog 28 #[.int .i64 2, .slice (some ⟨w.heap.size, 0, none⟩) 2 2] (w.alloc (.cells #[.int .i64 0, .int .i64 1, .int .i64 1, .int .i64 0] 45)) fun e w' => ∃ x, e = .returned (.tuple #[x, .int .i64 0]) ∧ IsLL w' x [[0], [1]] ∧ Below w.heap.size w w' :=
  (liveP (isPr_blk (l := [(0, 1), (1, 0)]) (n := 2) (heap_alloc_new w (.cells #[.int .i64 0, .int .i64 1, .int .i64 1, .int .i64 0] 45)) rfl rfl (by decide))).mono fun e w' ⟨x, h1, h2, h3⟩ => ⟨x, h1, h2, below_step (ba w _) h3⟩
theorem live5 (w : World) : Calls Try.prog 25 #[.int .i64 3, .slice (some ⟨w.heap.size, 0, none⟩) 3 3] (w.alloc (.cells #[.int .i64 0, .int .i64 1, .int .i64 1, .int .i64 2, .int .i64 2, .int .i64 0] 45)) fun e w' => ∃ x, e = .returned (.tuple #[x, .int .i64 0]) ∧ IsV w' x ([0, 1, 2].map iv) ∧ Below w.heap.size w w' :=
  (liveO (isPr_blk (l := [(0, 1), (1, 2), (2, 0)]) (n := 3) (heap_alloc_new w (.cells #[.int .i64 0, .int .i64 1, .int .i64 1, .int .i64 2, .int .i64 2, .int .i64 0] 45)) rfl rfl (by decide))).mono fun e w' ⟨x, h1, h2, h3⟩ => ⟨x, h1, h2, below_step (ba w _) h3⟩
theorem live6 (w : World) (x : Value) (h : IsV w x ([0, 2].map iv)) : Calls Try.prog 23 #[x, .slice (some ⟨w.heap.size, 0, none⟩) 2 2] (w.alloc (.cells #[.int .i64 0, .int .i64 2] 3)) fun e w' => e = .returned (.bool true) ∧ Below w.heap.size w w' :=
  (same01_any x _ [0, 2] [0, 2] _ (isV_below h (ba w _)) (isV_blk (heap_alloc_new w (.cells #[.int .i64 0, .int .i64 2] 3)) rfl rfl (by decide))).mono fun e w' ⟨h1, h2⟩ => ⟨h1, below_step (ba w _) h2⟩
theorem live7 (w : World) (x : Value) (h : IsLL w x [[0], [1]]) : Calls Try.prog 30 #[x, .slice (some ⟨w.heap.size + 1 + 1, 0, none⟩) 2 2] (((w.alloc (.cells #[.int .i64 0] 3)).alloc (.cells #[.int .i64 1] 3)).alloc (.cells #[.slice (some ⟨w.heap.size, 0, none⟩) 1 1, .slice (some ⟨w.heap.size + 1, 0, none⟩) 1 1] 24)) fun e w' => e = .returned (.bool true) ∧ Below w.heap.size w w' :=
  (same_any x _ [[0], [1]] [[0], [1]] _ (isLL_below h (three_made w _ _ _).2.2.2) (isLL_three w)).mono fun e w' ⟨h1, h2⟩ => ⟨h1, below_step (three_made w _ _ _).2.2.2 h2⟩
theorem live8 (w : World) (x : Value) (h : IsV w x ([0, 1, 2].map iv)) : Calls Try.prog 23 #[x, .slice (some ⟨w.heap.size, 0, none⟩) 3 3] (w.alloc (.cells #[.int .i64 0, .int .i64 1, .int .i64 2] 3)) fun e w' => e = .returned (.bool true) ∧ Below w.heap.size w w' :=
  (same01_any x _ [0, 1, 2] [0, 1, 2] _ (isV_below h (ba w _)) (isV_blk (heap_alloc_new w (.cells #[.int .i64 0, .int .i64 1, .int .i64 2] 3)) rfl rfl (by decide))).mono fun e w' ⟨h1, h2⟩ => ⟨h1, below_step (ba w _) h2⟩
set_option maxRecDepth 100000 in
set_option maxHeartbeats 2000000 in
theorem lives_any (w : World) : Calls Try.prog 20 #[] w fun e w' => e = .returned (.bool true) ∧ Below w.heap.size w w' := by
  go_enter Try.func20, Try.ntmps20
  go_upto_region 2 with fail
  have hz := heap_alloc_new w (.cells #[.int .i64 0, .int .i64 1, .int .i64 1, .int .i64 2] 45)
  have HB1 : Hid (Below w.heap.size w (w.alloc (.cells #[.int .i64 0, .int .i64 1, .int .i64 1, .int .i64 2] 45))) := (Below.refl _ _).alloc (Nat.le_refl _) _
  have HL := hid (isPr_blk (l := [(0, 1), (1, 2)]) (n := 2) hz rfl rfl (by decide))
  obtain ⟨w1, hw1⟩ : ∃ w1, w1 = w.alloc (.cells #[.int .i64 0, .int .i64 1, .int .i64 1, .int .i64 2] 45) := ⟨_, rfl⟩
  rw [← hw1] at HB1 HL ⊢
  obtain ⟨g1, hg1⟩ : ∃ g1, g1 = w.heap.size := ⟨_, rfl⟩
  rw [← hg1] at HL ⊢
  clear hz hw1 hg1
  go_upto_region 4 with (first | (go_at_call 17; refine (liveG HL.out).mono ?_; rintro e w2 ⟨x2, rfl, hx2, hb2⟩; have HX2 := hid hx2; have HB2 := hid hb2; have HL2 := hid (isPr_below HL.out hb2); clear hx2 hb2) | (go_at_call 18; refine (liveS HL2.out).mono ?_; rintro e w3 ⟨rfl, hb3⟩; have HX3 := hid (isV_below HX2.out hb3); have HB3 := hid (below_step HB2.out hb3); clear hb3) | fail)
  go_upto_region 5 with (first | (go_at_call 28; refine (live4 _).mono ?_; rintro e w4 ⟨x4, rfl, hx4, hb4⟩; have HP4 := hid hx4; have HX4 := hid (isV_below HX3.out hb4); have HB4 := hid (below_step HB3.out hb4); clear hx4 hb4) | fail)
  go_upto_region 6 with (first | (go_at_call 25; refine (live5 _).mono ?_; rintro e w5 ⟨x5, rfl, hx5, hb5⟩; have HO5 := hid hx5; have HX5 := hid (isV_below HX4.out hb5); have HP5 := hid (isLL_below HP4.out hb5); have HB5 := hid (below_step HB4.out hb5); clear hx5 hb5) | fail)
  go_wp2_with (first
    | (go_at_call 23; with_reducible refine (live6 _ _ HX5.out).mono ?_; rintro e w6 ⟨rfl, hb6⟩; have HB6 := hid (below_step HB5.out hb6); have HP6 := hid (isLL_below HP5.out hb6); have HO6 := hid (isV_below HO5.out hb6); clear hb6)
    | (go_at_call 30; refine (live7 _ _ HP6.out).mono ?_; rintro e w7 ⟨rfl, hb7⟩; have HB7 := hid (below_step HB6.out hb7); have HO7 := hid (isV_below HO6.out hb7); clear hb7)
    | (go_at_call 23; with_reducible refine (live8 _ _ HO7.out).mono ?_; rintro e w8 ⟨rfl, hb8⟩; have HB8 := hid (below_step HB7.out hb8); clear hb8)
    | fail)
  go_ret
  exact ⟨rfl, below_step HB1.out HB8.out⟩
end Go.Proofs.Ytaedbkdimpdngaa
