/-
  Walks over chapter 6: the program returns the results of the document's examples; the reference's Kernel.
-/
import Derived.Test.YtjonbhimbhidpaaDoorWalkS
import Derived.Test.YtjonbhimbhidpaaDoorWalkT
namespace Go.Proofs.YtjonbhimbhidpaaDoor
open Go.RowKit

theorem grid_lit {W : World} {g1 g2 : Nat} {s : Str} {t1 t2 : TypeId} {c1 c2 : Nat} (h1 : W.heap[g1]? = some (.cells #[.string (strB s)] t1)) (h2 : W.heap[g2]? = some (.cells #[.slice (some ⟨g1, 0, none⟩) 1 c1] t2)) : IsGrid W (.slice (some ⟨g2, 0, none⟩) 1 c2) [[s]] := by
  refine ⟨_, _, rfl, by simp, fun i hi => ?_⟩
  obtain rfl : i = 0 := by simp at hi; omega
  refine ⟨g2, _, rfl, box1 h2, _, _, rfl, by simp, fun j hj => ?_⟩
  obtain rfl : j = 0 := by simp at hj; omega
  exact ⟨g1, rfl, box1 h1⟩
theorem jl_lit2 {W : World} {g : Nat} {a b c d : Int} {t : TypeId} {cp : Nat} (h : W.heap[g]? = some (.cells #[.int .i64 a, .int .i64 b, .int .i64 c, .int .i64 d] t)) : IsJl W (.slice (some ⟨g, 0, none⟩) 2 cp) [(a, b), (c, d)] := by
  refine ⟨_, _, rfl, by simp, fun i hi => ?_⟩
  have hi2 : i = 0 ∨ i = 1 := by simp at hi; omega
  refine ⟨g, rfl, ?_⟩
  rcases hi2 with rfl | rfl <;> simp [World.cell?, h, jlAt]
theorem jl_lit1 {W : World} {g : Nat} {a b : Int} {t : TypeId} {cp : Nat} (h : W.heap[g]? = some (.cells #[.int .i64 a, .int .i64 b] t)) : IsJl W (.slice (some ⟨g, 0, none⟩) 1 cp) [(a, b)] := by
  refine ⟨_, _, rfl, by simp, fun i hi => ?_⟩
  obtain rfl : i = 0 := by simp at hi; omega
  refine ⟨g, rfl, ?_⟩
  simp [World.cell?, h, jlAt]
theorem mv_lit2 {W : World} {g : Nat} {a b c d a' b' c' d' : Int} {t : TypeId} {cp : Nat} (h : W.heap[g]? = some (.cells #[.int .i64 a, .int .i64 b, .int .i64 c, .int .i64 d, .int .i64 a', .int .i64 b', .int .i64 c', .int .i64 d'] t)) : IsMv W (.slice (some ⟨g, 0, none⟩) 2 cp) [(a, b, c, d), (a', b', c', d')] := by
  refine ⟨_, _, rfl, by simp, fun i hi => ?_⟩
  have hi2 : i = 0 ∨ i = 1 := by simp at hi; omega
  refine ⟨g, rfl, ?_⟩
  rcases hi2 with rfl | rfl <;> simp [World.cell?, h, mvAt]

/-- four blocks are made -/
theorem alloc4 (w : World) (a b c d : Obj) : Below w.heap.size w ((((w.alloc a).alloc b).alloc c).alloc d) ∧ ((((w.alloc a).alloc b).alloc c).alloc d).heap[w.heap.size]? = some a ∧ ((((w.alloc a).alloc b).alloc c).alloc d).heap[w.heap.size + 1]? = some b ∧ ((((w.alloc a).alloc b).alloc c).alloc d).heap[w.heap.size + 1 + 1]? = some c ∧ ((((w.alloc a).alloc b).alloc c).alloc d).heap[w.heap.size + 1 + 1 + 1]? = some d := by
  obtain ⟨h1, h2, h3, h4, h5⟩ := alloc3 w a b c
  refine ⟨h1.alloc (by omega) _, ?_, ?_, ?_, ?_⟩
  · exact (Below.heap_alloc _ _ _ (by omega)).trans h3
  · exact (Below.heap_alloc _ _ _ (by omega)).trans h4
  · exact (Below.heap_alloc _ _ _ (by omega)).trans h5
  · exact heap_alloc_at (by omega)

def rowOv (s : Str) (js : List (Int × Int)) : Ov := ⟨[[s]], [(0, 0, 1, 0), (0, 0, -1, 0)], js⟩

set_option maxHeartbeats 2000000 in
set_option maxRecDepth 100000 in
theorem row_any (s : Str) (aj : Option Addr) (nj cj : Nat) (js : List (Int × Int)) (w : World) (hj : IsJl w (.slice aj nj cj) js) :
    Calls Tryd.prog 49 #[.string (strB s), .slice aj nj cj] w fun e w' => ∃ vs vm, e = .returned (.agg #[vs, vm, .slice aj nj cj]) ∧ IsOv w' vs vm (.slice aj nj cj) (rowOv s js) ∧ Below w.heap.size w w' := by
  have HJ := hid hj
  clear hj
  go_enter Tryd.func49, Tryd.ntmps49
  go_wp2
  obtain ⟨hb4, k0, k1, k2, k3⟩ := alloc4 w (.cells #[.slice (some ⟨w.heap.size + 1 + 1, 0, none⟩) 1 1, .slice (some ⟨w.heap.size + 1 + 1 + 1, 0, none⟩) 2 2, .slice aj nj cj] 26) (.cells #[.string (strB s)] 9) (.cells #[.slice (some ⟨w.heap.size + 1, 0, none⟩) 1 1] 71)
    (.cells #[.int .i64 0, .int .i64 0, .int .i64 1, .int .i64 0, .int .i64 0, .int .i64 0, .int .i64 (-1), .int .i64 0] 53)
  obtain ⟨s0, s1, s2⟩ := cells3_of k0
  refine bodyPost_ret (v := .agg #[.slice (some ⟨w.heap.size + 1 + 1, 0, none⟩) 1 1, .slice (some ⟨w.heap.size + 1 + 1 + 1, 0, none⟩) 2 2, .slice aj nj cj]) (by simp [results, Tryd.results49, go_sem, s0, s1, s2]) rfl ?_
  exact ⟨_, _, rfl, ⟨grid_lit k1 k2, mv_lit2 k3, isJl_below HJ.out hb4⟩, hb4⟩

/-- the set of the cells that are lost in no number of steps -/
theorem wKK (o : Ov) (hok : o.Ok) (c : Sp) (h : o.ex c = true) : o.whereS (o.listOf fun c => lossN (o.LL c)) 1000000 c = o.KK c := loss_where o o.N (by have := N_small hok; omega) c h
set_option maxHeartbeats 2000000 in
set_option maxRecDepth 100000 in
theorem rKernel_any (vs vm vj : Value) (o : Ov) (w : World) (ho : IsOv w vs vm vj o) (hok : o.Ok) :
    Calls Tryd.prog 23 #[.agg #[vs, vm, vj]] w fun e w' => ∃ v, e = .returned v ∧ OwnG w' w.heap.size v (o.gridOf o.KK) ∧ Below w.heap.size w w' := by
  have HO := hid ho
  have HOK := hid hok
  have HGG : Hid (o.gridOf (o.whereS (o.listOf fun c => lossN (o.LL c)) 1000000) = o.gridOf o.KK) := gridOf_ext o _ _ (wKK o hok)
  clear ho hok
  go_enter Tryd.func23, Tryd.ntmps23
  go_wp2
  go_region_with (first
    | (go_at_call 20; refine Calls.mono (rLosses_any vs vm vj o _ (isOv_below HO.out (by repeat (first | exact Below.refl _ _ | (apply Hid.out; assumption) | refine Below.drew ?_ | refine below_drewN_r ?_ _ | refine Below.alloc ?_ (by first | omega | (simp; done) | (simp; omega)) _))) HOK.out) ?_; rintro e w5 ⟨v5, rfl, hi5, hb5⟩; have z0 := fun hg => hb5.cell (p := ⟨w.heap.size, 0, none⟩) hg; have z1 := fun hg => hb5.cell (p := ⟨w.heap.size, 1, none⟩) hg; have z2 := fun hg => hb5.cell (p := ⟨w.heap.size, 2, none⟩) hg; have hz : ∀ X : World, X.drew.heap = X.heap := (fun _ => rfl); have hsz5 := hb5.size; simp only [hz, World.size_alloc] at hsz5; simp [hz, go_sem] at z0 z1 z2; have HI5 := hid (ownI_ints hi5 (by rw [listOf_len]; have := N_small HOK.out; omega)); have HB5 : Hid (Below w.heap.size w w5) := (Below.trans (b := _) (by repeat (first | exact Below.refl _ _ | (apply Hid.out; assumption) | refine Below.drew ?_ | refine below_drewN_r ?_ _ | refine Below.alloc ?_ (by first | omega | (simp; done) | (simp; omega)) _)) (hb5.mono (by simp only [hz, World.size_alloc]; omega))); clear hi5 hb5)
    | (go_at_call 50; refine Calls.mono (rWhere_any vs vm vj v5 o _ 1000000 _ (isOv_below HO.out (by repeat (first | exact Below.refl _ _ | (apply Hid.out; assumption) | refine Below.drew ?_ | refine below_drewN_r ?_ _ | refine Below.alloc ?_ (by first | omega | (simp; done) | (simp; omega)) _))) HOK.out (isInts_below HI5.out (by repeat (first | exact Below.refl _ _ | refine Below.drew ?_ | refine below_drewN_r ?_ _))) (listOf_len o _)) ?_; rintro e w6 ⟨v6, rfl, hg6, hb6⟩; have HB6 : Hid (Below w.heap.size w w6) := (Below.trans (b := _) (by repeat (first | exact Below.refl _ _ | (apply Hid.out; assumption) | refine Below.drew ?_ | refine below_drewN_r ?_ _ | refine Below.alloc ?_ (by first | omega | (simp; done) | (simp; omega)) _)) (hb6.mono (by first | omega | (have := HB5.out.size; simp; omega)))); have HG6 : Hid (OwnG w6 w.heap.size v6 (o.gridOf o.KK)) := (by rw [← HGG.out]; exact ownG_mono hg6 (by first | omega | (have := HB5.out.size; simp; omega))); clear hg6 hb6)
    | fail)
  all_goals
    go_wp2
    go_ret
    exact ⟨_, rfl, HG6.out, HB6.out⟩
end Go.Proofs.YtjonbhimbhidpaaDoor
