/-
  Walks over chapter 6: the reference's In and Step.
-/
import Derived.Test.YtjonbhimbhidpaaDoorZ6
namespace Go.Proofs.YtjonbhimbhidpaaDoor
open Go.RowKit

set_option maxHeartbeats 1000000 in
set_option maxRecDepth 100000 in
theorem rIn_any (v : Value) (g : Grid) (o : Ov) (c : Sp) (w : World) (hg : IsGrid w v g) (hok : o.Ok) (hf : formB o.P o.R o.C g = true) (hc : o.ex c = true) :
    Calls Tryd.prog 29 #[v, spv c] w fun e w' => e = .returned (.bool (inG g c)) ∧ Below w.heap.size w w' := by
  obtain ⟨p, x, y, rfl, hp, hx, hy⟩ := ex_cell o c hc
  obtain ⟨ga, ca, gb, n, cb, s, rfl, d1, hyn, d2, hss, hxs, d3⟩ := grid_row hg hf p y x hp hy hx
  have hig : inG g ((p : Int), (x : Int), (y : Int)) = (chAt g p y x == 46) := by simp [inG]
  rw [hig]
  generalize chAt g p y x = q at *
  have l2 := World.block_lt_of_cell? w _ d1
  have l3 := World.block_lt_of_cell? w _ d2
  have h1 := hok.p
  have h2 := hok.r
  have h3 := hok.c
  clear hig hg hf hok
  unfold spv
  simp only at l2 l3 ⊢
  obtain ⟨P, hP⟩ : ∃ P, P = o.P := ⟨_, rfl⟩
  obtain ⟨C, hC⟩ : ∃ C, C = o.C := ⟨_, rfl⟩
  rw [← hP] at hp h1
  rw [← hC] at hx hss h3
  have hP2 := hP
  clear hP hC hy hc h2
  subst hss
  rw [← hP2]
  clear hP2
  go_enter Tryd.func29, Tryd.ntmps29
  go_wp2
  go_quiet (fail)
  go_wp2
  go_ret
  exact ⟨rfl, below_drewN_r ((Below.refl _ _).alloc (Nat.le_refl _) _) nq⟩

def mvv (m : Mv) : Value := .agg #[.int .i64 m.1, .int .i64 m.2.1, .int .i64 m.2.2.1, .int .i64 m.2.2.2]
def jlv (j : Int × Int) : Value := .agg #[.int .i64 j.1, .int .i64 j.2]

set_option maxHeartbeats 4000000 in
set_option maxRecDepth 100000 in
theorem rStep_any (vs vm vj : Value) (o : Ov) (c : Sp) (m : Mv) (j : Int × Int) (w : World) (ho : IsOv w vs vm vj o) (hd : o.Dim) (hc : InR c) (hm : (-5 ≤ m.2.2.1 ∧ m.2.2.1 ≤ 5) ∧ (-5 ≤ m.2.2.2 ∧ m.2.2.2 ≤ 5)) (hj : (-5 ≤ j.1 ∧ j.1 ≤ 5) ∧ (-5 ≤ j.2 ∧ j.2 ≤ 5)) :
    Calls Tryd.prog 30 #[.agg #[vs, vm, vj], spv c, mvv m, jlv j] w fun e w' => e = .returned (.tuple #[spv (stepOf c m j), .bool (o.ex (stepOf c m j))]) ∧ Below w.heap.size w w' := by
  have HO := hid ho
  have ce := hid (fun w' (hw : Below w.heap.size w w') => exists_any vs vm vj o (stepOf c m j) w' (isOv_below ho hw) hd)
  obtain ⟨⟨av, cv, rfl, _, _⟩, _, _⟩ := ho
  obtain ⟨p, x, y⟩ := c
  obtain ⟨m0, m1, m2, m3⟩ := m
  obtain ⟨j0, j1⟩ := j
  obtain ⟨hc1, hc2, hc3⟩ := hc
  generalize o.ex (stepOf (p, x, y) (m0, m1, m2, m3) (j0, j1)) = t at *
  unfold spv stepOf at ce
  unfold spv mvv jlv stepOf
  simp only at hc1 hc2 hc3 hm hj ce ⊢
  clear hd
  go_enter Tryd.func30, Tryd.ntmps30
  go_wp2
  go_region_with (first | (go_at_call 18; refine (ce.out _ (by repeat (first | exact Below.refl _ _ | refine Below.drew ?_ | refine Below.setCell ?_ (by first | omega | (simp; done) | (simp; omega)) _ | refine Below.alloc ?_ (by first | omega | (simp; done) | (simp; omega)) _))).mono ?_; rintro e w3 ⟨rfl, hb3⟩; have hz : ∀ X : World, X.drew.heap = X.heap := (fun _ => rfl); have hsz3 := hb3.size; simp only [hz, World.size_alloc] at hsz3; have z0 := fun hg => hb3.cell (p := ⟨w.heap.size + 1 + 1 + 1 + 1 + 1, 0, none⟩) hg; have z1 := fun hg => hb3.cell (p := ⟨w.heap.size + 1 + 1 + 1 + 1 + 1, 1, none⟩) hg; have z2 := fun hg => hb3.cell (p := ⟨w.heap.size + 1 + 1 + 1 + 1 + 1, 2, none⟩) hg; have y0 := fun hg => hb3.cell (p := ⟨w.heap.size + 1 + 1 + 1 + 1, 0, none⟩) hg; have y1 := fun hg => hb3.cell (p := ⟨w.heap.size + 1 + 1 + 1 + 1, 1, none⟩) hg; have y2 := fun hg => hb3.cell (p := ⟨w.heap.size + 1 + 1 + 1 + 1, 2, none⟩) hg; have f0 := fun hg => hb3.frozen (p := ⟨w.heap.size + 1 + 1 + 1 + 1, 0, none⟩) hg; have f1 := fun hg => hb3.frozen (p := ⟨w.heap.size + 1 + 1 + 1 + 1, 1, none⟩) hg; have f2 := fun hg => hb3.frozen (p := ⟨w.heap.size + 1 + 1 + 1 + 1, 2, none⟩) hg; simp [hz, go_sem] at z0 z1 z2 y0 y1 y2 f0 f1 f2; have HB3 := hid hb3; clear hb3))
  all_goals go_wp2
  all_goals
    refine bodyPost_ret (v := .tuple #[.agg #[.int .i64 m1, .int .i64 (x + m2 + j0), .int .i64 (y + m3 + j1)], .bool t]) (by simp [results, Tryd.results30, go_sem, y0, y1, y2]) rfl ⟨rfl, ?_⟩
  all_goals
    repeat (first | exact Below.refl _ _ | exact (Below.trans (b := _) (by repeat (first | exact Below.refl _ _ | refine Below.drew ?_ | refine Below.alloc ?_ (by first | omega | (simp; done) | (simp; omega)) _)) (HB3.out.mono (by first | omega | (simp; done) | (simp; omega)))) | refine Below.drew ?_ | refine below_drewN_r ?_ _ | refine Below.setCell ?_ (by first | omega | (simp; done) | (simp; omega)) _ | refine Below.alloc ?_ (by first | omega | (simp; done) | (simp; omega)) _)
end Go.Proofs.YtjonbhimbhidpaaDoor
