/-
  Walks over chapter 12: Odd's inner function.
-/
import Derived.Test.YtaedbkdimpdngaaBaseD
namespace Go.Proofs.Ytaedbkdimpdngaa
open Go.RowKit
theorem grown_set (w : World) (a : Addr) (u : Value) : w.grownBy (w.setCell a u) (some a.block) :=
  ⟨rfl, rfl, rfl, by simp, fun k _ hn => Below.heap_setCell _ _ _ _ (fun e => hn (by rw [e]))⟩
theorem clone_any (g c : Nat) (l : List Nat) (u : World) (hl : l.length ≤ 100) (h : IsV u (.slice (some ⟨g, 0, none⟩) l.length c) (l.map iv)) :
    Calls Try.prog 55 #[.slice (some ⟨g, 0, none⟩) l.length c] u fun e w'' => ∃ cv, e = .returned cv ∧ OwnV w'' u.heap.size 3 cv (l.map iv) ∧ Below u.heap.size u w'' := by
  have hc := Try.slices_Clone_int g 0 l.length c (l.map (fun i : Nat => (i : Int))) u (by simp) (by omega) (fun j hj => by
    rw [List.length_map] at hj
    obtain ⟨g', hg, _, hcell⟩ := isV_at h j (by rw [List.length_map]; exact hj)
    cases hg
    rw [getD_map iv _ 0 j hj] at hcell
    have e : (l.map (fun i : Nat => (i : Int))).getD j 0 = ((l.getD j 0 : Nat) : Int) := by simp [List.getD_eq_getElem?_getD, List.getElem?_eq_getElem hj]
    rw [Nat.zero_add, hcell, e]
    rfl)
  refine hc.mono fun e w' ⟨v', he, ho, _, hb⟩ => ⟨v', he, ?_, hb⟩
  unfold OwnV
  rw [List.length_map]
  have e2 : ((l.map (fun i : Nat => (i : Int))).take l.length).map (Value.int .i64) = l.map iv := by
    rw [List.take_of_length_le (by simp), List.map_map]; rfl
  rw [e2] at ho
  exact ho
theorem walk_zero (d : Dsp) (h : Nat) (l : List Nat) : d.walk h 0 l = if d.att (lastN h l) h then some (h :: l) else none := rfl
theorem walk_succ (d : Dsp) (h k : Nat) (l : List Nat) : d.walk h (k + 1) l = firstS (fun i => if decide (h < i) && d.att (lastN h l) i && !l.contains i then d.walk h k (l ++ [i]) else none) d.n := rfl
set_option maxRecDepth 100000 in
set_option maxHeartbeats 4000000 in
theorem oddw_any (OUT DB NB WK D : Nat) (d : Dsp) (hn : d.n ≤ 12) : ∀ (k h : Nat) (l : List Nat) (v : Value) (seen : Nat) (w : World), OddEnv w OUT DB NB WK D d → OwnV w 0 3 v ((h :: l).map iv) → Part d h l → k ≤ 12 → seen < 4096 → (∀ i, i < d.n → h < i → seen.testBit i = l.contains i) →
    Calls Try.prog 54 #[v, .int .u16 (seen : Int), .int .i64 (k : Int), .pointer (some ⟨OUT, 0, none⟩), .pointer (some ⟨DB, 0, none⟩), .pointer (some ⟨NB, 0, none⟩), .pointer (some ⟨WK, 0, none⟩)] w (OddPost w OUT DB NB WK D d (d.walk h k l)) := by
  intro k
  induction k with
  | zero =>
    intro h l v seen w hE hv hp hk hs hsb
    obtain ⟨gr, cr, rfl, -, hgr⟩ := ownV_some hv (by simp)
    have hln : l.length < d.n := part_len d hp
    have hh : h < d.n := hp.lt h (by simp)
    have hla : lastN h l < d.n := hp.lt _ (lastN_mem l h)
    obtain ⟨b1, b2, c1, c2, hfa⟩ := hE.facts
    obtain ⟨oa, om, oc, hout⟩ := hE.out
    have hne : gr ≠ OUT := by
      obtain ⟨cs, hcs⟩ := row_type hv gr rfl
      exact ne_of_type hcs hout (by decide)
    have hg1 : w.grownBy (w.setCell ⟨OUT, 0, none⟩ (.slice (some ⟨gr, 0, none⟩) ((h :: l).map iv).length cr)) (some OUT) := grown_set w ⟨OUT, 0, none⟩ _
    have ho1 : (w.setCell ⟨OUT, 0, none⟩ (.slice (some ⟨gr, 0, none⟩) ((h :: l).map iv).length cr)).heap[OUT]? = some (.cells #[.slice (some ⟨gr, 0, none⟩) ((h :: l).map iv).length cr] 24) := heap_setCell1 hout
    have hv1 : OwnV (w.setCell ⟨OUT, 0, none⟩ (.slice (some ⟨gr, 0, none⟩) ((h :: l).map iv).length cr)) 0 3 (.slice (some ⟨gr, 0, none⟩) ((h :: l).map iv).length cr) ((h :: l).map iv) := row_other (e' := 24) hv hg1 (fun k hk => by injection hk with hk; subst hk; exact ⟨_, hout⟩) (by decide)
    have x0 := box1_free hout
    have x1 := box1 hout
    have hlast := ownV_cell hv l.length (by simp)
    have hl0 : ((h :: l).map iv).length = l.length + 1 := by simp
    rw [getD_map iv _ 0 l.length (by simp), lastN_at] at hlast
    rw [hl0] at hg1 ho1 hv1 ⊢
    obtain ⟨w1, hw1⟩ : ∃ w1, w1 = w.setCell ⟨OUT, 0, none⟩ (.slice (some ⟨gr, 0, none⟩) (l.length + 1) cr) := ⟨_, rfl⟩
    rw [← hw1] at hg1 ho1 hv1
    have HW1 := hid hw1
    have HG1 := hid hg1
    have HO1 := hid ho1
    have HV1 := hid hv1
    have hE1 := hE.grown hg1 ⟨_, _, _, ho1⟩
    have HE1 := hid hE1
    have hatt := by_bit d hla hh
    have hyl := byL_lt d hn (lastN h l)
    have hcell := (hfa w1 hg1).2.2.2.2 _ hla
    have hz := ownV_cell hv1 0 (by simp)
    rw [getD_map iv _ 0 0 (by simp)] at hz
    have hz0 : w1.cell? ⟨gr, 0, none⟩ = some (.int .i64 (h : Int)) := hz
    have hp2 : 2 ^ h < 65536 := Nat.lt_of_le_of_lt (pow_small (show h ≤ 12 by omega)) (by decide)
    have ha := and_one ((byL d).getD (lastN h l) 0) h
    have hand := and16 (a := (byL d).getD (lastN h l) 0) (b := 2 ^ h) (by omega) hp2
    have ONH : Hid (∀ w', Calls Try.prog 52 #[.int .i64 (h : Int)] w' fun e w'' => e = .returned (.int .u16 ((2 ^ h : Nat) : Int)) ∧ Below w'.heap.size w' w'') := fun w' => one_any h w' (by omega)
    have hwz := walk_zero d h l
    have hif := hfa w1 hg1
    obtain ⟨f0, f1, f2, ⟨f3, f4, f5⟩, -⟩ := hif
    clear hfa hE hv hv1 hg1 ho1 hw1 hE1 hz
    unfold iv at hlast
    obtain ⟨la, hlae⟩ : ∃ la, la = lastN h l := ⟨_, rfl⟩
    rw [← hlae] at hlast hatt hyl hcell ha hand hwz hla
    generalize (byL d).getD la 0 = y at *
    generalize 2 ^ h = p at *
    generalize y &&& p = q at *
    have KEEP : Hid (∀ w', Below w1.heap.size w1 w' → w'.cell? ⟨DB, 0, none⟩ = some (.pointer (some ⟨D, 0, none⟩)) ∧ w'.cell? ⟨WK, 0, none⟩ = some (.func (.func 54) #[] #[.pointer (some ⟨OUT, 0, none⟩), .pointer (some ⟨DB, 0, none⟩), .pointer (some ⟨NB, 0, none⟩), .pointer (some ⟨WK, 0, none⟩)]) ∧ w'.cell? ⟨D, 1, none⟩ = some (.slice (some ⟨b1, 0, none⟩) d.n c1) ∧ w'.cell? ⟨b1, la, none⟩ = some (.int .u16 (y : Int)) ∧ w'.cell? ⟨gr, 0, none⟩ = some (.int .i64 (h : Int))) := fun w' hb =>
      ⟨(hb.cell (p := ⟨DB, 0, none⟩) (World.block_lt_of_cell? w1 _ f0)).trans f0, (hb.cell (p := ⟨WK, 0, none⟩) (World.block_lt_of_cell? w1 _ f2)).trans f2, (hb.cell (p := ⟨D, 1, none⟩) (World.block_lt_of_cell? w1 _ f4)).trans f4, (hb.cell (p := ⟨b1, la, none⟩) (World.block_lt_of_cell? w1 _ hcell)).trans hcell, (hb.cell (p := ⟨gr, 0, none⟩) (World.block_lt_of_cell? w1 _ hz0)).trans hz0⟩
    have HFIN0 : Hid (∀ w', Below w1.heap.size w1 w' → OddEnv w' OUT DB NB WK D d ∧ w.grownBy w' (some OUT) ∧ ∃ o, w'.heap[OUT]? = some (.cells #[o] 24) ∧ IsV w' o ((h :: l).map iv)) := fun w' hb =>
      ⟨HE1.out.below hb, grown_trans HG1.out (grown_of hb), _, (hb.block _ (heap_lt HO1.out)).trans HO1.out, ownV_isV (ownV_below HV1.out hb) (by simp; omega)⟩
    have HAND := hid hand
    clear f0 f1 f2 f3 f4 f5 hcell hz0 hand
    cases hok : d.att la h with
    | true =>
      have hq0 : ¬ q = 0 := fun e => by have := ha.1 e; rw [hatt, hok] at this; cases this
      have HFIN : Hid (∀ w', Below w1.heap.size w1 w' → OddPost w OUT DB NB WK D d (some (h :: l)) (.returned (.bool true)) w') := fun w' hb => by
        obtain ⟨g1, g2, g3⟩ := HFIN0.out w' hb
        exact ⟨g1, g2, rfl, fun x hx => by injection hx with hx; rw [← hx]; exact g3⟩
      rw [hok, if_pos rfl] at hwz
      rw [hwz]
      clear hwz hok hatt ha HFIN0 hout hlae
      go_enter Try.func54, Try.ntmps54
      go_upto_region 4 with fail
      rw [← HW1.out]
      refine wp_region_held_drew (S := fun w' => w'.cell? ⟨DB, 0, none⟩ = some (.pointer (some ⟨D, 0, none⟩)) ∧ w'.cell? ⟨WK, 0, none⟩ = some (.func (.func 54) #[] #[.pointer (some ⟨OUT, 0, none⟩), .pointer (some ⟨DB, 0, none⟩), .pointer (some ⟨NB, 0, none⟩), .pointer (some ⟨WK, 0, none⟩)]) ∧ w'.cell? ⟨D, 1, none⟩ = some (.slice (some ⟨b1, 0, none⟩) d.n c1) ∧ w'.cell? ⟨b1, la, none⟩ = some (.int .u16 (y : Int)) ∧ w'.cell? ⟨gr, 0, none⟩ = some (.int .i64 (h : Int))) (by kernel_rfl) (KEEP.out _ ((Below.refl _ _).drew)) (fun hHeld => ?_)
      have HU0 : Hid (Below w1.heap.size w1 w1.drew) := (Below.refl _ _).drew
      generalize w1.drew = u0 at *
      refine take_at (i := 0) 22 (v := .pointer (some ⟨D, 0, none⟩)) rfl (by kernel_rfl) (by kernel_rfl) (by kernel_rfl) rfl (fun _ _ _ h => h) (by rfl) (fun w hSw => ?_) hHeld ?_
      · (try dsimp only at hSw); go_simp
      simp only [Act.put, List.setIfInBounds_toArray, List.set_cons_zero, List.set_cons_succ]
      refine take_at (i := 1) 23 (v := .pointer (some ⟨D, 0, none⟩)) rfl (by kernel_rfl) (by kernel_rfl) (by kernel_rfl) rfl (fun _ _ _ h => h) (by rfl) (fun w hSw => ?_) hHeld ?_
      · (try dsimp only at hSw); go_simp
      simp only [Act.put, List.setIfInBounds_toArray, List.set_cons_zero, List.set_cons_succ]
      refine take_at (i := 2) 24 (v := .pointer (some ⟨D, 1, none⟩)) rfl (by kernel_rfl) (by kernel_rfl) (by kernel_rfl) rfl (fun _ _ _ h => h) (by rfl) (fun w hSw => ?_) hHeld ?_
      · (try dsimp only at hSw); go_simp
      simp only [Act.put, List.setIfInBounds_toArray, List.set_cons_zero, List.set_cons_succ]
      refine take_at (i := 3) 25 (v := .slice (some ⟨b1, 0, none⟩) d.n c1) rfl (by kernel_rfl) (by kernel_rfl) (by kernel_rfl) rfl (fun _ _ _ h => h) (by rfl) (fun w hSw => ?_) hHeld ?_
      · (try dsimp only at hSw); go_simp
      simp only [Act.put, List.setIfInBounds_toArray, List.set_cons_zero, List.set_cons_succ]
      refine take_at (i := 4) 26 (v := .int .i64 la) rfl (by kernel_rfl) (by kernel_rfl) (by kernel_rfl) rfl (fun _ _ _ h => h) (by rfl) (fun w hSw => ?_) hHeld ?_
      · (try dsimp only at hSw); go_simp
      simp only [Act.put, List.setIfInBounds_toArray, List.set_cons_zero, List.set_cons_succ]
      refine take_at (i := 5) 27 (v := .pointer (some ⟨b1, la, none⟩)) rfl (by kernel_rfl) (by kernel_rfl) (by kernel_rfl) rfl (fun _ _ _ h => h) (by rfl) (fun w hSw => ?_) hHeld ?_
      · (try dsimp only at hSw); go_simp
      simp only [Act.put, List.setIfInBounds_toArray, List.set_cons_zero, List.set_cons_succ]
      refine take_at (i := 6) 28 (v := .int .u16 y) rfl (by kernel_rfl) (by kernel_rfl) (by kernel_rfl) rfl (fun _ _ _ h => h) (by rfl) (fun w hSw => ?_) hHeld ?_
      · (try dsimp only at hSw); go_simp
      simp only [Act.put, List.setIfInBounds_toArray, List.set_cons_zero, List.set_cons_succ]
      refine take_at (i := 7) 29 (v := .slice (some ⟨gr, 0, none⟩) (l.length + 1) cr) rfl (by kernel_rfl) (by kernel_rfl) (by kernel_rfl) rfl (fun _ _ _ h => h) (by rfl) (fun w hSw => ?_) hHeld ?_
      · (try dsimp only at hSw); go_simp
      simp only [Act.put, List.setIfInBounds_toArray, List.set_cons_zero, List.set_cons_succ]
      refine take_at (i := 8) 30 (v := .pointer (some ⟨gr, 0, none⟩)) rfl (by kernel_rfl) (by kernel_rfl) (by kernel_rfl) rfl (fun _ _ _ h => h) (by rfl) (fun w hSw => ?_) hHeld ?_
      · (try dsimp only at hSw); go_simp
      simp only [Act.put, List.setIfInBounds_toArray, List.set_cons_zero, List.set_cons_succ]
      refine take_at (i := 9) 31 (v := .int .i64 h) rfl (by kernel_rfl) (by kernel_rfl) (by kernel_rfl) rfl (fun _ _ _ h => h) (by rfl) (fun w hSw => ?_) hHeld ?_
      · (try dsimp only at hSw); go_simp
      simp only [Act.put, List.setIfInBounds_toArray, List.set_cons_zero, List.set_cons_succ]
      refine wpAnyH_ready (rs := [10]) (by kernel_rfl) (by simp) ?_
      refine node_f52 32 31 _ rfl (by rfl) rfl rfl rfl ((ONH.out u0).mono ?_) AllReadyH.nil
      · rintro e u1 ⟨rfl, hb1⟩
        have HU1 := hid (below_step HU0.out hb1)
        have hHeld := KEEP.out _ HU1.out
        refine ⟨_, rfl, hHeld, ?_⟩
        clear hb1
        simp only [Act.put, List.setIfInBounds_toArray, List.set_cons_zero, List.set_cons_succ]
        refine take_at (i := 11) 33 (v := .int .u16 q) rfl (by kernel_rfl) (by kernel_rfl) (by kernel_rfl) rfl (fun _ _ _ h => h) (by rfl) (fun w hSw => ?_) hHeld ?_
        · (try dsimp only at hSw); go_simp; rw [HAND.out]; first | done | rfl
        simp only [Act.put, List.setIfInBounds_toArray, List.set_cons_zero, List.set_cons_succ]
        refine take_at (i := 12) 34 (v := .bool true) rfl (by kernel_rfl) (by kernel_rfl) (by kernel_rfl) rfl (fun _ _ _ h => h) (by rfl) (fun w hSw => ?_) hHeld ?_
        · (try dsimp only at hSw); go_simp; first | done | simp [hq0]
        simp only [Act.put, List.setIfInBounds_toArray, List.set_cons_zero, List.set_cons_succ]
        refine take_at (i := 13) 10 (v := .bool true) rfl (by kernel_rfl) (by kernel_rfl) (by kernel_rfl) rfl (fun _ _ _ h => h) (by rfl) (fun w hSw => ?_) hHeld ?_
        · (try dsimp only at hSw); go_simp
        simp only [Act.put, List.setIfInBounds_toArray, List.set_cons_zero, List.set_cons_succ]
        refine wpAnyH_done (by kernel_rfl) ?_ _
        clear hHeld
        go_wp2_with fail
        go_ret
        exact HFIN.out _ HU1.out
    | false =>
      have hq0 : q = 0 := ha.2 (by rw [hatt, hok])
      subst hq0
      have HFIN : Hid (∀ w', Below w1.heap.size w1 w' → OddPost w OUT DB NB WK D d none (.returned (.bool false)) w') := fun w' hb => by
        obtain ⟨g1, g2, _⟩ := HFIN0.out w' hb
        exact ⟨g1, g2, rfl, fun x hx => by cases hx⟩
      rw [hok, if_neg (by decide)] at hwz
      rw [hwz]
      clear hwz hok hatt ha HFIN0 hout hlae
      go_enter Try.func54, Try.ntmps54
      go_upto_region 4 with fail
      rw [← HW1.out]
      refine wp_region_held_drew (S := fun w' => w'.cell? ⟨DB, 0, none⟩ = some (.pointer (some ⟨D, 0, none⟩)) ∧ w'.cell? ⟨WK, 0, none⟩ = some (.func (.func 54) #[] #[.pointer (some ⟨OUT, 0, none⟩), .pointer (some ⟨DB, 0, none⟩), .pointer (some ⟨NB, 0, none⟩), .pointer (some ⟨WK, 0, none⟩)]) ∧ w'.cell? ⟨D, 1, none⟩ = some (.slice (some ⟨b1, 0, none⟩) d.n c1) ∧ w'.cell? ⟨b1, la, none⟩ = some (.int .u16 (y : Int)) ∧ w'.cell? ⟨gr, 0, none⟩ = some (.int .i64 (h : Int))) (by kernel_rfl) (KEEP.out _ ((Below.refl _ _).drew)) (fun hHeld => ?_)
      have HU0 : Hid (Below w1.heap.size w1 w1.drew) := (Below.refl _ _).drew
      generalize w1.drew = u0 at *
      refine take_at (i := 0) 22 (v := .pointer (some ⟨D, 0, none⟩)) rfl (by kernel_rfl) (by kernel_rfl) (by kernel_rfl) rfl (fun _ _ _ h => h) (by rfl) (fun w hSw => ?_) hHeld ?_
      · (try dsimp only at hSw); go_simp
      simp only [Act.put, List.setIfInBounds_toArray, List.set_cons_zero, List.set_cons_succ]
      refine take_at (i := 1) 23 (v := .pointer (some ⟨D, 0, none⟩)) rfl (by kernel_rfl) (by kernel_rfl) (by kernel_rfl) rfl (fun _ _ _ h => h) (by rfl) (fun w hSw => ?_) hHeld ?_
      · (try dsimp only at hSw); go_simp
      simp only [Act.put, List.setIfInBounds_toArray, List.set_cons_zero, List.set_cons_succ]
      refine take_at (i := 2) 24 (v := .pointer (some ⟨D, 1, none⟩)) rfl (by kernel_rfl) (by kernel_rfl) (by kernel_rfl) rfl (fun _ _ _ h => h) (by rfl) (fun w hSw => ?_) hHeld ?_
      · (try dsimp only at hSw); go_simp
      simp only [Act.put, List.setIfInBounds_toArray, List.set_cons_zero, List.set_cons_succ]
      refine take_at (i := 3) 25 (v := .slice (some ⟨b1, 0, none⟩) d.n c1) rfl (by kernel_rfl) (by kernel_rfl) (by kernel_rfl) rfl (fun _ _ _ h => h) (by rfl) (fun w hSw => ?_) hHeld ?_
      · (try dsimp only at hSw); go_simp
      simp only [Act.put, List.setIfInBounds_toArray, List.set_cons_zero, List.set_cons_succ]
      refine take_at (i := 4) 26 (v := .int .i64 la) rfl (by kernel_rfl) (by kernel_rfl) (by kernel_rfl) rfl (fun _ _ _ h => h) (by rfl) (fun w hSw => ?_) hHeld ?_
      · (try dsimp only at hSw); go_simp
      simp only [Act.put, List.setIfInBounds_toArray, List.set_cons_zero, List.set_cons_succ]
      refine take_at (i := 5) 27 (v := .pointer (some ⟨b1, la, none⟩)) rfl (by kernel_rfl) (by kernel_rfl) (by kernel_rfl) rfl (fun _ _ _ h => h) (by rfl) (fun w hSw => ?_) hHeld ?_
      · (try dsimp only at hSw); go_simp
      simp only [Act.put, List.setIfInBounds_toArray, List.set_cons_zero, List.set_cons_succ]
      refine take_at (i := 6) 28 (v := .int .u16 y) rfl (by kernel_rfl) (by kernel_rfl) (by kernel_rfl) rfl (fun _ _ _ h => h) (by rfl) (fun w hSw => ?_) hHeld ?_
      · (try dsimp only at hSw); go_simp
      simp only [Act.put, List.setIfInBounds_toArray, List.set_cons_zero, List.set_cons_succ]
      refine take_at (i := 7) 29 (v := .slice (some ⟨gr, 0, none⟩) (l.length + 1) cr) rfl (by kernel_rfl) (by kernel_rfl) (by kernel_rfl) rfl (fun _ _ _ h => h) (by rfl) (fun w hSw => ?_) hHeld ?_
      · (try dsimp only at hSw); go_simp
      simp only [Act.put, List.setIfInBounds_toArray, List.set_cons_zero, List.set_cons_succ]
      refine take_at (i := 8) 30 (v := .pointer (some ⟨gr, 0, none⟩)) rfl (by kernel_rfl) (by kernel_rfl) (by kernel_rfl) rfl (fun _ _ _ h => h) (by rfl) (fun w hSw => ?_) hHeld ?_
      · (try dsimp only at hSw); go_simp
      simp only [Act.put, List.setIfInBounds_toArray, List.set_cons_zero, List.set_cons_succ]
      refine take_at (i := 9) 31 (v := .int .i64 h) rfl (by kernel_rfl) (by kernel_rfl) (by kernel_rfl) rfl (fun _ _ _ h => h) (by rfl) (fun w hSw => ?_) hHeld ?_
      · (try dsimp only at hSw); go_simp
      simp only [Act.put, List.setIfInBounds_toArray, List.set_cons_zero, List.set_cons_succ]
      refine wpAnyH_ready (rs := [10]) (by kernel_rfl) (by simp) ?_
      refine node_f52 32 31 _ rfl (by rfl) rfl rfl rfl ((ONH.out u0).mono ?_) AllReadyH.nil
      · rintro e u1 ⟨rfl, hb1⟩
        have HU1 := hid (below_step HU0.out hb1)
        have hHeld := KEEP.out _ HU1.out
        refine ⟨_, rfl, hHeld, ?_⟩
        clear hb1
        simp only [Act.put, List.setIfInBounds_toArray, List.set_cons_zero, List.set_cons_succ]
        refine take_at (i := 11) 33 (v := .int .u16 0) rfl (by kernel_rfl) (by kernel_rfl) (by kernel_rfl) rfl (fun _ _ _ h => h) (by rfl) (fun w hSw => ?_) hHeld ?_
        · (try dsimp only at hSw); go_simp; rw [HAND.out]; first | done | rfl
        simp only [Act.put, List.setIfInBounds_toArray, List.set_cons_zero, List.set_cons_succ]
        refine take_at (i := 12) 34 (v := .bool false) rfl (by kernel_rfl) (by kernel_rfl) (by kernel_rfl) rfl (fun _ _ _ h => h) (by rfl) (fun w hSw => ?_) hHeld ?_
        · (try dsimp only at hSw); go_simp; first | done | simp [hq0]
        simp only [Act.put, List.setIfInBounds_toArray, List.set_cons_zero, List.set_cons_succ]
        refine take_at (i := 13) 10 (v := .bool false) rfl (by kernel_rfl) (by kernel_rfl) (by kernel_rfl) rfl (fun _ _ _ h => h) (by rfl) (fun w hSw => ?_) hHeld ?_
        · (try dsimp only at hSw); go_simp
        simp only [Act.put, List.setIfInBounds_toArray, List.set_cons_zero, List.set_cons_succ]
        refine wpAnyH_done (by kernel_rfl) ?_ _
        clear hHeld
        go_wp2_with fail
        go_ret
        exact HFIN.out _ HU1.out
  | succ k ih =>
    intro h l v seen w hE hv hp hk hs hsb
    obtain ⟨gr, cr, rfl, -, hgr⟩ := ownV_some hv (by simp)
    have hln : l.length < d.n := part_len d hp
    have hh : h < d.n := hp.lt h (by simp)
    have hla : lastN h l < d.n := hp.lt _ (lastN_mem l h)
    obtain ⟨b1, b2, c1, c2, hfa⟩ := hE.facts
    obtain ⟨oa, om, oc, hout⟩ := hE.out
    have hl0 : ((h :: l).map iv).length = l.length + 1 := by simp
    have hlast := ownV_cell hv l.length (by simp)
    rw [getD_map iv _ 0 l.length (by simp), lastN_at] at hlast
    have hz := ownV_cell hv 0 (by simp)
    rw [getD_map iv _ 0 0 (by simp)] at hz
    have hz0 : w.cell? ⟨gr, 0, none⟩ = some (.int .i64 (h : Int)) := hz
    rw [hl0] at hv ⊢
    have HVK : Hid (∀ w', w.grownBy w' (some OUT) → OwnV w' 0 3 (.slice (some ⟨gr, 0, none⟩) (l.length + 1) cr) ((h :: l).map iv)) := fun w' hg => row_other (e' := 24) hv hg (fun k hk => by injection hk with hk; subst hk; exact ⟨_, hout⟩) (by decide)
    have HFA := hid hfa
    have HE := hid hE
    have HP := hid hp
    have HSB := hid hsb
    have IH := hid ih
    have HLN : Hid (((h :: l).map iv).length + 1 ≤ 1000000) := by show _ ≤ _; rw [hl0]; omega
    have HWS := hid (walk_succ d h k l)
    obtain ⟨WKV, hWKV⟩ : ∃ W, W = d.walk h (k + 1) l := ⟨_, rfl⟩
    rw [← hWKV] at HWS ⊢
    unfold iv at hlast
    obtain ⟨la, hlae⟩ : ∃ la, la = lastN h l := ⟨_, rfl⟩
    rw [← hlae] at hlast hla HWS
    have HLA := hid hlae
    have hkz : ¬ ((k : Int) + 1 = 0) := by omega
    clear hfa hE hv hp hsb ih hz hWKV hlae hout hgr hl0
    go_enter Try.func54, Try.ntmps54
    go_wp2_with fail
    clear hlast hz0
    go_loopw [12] (fun iv wr => ∃ i : Nat, iv = .int .i64 i ∧ h + 1 ≤ i ∧ i ≤ d.n ∧ Hid (OddEnv wr OUT DB NB WK D d) ∧ Hid (w.grownBy wr (some OUT)) ∧ Hid (∀ j, j < i → (if decide (h < j) && d.att la j && !l.contains j then d.walk h k (l ++ [j]) else none) = none)) (fun iv _ => d.n - (intOf iv).toNat)
    case atStart => exact ⟨h + 1, by go_num, by omega, by omega, HE, grown_refl _ _, fun j hj => by rw [decide_eq_false (by omega : ¬ h < j)]; rfl⟩
    case round =>
      obtain ⟨i, rfl, hi0, hi, HEr, HGr, HNF⟩ := hrel
      have x0 := (HFA.out wr HGr.out).2.1
      by_cases hlt : i < d.n
      · have hcell := (HFA.out wr HGr.out).2.2.2.2 la hla
        have hatt := by_bit d hla hlt
        have hyl := byL_lt d hn la
        have hpi : 2 ^ i < 65536 := Nat.lt_of_le_of_lt (pow_small (show i ≤ 12 by omega)) (by decide)
        have ha := and_one ((byL d).getD la 0) i
        have HAND := hid (and16 (a := (byL d).getD la 0) (b := 2 ^ i) (by omega) hpi)
        have ha2 := and_one seen i
        have HAND2 := hid (and16 (a := seen) (b := 2 ^ i) (by omega) hpi)
        have HOR := hid (or16 (a := seen) (b := 2 ^ i) (by omega) hpi)
        have ONI : Hid (∀ w', Calls Try.prog 52 #[.int .i64 (i : Int)] w' fun e w'' => e = .returned (.int .u16 ((2 ^ i : Nat) : Int)) ∧ Below w'.heap.size w' w'') := fun w' => one_any i w' (by omega)
        have hsn : seen ||| 2 ^ i < 4096 := or_lt (n := 12) hs (Nat.lt_of_lt_of_le (Nat.pow_lt_pow_right (by decide) (show i < 12 by omega)) (Nat.le_refl _))
        have hsbi := HSB.out i hlt (by omega)
        have hcond : decide (h < i) = true := decide_eq_true (by omega)
        have KEEP : Hid (∀ w', wr.grownBy w' (some OUT) → w'.cell? ⟨DB, 0, none⟩ = some (.pointer (some ⟨D, 0, none⟩)) ∧ w'.cell? ⟨WK, 0, none⟩ = some (.func (.func 54) #[] #[.pointer (some ⟨OUT, 0, none⟩), .pointer (some ⟨DB, 0, none⟩), .pointer (some ⟨NB, 0, none⟩), .pointer (some ⟨WK, 0, none⟩)]) ∧ w'.cell? ⟨D, 1, none⟩ = some (.slice (some ⟨b1, 0, none⟩) d.n c1) ∧ w'.cell? ⟨b1, la, none⟩ = some (.int .u16 (((byL d).getD la 0 : Nat) : Int))) := fun w' hg => by
          obtain ⟨g1, g2, g3, ⟨g4, g5, g6⟩, g7⟩ := HFA.out w' (grown_trans HGr.out hg)
          exact ⟨g1, g3, g5, g7 la hla⟩
        have CLO : Hid (∀ u, Below wr.heap.size wr u → Calls Try.prog 55 #[.slice (some ⟨gr, 0, none⟩) (l.length + 1) cr] u fun e w'' => ∃ cv, e = .returned cv ∧ OwnV w'' u.heap.size 3 cv ((h :: l).map iv) ∧ Below u.heap.size u w'') := fun u hb => clone_any gr cr (h :: l) u (by simp; omega) (ownV_isV (HVK.out u (grown_trans HGr.out (grown_of hb))) (by simp; omega))
        have SEEN : Hid (∀ j, j < d.n → h < j → (seen ||| 2 ^ i).testBit j = (l ++ [i]).contains j) := fun j hj hj2 => by
          rw [Nat.testBit_or, HSB.out j hj hj2]
          by_cases e : j = i
          · subst e; rw [Nat.testBit_two_pow_self]; simp
          · rw [Nat.testBit_two_pow_of_ne (fun h => e h.symm), Bool.or_false, Bool.eq_iff_iff]; simp [e]
        have RECA : Hid (d.att la i = true → l.contains i = false → ∀ u nv, Below wr.heap.size wr u → OwnV u wr.heap.size 3 nv ((h :: l).map iv ++ [.int .i64 (i : Int)]) → Calls Try.prog 54 #[nv, .int .u16 ((seen ||| 2 ^ i : Nat) : Int), .int .i64 (k : Int), .pointer (some ⟨OUT, 0, none⟩), .pointer (some ⟨DB, 0, none⟩), .pointer (some ⟨NB, 0, none⟩), .pointer (some ⟨WK, 0, none⟩)] u (OddPost u OUT DB NB WK D d (d.walk h k (l ++ [i])))) := fun h1 h2 u nv hb ho =>
          IH.out h (l ++ [i]) nv (seen ||| 2 ^ i) u (HEr.out.below hb) (by rw [show (h :: (l ++ [i])).map iv = (h :: l).map iv ++ [.int .i64 (i : Int)] by simp [iv]]; exact ownV_mono ho (Nat.zero_le _)) (part_snoc d HP.out (by omega) hlt (by rw [← HLA.out]; exact h1) (by simpa using h2)) (by omega) hsn SEEN.out
        have HSTEP : Hid ((if decide (h < i) && d.att la i && !l.contains i then d.walk h k (l ++ [i]) else none) = none → ∀ j, j < i + 1 → (if decide (h < j) && d.att la j && !l.contains j then d.walk h k (l ++ [j]) else none) = none) := fun h0 j hj => by
          by_cases e : j = i
          · rw [e]; exact h0
          · exact HNF.out j (by omega)
        have HFND : Hid (∀ x, (if decide (h < i) && d.att la i && !l.contains i then d.walk h k (l ++ [i]) else none) = some x → WKV = some x) := fun x hx => by
          rw [HWS.out]
          exact firstS_at (f := fun i => if decide (h < i) && d.att la i && !l.contains i then d.walk h k (l ++ [i]) else none) hlt hx HNF.out
        rw [hcond, Bool.true_and] at HSTEP HFND
        clear hcond HNF hpi hyl hcell
        generalize (byL d).getD la 0 = y at *
        generalize seen ||| 2 ^ i = sn at *
        generalize 2 ^ i = p at *
        generalize y &&& p = q at *
        generalize seen &&& p = r at *
        go_upto_region 8 with fail
        clear x0
        cases hok : d.att la i with
        | false =>
          have hq0 : q = 0 := ha.2 (by rw [hatt, hok])
          subst hq0
          rw [hok] at HSTEP
          have NX := hid (HSTEP.out rfl)
          clear ha hatt ha2 hsbi hok HSTEP HFND RECA
          refine wp_region_held_drew (S := fun w' => w'.cell? ⟨DB, 0, none⟩ = some (.pointer (some ⟨D, 0, none⟩)) ∧ w'.cell? ⟨WK, 0, none⟩ = some (.func (.func 54) #[] #[.pointer (some ⟨OUT, 0, none⟩), .pointer (some ⟨DB, 0, none⟩), .pointer (some ⟨NB, 0, none⟩), .pointer (some ⟨WK, 0, none⟩)]) ∧ w'.cell? ⟨D, 1, none⟩ = some (.slice (some ⟨b1, 0, none⟩) d.n c1) ∧ w'.cell? ⟨b1, la, none⟩ = some (.int .u16 (y : Int))) (by kernel_rfl) (KEEP.out _ (grown_of ((Below.refl _ _).drew))) (fun hHeld => ?_)
          have HU0 : Hid (Below wr.heap.size wr wr.drew) := (Below.refl _ _).drew
          generalize wr.drew = u0 at *
          refine take_at (i := 0) 44 (v := .pointer (some ⟨D, 0, none⟩)) rfl (by kernel_rfl) (by kernel_rfl) (by kernel_rfl) rfl (fun _ _ _ h => h) (by rfl) (fun w hSw => ?_) hHeld ?_
          · (try dsimp only at hSw); go_simp
          simp only [Act.put, List.setIfInBounds_toArray, List.set_cons_zero, List.set_cons_succ]
          refine take_at (i := 1) 45 (v := .pointer (some ⟨D, 0, none⟩)) rfl (by kernel_rfl) (by kernel_rfl) (by kernel_rfl) rfl (fun _ _ _ h => h) (by rfl) (fun w hSw => ?_) hHeld ?_
          · (try dsimp only at hSw); go_simp
          simp only [Act.put, List.setIfInBounds_toArray, List.set_cons_zero, List.set_cons_succ]
          refine take_at (i := 2) 46 (v := .pointer (some ⟨D, 1, none⟩)) rfl (by kernel_rfl) (by kernel_rfl) (by kernel_rfl) rfl (fun _ _ _ h => h) (by rfl) (fun w hSw => ?_) hHeld ?_
          · (try dsimp only at hSw); go_simp
          simp only [Act.put, List.setIfInBounds_toArray, List.set_cons_zero, List.set_cons_succ]
          refine take_at (i := 3) 47 (v := .slice (some ⟨b1, 0, none⟩) d.n c1) rfl (by kernel_rfl) (by kernel_rfl) (by kernel_rfl) rfl (fun _ _ _ h => h) (by rfl) (fun w hSw => ?_) hHeld ?_
          · (try dsimp only at hSw); go_simp
          simp only [Act.put, List.setIfInBounds_toArray, List.set_cons_zero, List.set_cons_succ]
          refine take_at (i := 4) 48 (v := .int .i64 la) rfl (by kernel_rfl) (by kernel_rfl) (by kernel_rfl) rfl (fun _ _ _ h => h) (by rfl) (fun w hSw => ?_) hHeld ?_
          · (try dsimp only at hSw); go_simp
          simp only [Act.put, List.setIfInBounds_toArray, List.set_cons_zero, List.set_cons_succ]
          refine take_at (i := 5) 49 (v := .pointer (some ⟨b1, la, none⟩)) rfl (by kernel_rfl) (by kernel_rfl) (by kernel_rfl) rfl (fun _ _ _ h => h) (by rfl) (fun w hSw => ?_) hHeld ?_
          · (try dsimp only at hSw); go_simp
          simp only [Act.put, List.setIfInBounds_toArray, List.set_cons_zero, List.set_cons_succ]
          refine take_at (i := 6) 50 (v := .int .u16 y) rfl (by kernel_rfl) (by kernel_rfl) (by kernel_rfl) rfl (fun _ _ _ h => h) (by rfl) (fun w hSw => ?_) hHeld ?_
          · (try dsimp only at hSw); go_simp
          simp only [Act.put, List.setIfInBounds_toArray, List.set_cons_zero, List.set_cons_succ]
          refine take_at (i := 7) 51 (v := .int .i64 i) rfl (by kernel_rfl) (by kernel_rfl) (by kernel_rfl) rfl (fun _ _ _ h => h) (by rfl) (fun w hSw => ?_) hHeld ?_
          · (try dsimp only at hSw); go_simp
          simp only [Act.put, List.setIfInBounds_toArray, List.set_cons_zero, List.set_cons_succ]
          refine wpAnyH_ready (rs := [8]) (by kernel_rfl) (by simp) ?_
          refine node_f52 52 51 _ rfl (by rfl) rfl rfl rfl ((ONI.out u0).mono ?_) AllReadyH.nil
          · rintro e u1 ⟨rfl, hb1⟩
            have HU1 := hid (below_step HU0.out hb1)
            have hHeld := KEEP.out _ (grown_of HU1.out)
            refine ⟨_, rfl, hHeld, ?_⟩
            clear hb1
            simp only [Act.put, List.setIfInBounds_toArray, List.set_cons_zero, List.set_cons_succ]
            refine take_at (i := 9) 53 (v := .int .u16 0) rfl (by kernel_rfl) (by kernel_rfl) (by kernel_rfl) rfl (fun _ _ _ h => h) (by rfl) (fun w hSw => ?_) hHeld ?_
            · (try dsimp only at hSw); go_simp; rw [HAND.out]; first | done | rfl
            simp only [Act.put, List.setIfInBounds_toArray, List.set_cons_zero, List.set_cons_succ]
            refine take_at (i := 10) 54 (v := .bool false) rfl (by kernel_rfl) (by kernel_rfl) (by kernel_rfl) rfl (fun _ _ _ h => h) (by rfl) (fun w hSw => ?_) hHeld ?_
            · (try dsimp only at hSw); go_simp; first | done | simp [hq0]
            simp only [Act.put, List.setIfInBounds_toArray, List.set_cons_zero, List.set_cons_succ]
            refine take_at (i := 11) 55 (v := .bool false) rfl (by kernel_rfl) (by kernel_rfl) (by kernel_rfl) rfl (fun _ _ _ h => h) (by rfl) (fun w hSw => ?_) hHeld ?_
            · (try dsimp only at hSw); go_simp
            simp only [Act.put, List.setIfInBounds_toArray, List.set_cons_zero, List.set_cons_succ]
            refine skip_at (i := 12) 56 rfl (by kernel_rfl) (by kernel_rfl) (by kernel_rfl) rfl (fun _ _ _ h => h) (by rfl) hHeld ?_
            simp only [Act.put, List.setIfInBounds_toArray, List.set_cons_zero, List.set_cons_succ]
            refine skip_at (i := 13) 57 rfl (by kernel_rfl) (by kernel_rfl) (by kernel_rfl) rfl (fun _ _ _ h => h) (by rfl) hHeld ?_
            simp only [Act.put, List.setIfInBounds_toArray, List.set_cons_zero, List.set_cons_succ]
            refine skip_at (i := 14) 58 rfl (by kernel_rfl) (by kernel_rfl) (by kernel_rfl) rfl (fun _ _ _ h => h) (by rfl) hHeld ?_
            simp only [Act.put, List.setIfInBounds_toArray, List.set_cons_zero, List.set_cons_succ]
            refine skip_at (i := 15) 59 rfl (by kernel_rfl) (by kernel_rfl) (by kernel_rfl) rfl (fun _ _ _ h => h) (by rfl) hHeld ?_
            simp only [Act.put, List.setIfInBounds_toArray, List.set_cons_zero, List.set_cons_succ]
            refine skip_at (i := 16) 60 rfl (by kernel_rfl) (by kernel_rfl) (by kernel_rfl) rfl (fun _ _ _ h => h) (by rfl) hHeld ?_
            simp only [Act.put, List.setIfInBounds_toArray, List.set_cons_zero, List.set_cons_succ]
            refine take_at (i := 17) 61 (v := .bool false) rfl (by kernel_rfl) (by kernel_rfl) (by kernel_rfl) rfl (fun _ _ _ h => h) (by rfl) (fun w hSw => ?_) hHeld ?_
            · (try dsimp only at hSw); go_simp
            simp only [Act.put, List.setIfInBounds_toArray, List.set_cons_zero, List.set_cons_succ]
            refine take_at (i := 18) 62 (v := .bool false) rfl (by kernel_rfl) (by kernel_rfl) (by kernel_rfl) rfl (fun _ _ _ h => h) (by rfl) (fun w hSw => ?_) hHeld ?_
            · (try dsimp only at hSw); go_simp
            simp only [Act.put, List.setIfInBounds_toArray, List.set_cons_zero, List.set_cons_succ]
            refine skip_at (i := 19) 63 rfl (by kernel_rfl) (by kernel_rfl) (by kernel_rfl) rfl (fun _ _ _ h => h) (by rfl) hHeld ?_
            simp only [Act.put, List.setIfInBounds_toArray, List.set_cons_zero, List.set_cons_succ]
            refine skip_at (i := 20) 64 rfl (by kernel_rfl) (by kernel_rfl) (by kernel_rfl) rfl (fun _ _ _ h => h) (by rfl) hHeld ?_
            simp only [Act.put, List.setIfInBounds_toArray, List.set_cons_zero, List.set_cons_succ]
            refine skip_at (i := 21) 65 rfl (by kernel_rfl) (by kernel_rfl) (by kernel_rfl) rfl (fun _ _ _ h => h) (by rfl) hHeld ?_
            simp only [Act.put, List.setIfInBounds_toArray, List.set_cons_zero, List.set_cons_succ]
            refine skip_at (i := 22) 66 rfl (by kernel_rfl) (by kernel_rfl) (by kernel_rfl) rfl (fun _ _ _ h => h) (by rfl) hHeld ?_
            simp only [Act.put, List.setIfInBounds_toArray, List.set_cons_zero, List.set_cons_succ]
            refine skip_at (i := 23) 67 rfl (by kernel_rfl) (by kernel_rfl) (by kernel_rfl) rfl (fun _ _ _ h => h) (by rfl) hHeld ?_
            simp only [Act.put, List.setIfInBounds_toArray, List.set_cons_zero, List.set_cons_succ]
            refine skip_at (i := 24) 68 rfl (by kernel_rfl) (by kernel_rfl) (by kernel_rfl) rfl (fun _ _ _ h => h) (by rfl) hHeld ?_
            simp only [Act.put, List.setIfInBounds_toArray, List.set_cons_zero, List.set_cons_succ]
            refine skip_at (i := 25) 69 rfl (by kernel_rfl) (by kernel_rfl) (by kernel_rfl) rfl (fun _ _ _ h => h) (by rfl) hHeld ?_
            simp only [Act.put, List.setIfInBounds_toArray, List.set_cons_zero, List.set_cons_succ]
            refine skip_at (i := 26) 70 rfl (by kernel_rfl) (by kernel_rfl) (by kernel_rfl) rfl (fun _ _ _ h => h) (by rfl) hHeld ?_
            simp only [Act.put, List.setIfInBounds_toArray, List.set_cons_zero, List.set_cons_succ]
            refine skip_at (i := 27) 71 rfl (by kernel_rfl) (by kernel_rfl) (by kernel_rfl) rfl (fun _ _ _ h => h) (by rfl) hHeld ?_
            simp only [Act.put, List.setIfInBounds_toArray, List.set_cons_zero, List.set_cons_succ]
            refine skip_at (i := 28) 72 rfl (by kernel_rfl) (by kernel_rfl) (by kernel_rfl) rfl (fun _ _ _ h => h) (by rfl) hHeld ?_
            simp only [Act.put, List.setIfInBounds_toArray, List.set_cons_zero, List.set_cons_succ]
            refine skip_at (i := 29) 73 rfl (by kernel_rfl) (by kernel_rfl) (by kernel_rfl) rfl (fun _ _ _ h => h) (by rfl) hHeld ?_
            simp only [Act.put, List.setIfInBounds_toArray, List.set_cons_zero, List.set_cons_succ]
            refine skip_at (i := 30) 74 rfl (by kernel_rfl) (by kernel_rfl) (by kernel_rfl) rfl (fun _ _ _ h => h) (by rfl) hHeld ?_
            simp only [Act.put, List.setIfInBounds_toArray, List.set_cons_zero, List.set_cons_succ]
            refine skip_at (i := 31) 75 rfl (by kernel_rfl) (by kernel_rfl) (by kernel_rfl) rfl (fun _ _ _ h => h) (by rfl) hHeld ?_
            simp only [Act.put, List.setIfInBounds_toArray, List.set_cons_zero, List.set_cons_succ]
            refine take_at (i := 32) 76 (v := .bool false) rfl (by kernel_rfl) (by kernel_rfl) (by kernel_rfl) rfl (fun _ _ _ h => h) (by rfl) (fun w hSw => ?_) hHeld ?_
            · (try dsimp only at hSw); go_simp
            simp only [Act.put, List.setIfInBounds_toArray, List.set_cons_zero, List.set_cons_succ]
            refine wpAnyH_done (by kernel_rfl) ?_ _
            clear hHeld
            go_wp2_with fail
            go_roundw
            case rel => exact ⟨i + 1, by go_num, by omega, by omega, HEr.out.below HU1.out, grown_trans HGr.out (grown_of HU1.out), NX.out⟩
            case measure => simp [intOf]; omega
        | true =>
          have hq0 : ¬ q = 0 := fun e => by have := ha.1 e; rw [hatt, hok] at this; cases this
          rw [hok, Bool.true_and] at HSTEP HFND
          cases hct : l.contains i with
          | true =>
            have hr0 : ¬ r = 0 := fun e => by have := ha2.1 e; rw [hsbi, hct] at this; cases this
            rw [hct] at HSTEP
            have NX := hid (HSTEP.out rfl)
            clear ha hatt ha2 hsbi hok HSTEP HFND RECA hct
            refine wp_region_held_drew (S := fun w' => w'.cell? ⟨DB, 0, none⟩ = some (.pointer (some ⟨D, 0, none⟩)) ∧ w'.cell? ⟨WK, 0, none⟩ = some (.func (.func 54) #[] #[.pointer (some ⟨OUT, 0, none⟩), .pointer (some ⟨DB, 0, none⟩), .pointer (some ⟨NB, 0, none⟩), .pointer (some ⟨WK, 0, none⟩)]) ∧ w'.cell? ⟨D, 1, none⟩ = some (.slice (some ⟨b1, 0, none⟩) d.n c1) ∧ w'.cell? ⟨b1, la, none⟩ = some (.int .u16 (y : Int))) (by kernel_rfl) (KEEP.out _ (grown_of ((Below.refl _ _).drew))) (fun hHeld => ?_)
            have HU0 : Hid (Below wr.heap.size wr wr.drew) := (Below.refl _ _).drew
            generalize wr.drew = u0 at *
            refine take_at (i := 0) 44 (v := .pointer (some ⟨D, 0, none⟩)) rfl (by kernel_rfl) (by kernel_rfl) (by kernel_rfl) rfl (fun _ _ _ h => h) (by rfl) (fun w hSw => ?_) hHeld ?_
            · (try dsimp only at hSw); go_simp
            simp only [Act.put, List.setIfInBounds_toArray, List.set_cons_zero, List.set_cons_succ]
            refine take_at (i := 1) 45 (v := .pointer (some ⟨D, 0, none⟩)) rfl (by kernel_rfl) (by kernel_rfl) (by kernel_rfl) rfl (fun _ _ _ h => h) (by rfl) (fun w hSw => ?_) hHeld ?_
            · (try dsimp only at hSw); go_simp
            simp only [Act.put, List.setIfInBounds_toArray, List.set_cons_zero, List.set_cons_succ]
            refine take_at (i := 2) 46 (v := .pointer (some ⟨D, 1, none⟩)) rfl (by kernel_rfl) (by kernel_rfl) (by kernel_rfl) rfl (fun _ _ _ h => h) (by rfl) (fun w hSw => ?_) hHeld ?_
            · (try dsimp only at hSw); go_simp
            simp only [Act.put, List.setIfInBounds_toArray, List.set_cons_zero, List.set_cons_succ]
            refine take_at (i := 3) 47 (v := .slice (some ⟨b1, 0, none⟩) d.n c1) rfl (by kernel_rfl) (by kernel_rfl) (by kernel_rfl) rfl (fun _ _ _ h => h) (by rfl) (fun w hSw => ?_) hHeld ?_
            · (try dsimp only at hSw); go_simp
            simp only [Act.put, List.setIfInBounds_toArray, List.set_cons_zero, List.set_cons_succ]
            refine take_at (i := 4) 48 (v := .int .i64 la) rfl (by kernel_rfl) (by kernel_rfl) (by kernel_rfl) rfl (fun _ _ _ h => h) (by rfl) (fun w hSw => ?_) hHeld ?_
            · (try dsimp only at hSw); go_simp
            simp only [Act.put, List.setIfInBounds_toArray, List.set_cons_zero, List.set_cons_succ]
            refine take_at (i := 5) 49 (v := .pointer (some ⟨b1, la, none⟩)) rfl (by kernel_rfl) (by kernel_rfl) (by kernel_rfl) rfl (fun _ _ _ h => h) (by rfl) (fun w hSw => ?_) hHeld ?_
            · (try dsimp only at hSw); go_simp
            simp only [Act.put, List.setIfInBounds_toArray, List.set_cons_zero, List.set_cons_succ]
            refine take_at (i := 6) 50 (v := .int .u16 y) rfl (by kernel_rfl) (by kernel_rfl) (by kernel_rfl) rfl (fun _ _ _ h => h) (by rfl) (fun w hSw => ?_) hHeld ?_
            · (try dsimp only at hSw); go_simp
            simp only [Act.put, List.setIfInBounds_toArray, List.set_cons_zero, List.set_cons_succ]
            refine take_at (i := 7) 51 (v := .int .i64 i) rfl (by kernel_rfl) (by kernel_rfl) (by kernel_rfl) rfl (fun _ _ _ h => h) (by rfl) (fun w hSw => ?_) hHeld ?_
            · (try dsimp only at hSw); go_simp
            simp only [Act.put, List.setIfInBounds_toArray, List.set_cons_zero, List.set_cons_succ]
            refine wpAnyH_ready (rs := [8]) (by kernel_rfl) (by simp) ?_
            refine node_f52 52 51 _ rfl (by rfl) rfl rfl rfl ((ONI.out u0).mono ?_) AllReadyH.nil
            · rintro e u1 ⟨rfl, hb1⟩
              have HU1 := hid (below_step HU0.out hb1)
              have hHeld := KEEP.out _ (grown_of HU1.out)
              refine ⟨_, rfl, hHeld, ?_⟩
              clear hb1
              simp only [Act.put, List.setIfInBounds_toArray, List.set_cons_zero, List.set_cons_succ]
              refine take_at (i := 9) 53 (v := .int .u16 q) rfl (by kernel_rfl) (by kernel_rfl) (by kernel_rfl) rfl (fun _ _ _ h => h) (by rfl) (fun w hSw => ?_) hHeld ?_
              · (try dsimp only at hSw); go_simp; rw [HAND.out]; first | done | rfl
              simp only [Act.put, List.setIfInBounds_toArray, List.set_cons_zero, List.set_cons_succ]
              refine take_at (i := 10) 54 (v := .bool true) rfl (by kernel_rfl) (by kernel_rfl) (by kernel_rfl) rfl (fun _ _ _ h => h) (by rfl) (fun w hSw => ?_) hHeld ?_
              · (try dsimp only at hSw); go_simp; first | done | simp [hq0]
              simp only [Act.put, List.setIfInBounds_toArray, List.set_cons_zero, List.set_cons_succ]
              refine take_at (i := 11) 55 (v := .bool true) rfl (by kernel_rfl) (by kernel_rfl) (by kernel_rfl) rfl (fun _ _ _ h => h) (by rfl) (fun w hSw => ?_) hHeld ?_
              · (try dsimp only at hSw); go_simp
              simp only [Act.put, List.setIfInBounds_toArray, List.set_cons_zero, List.set_cons_succ]
              refine take_at (i := 12) 56 (v := .int .u16 seen) rfl (by kernel_rfl) (by kernel_rfl) (by kernel_rfl) rfl (fun _ _ _ h => h) (by rfl) (fun w hSw => ?_) hHeld ?_
              · (try dsimp only at hSw); go_simp
              simp only [Act.put, List.setIfInBounds_toArray, List.set_cons_zero, List.set_cons_succ]
              refine take_at (i := 13) 57 (v := .int .i64 i) rfl (by kernel_rfl) (by kernel_rfl) (by kernel_rfl) rfl (fun _ _ _ h => h) (by rfl) (fun w hSw => ?_) hHeld ?_
              · (try dsimp only at hSw); go_simp
              simp only [Act.put, List.setIfInBounds_toArray, List.set_cons_zero, List.set_cons_succ]
              refine wpAnyH_ready (rs := [14]) (by kernel_rfl) (by simp) ?_
              refine node_f52 58 57 _ rfl (by rfl) rfl rfl rfl ((ONI.out u1).mono ?_) AllReadyH.nil
              · rintro e u2 ⟨rfl, hb2⟩
                have HU2 := hid (below_step HU1.out hb2)
                have hHeld := KEEP.out _ (grown_of HU2.out)
                refine ⟨_, rfl, hHeld, ?_⟩
                clear hb2
                simp only [Act.put, List.setIfInBounds_toArray, List.set_cons_zero, List.set_cons_succ]
                refine take_at (i := 15) 59 (v := .int .u16 r) rfl (by kernel_rfl) (by kernel_rfl) (by kernel_rfl) rfl (fun _ _ _ h => h) (by rfl) (fun w hSw => ?_) hHeld ?_
                · (try dsimp only at hSw); go_simp; rw [HAND2.out]; first | done | rfl
                simp only [Act.put, List.setIfInBounds_toArray, List.set_cons_zero, List.set_cons_succ]
                refine take_at (i := 16) 60 (v := .bool false) rfl (by kernel_rfl) (by kernel_rfl) (by kernel_rfl) rfl (fun _ _ _ h => h) (by rfl) (fun w hSw => ?_) hHeld ?_
                · (try dsimp only at hSw); go_simp; first | done | simp [hr0]
                simp only [Act.put, List.setIfInBounds_toArray, List.set_cons_zero, List.set_cons_succ]
                refine take_at (i := 17) 61 (v := .bool false) rfl (by kernel_rfl) (by kernel_rfl) (by kernel_rfl) rfl (fun _ _ _ h => h) (by rfl) (fun w hSw => ?_) hHeld ?_
                · (try dsimp only at hSw); go_simp
                simp only [Act.put, List.setIfInBounds_toArray, List.set_cons_zero, List.set_cons_succ]
                refine take_at (i := 18) 62 (v := .bool false) rfl (by kernel_rfl) (by kernel_rfl) (by kernel_rfl) rfl (fun _ _ _ h => h) (by rfl) (fun w hSw => ?_) hHeld ?_
                · (try dsimp only at hSw); go_simp
                simp only [Act.put, List.setIfInBounds_toArray, List.set_cons_zero, List.set_cons_succ]
                refine skip_at (i := 19) 63 rfl (by kernel_rfl) (by kernel_rfl) (by kernel_rfl) rfl (fun _ _ _ h => h) (by rfl) hHeld ?_
                simp only [Act.put, List.setIfInBounds_toArray, List.set_cons_zero, List.set_cons_succ]
                refine skip_at (i := 20) 64 rfl (by kernel_rfl) (by kernel_rfl) (by kernel_rfl) rfl (fun _ _ _ h => h) (by rfl) hHeld ?_
                simp only [Act.put, List.setIfInBounds_toArray, List.set_cons_zero, List.set_cons_succ]
                refine skip_at (i := 21) 65 rfl (by kernel_rfl) (by kernel_rfl) (by kernel_rfl) rfl (fun _ _ _ h => h) (by rfl) hHeld ?_
                simp only [Act.put, List.setIfInBounds_toArray, List.set_cons_zero, List.set_cons_succ]
                refine skip_at (i := 22) 66 rfl (by kernel_rfl) (by kernel_rfl) (by kernel_rfl) rfl (fun _ _ _ h => h) (by rfl) hHeld ?_
                simp only [Act.put, List.setIfInBounds_toArray, List.set_cons_zero, List.set_cons_succ]
                refine skip_at (i := 23) 67 rfl (by kernel_rfl) (by kernel_rfl) (by kernel_rfl) rfl (fun _ _ _ h => h) (by rfl) hHeld ?_
                simp only [Act.put, List.setIfInBounds_toArray, List.set_cons_zero, List.set_cons_succ]
                refine skip_at (i := 24) 68 rfl (by kernel_rfl) (by kernel_rfl) (by kernel_rfl) rfl (fun _ _ _ h => h) (by rfl) hHeld ?_
                simp only [Act.put, List.setIfInBounds_toArray, List.set_cons_zero, List.set_cons_succ]
                refine skip_at (i := 25) 69 rfl (by kernel_rfl) (by kernel_rfl) (by kernel_rfl) rfl (fun _ _ _ h => h) (by rfl) hHeld ?_
                simp only [Act.put, List.setIfInBounds_toArray, List.set_cons_zero, List.set_cons_succ]
                refine skip_at (i := 26) 70 rfl (by kernel_rfl) (by kernel_rfl) (by kernel_rfl) rfl (fun _ _ _ h => h) (by rfl) hHeld ?_
                simp only [Act.put, List.setIfInBounds_toArray, List.set_cons_zero, List.set_cons_succ]
                refine skip_at (i := 27) 71 rfl (by kernel_rfl) (by kernel_rfl) (by kernel_rfl) rfl (fun _ _ _ h => h) (by rfl) hHeld ?_
                simp only [Act.put, List.setIfInBounds_toArray, List.set_cons_zero, List.set_cons_succ]
                refine skip_at (i := 28) 72 rfl (by kernel_rfl) (by kernel_rfl) (by kernel_rfl) rfl (fun _ _ _ h => h) (by rfl) hHeld ?_
                simp only [Act.put, List.setIfInBounds_toArray, List.set_cons_zero, List.set_cons_succ]
                refine skip_at (i := 29) 73 rfl (by kernel_rfl) (by kernel_rfl) (by kernel_rfl) rfl (fun _ _ _ h => h) (by rfl) hHeld ?_
                simp only [Act.put, List.setIfInBounds_toArray, List.set_cons_zero, List.set_cons_succ]
                refine skip_at (i := 30) 74 rfl (by kernel_rfl) (by kernel_rfl) (by kernel_rfl) rfl (fun _ _ _ h => h) (by rfl) hHeld ?_
                simp only [Act.put, List.setIfInBounds_toArray, List.set_cons_zero, List.set_cons_succ]
                refine skip_at (i := 31) 75 rfl (by kernel_rfl) (by kernel_rfl) (by kernel_rfl) rfl (fun _ _ _ h => h) (by rfl) hHeld ?_
                simp only [Act.put, List.setIfInBounds_toArray, List.set_cons_zero, List.set_cons_succ]
                refine take_at (i := 32) 76 (v := .bool false) rfl (by kernel_rfl) (by kernel_rfl) (by kernel_rfl) rfl (fun _ _ _ h => h) (by rfl) (fun w hSw => ?_) hHeld ?_
                · (try dsimp only at hSw); go_simp
                simp only [Act.put, List.setIfInBounds_toArray, List.set_cons_zero, List.set_cons_succ]
                refine wpAnyH_done (by kernel_rfl) ?_ _
                clear hHeld
                go_wp2_with fail
                go_roundw
                case rel => exact ⟨i + 1, by go_num, by omega, by omega, HEr.out.below HU2.out, grown_trans HGr.out (grown_of HU2.out), NX.out⟩
                case measure => simp [intOf]; omega
          | false =>
            have hr0 : r = 0 := ha2.2 (by rw [hsbi, hct])
            subst hr0
            rw [hct] at HSTEP HFND
            have REC := hid (RECA.out hok hct)
            change Hid (d.walk h k (l ++ [i]) = none → _) at HSTEP
            change Hid (∀ x, d.walk h k (l ++ [i]) = some x → _) at HFND
            generalize d.walk h k (l ++ [i]) = res at *
            obtain ⟨ok, hokr⟩ : ∃ ok, ok = res.isSome := ⟨_, rfl⟩
            have HRES : Hid (res.isSome = ok) := hokr.symm
            have FND := hid HFND.out
            have NXT : Hid (res.isSome = false → ∀ j, j < i + 1 → (if decide (h < j) && d.att la j && !l.contains j then d.walk h k (l ++ [j]) else none) = none) := fun e => HSTEP.out (by cases res with | none => rfl | some x => cases e)
            have HSM : Hid (res.isSome = true → ∃ x, res = some x) := fun e => by cases res with | none => cases e | some x => exact ⟨x, rfl⟩
            have REC2 : Hid (∀ u nv, Below wr.heap.size wr u → OwnV u wr.heap.size 3 nv ((h :: l).map iv ++ [.int .i64 (i : Int)]) → Calls Try.prog 54 #[nv, .int .u16 (sn : Int), .int .i64 (k : Int), .pointer (some ⟨OUT, 0, none⟩), .pointer (some ⟨DB, 0, none⟩), .pointer (some ⟨NB, 0, none⟩), .pointer (some ⟨WK, 0, none⟩)] u fun e w' => OddEnv w' OUT DB NB WK D d ∧ u.grownBy w' (some OUT) ∧ e = .returned (.bool ok) ∧ ∀ x, res = some x → ∃ o, w'.heap[OUT]? = some (.cells #[o] 24) ∧ IsV w' o (x.map iv)) := fun u nv hb ho => by rw [hokr]; exact REC.out u nv hb ho
            clear ha hatt ha2 hsbi hok HSTEP HFND RECA hct hokr REC
            refine wp_region_held_drew (S := fun w' => w'.cell? ⟨DB, 0, none⟩ = some (.pointer (some ⟨D, 0, none⟩)) ∧ w'.cell? ⟨WK, 0, none⟩ = some (.func (.func 54) #[] #[.pointer (some ⟨OUT, 0, none⟩), .pointer (some ⟨DB, 0, none⟩), .pointer (some ⟨NB, 0, none⟩), .pointer (some ⟨WK, 0, none⟩)]) ∧ w'.cell? ⟨D, 1, none⟩ = some (.slice (some ⟨b1, 0, none⟩) d.n c1) ∧ w'.cell? ⟨b1, la, none⟩ = some (.int .u16 (y : Int))) (by kernel_rfl) (KEEP.out _ (grown_of ((Below.refl _ _).drew))) (fun hHeld => ?_)
            have HU0 : Hid (Below wr.heap.size wr wr.drew) := (Below.refl _ _).drew
            generalize wr.drew = u0 at *
            refine take_at (i := 0) 44 (v := .pointer (some ⟨D, 0, none⟩)) rfl (by kernel_rfl) (by kernel_rfl) (by kernel_rfl) rfl (fun _ _ _ h => h) (by rfl) (fun w hSw => ?_) hHeld ?_
            · (try dsimp only at hSw); go_simp
            simp only [Act.put, List.setIfInBounds_toArray, List.set_cons_zero, List.set_cons_succ]
            refine take_at (i := 1) 45 (v := .pointer (some ⟨D, 0, none⟩)) rfl (by kernel_rfl) (by kernel_rfl) (by kernel_rfl) rfl (fun _ _ _ h => h) (by rfl) (fun w hSw => ?_) hHeld ?_
            · (try dsimp only at hSw); go_simp
            simp only [Act.put, List.setIfInBounds_toArray, List.set_cons_zero, List.set_cons_succ]
            refine take_at (i := 2) 46 (v := .pointer (some ⟨D, 1, none⟩)) rfl (by kernel_rfl) (by kernel_rfl) (by kernel_rfl) rfl (fun _ _ _ h => h) (by rfl) (fun w hSw => ?_) hHeld ?_
            · (try dsimp only at hSw); go_simp
            simp only [Act.put, List.setIfInBounds_toArray, List.set_cons_zero, List.set_cons_succ]
            refine take_at (i := 3) 47 (v := .slice (some ⟨b1, 0, none⟩) d.n c1) rfl (by kernel_rfl) (by kernel_rfl) (by kernel_rfl) rfl (fun _ _ _ h => h) (by rfl) (fun w hSw => ?_) hHeld ?_
            · (try dsimp only at hSw); go_simp
            simp only [Act.put, List.setIfInBounds_toArray, List.set_cons_zero, List.set_cons_succ]
            refine take_at (i := 4) 48 (v := .int .i64 la) rfl (by kernel_rfl) (by kernel_rfl) (by kernel_rfl) rfl (fun _ _ _ h => h) (by rfl) (fun w hSw => ?_) hHeld ?_
            · (try dsimp only at hSw); go_simp
            simp only [Act.put, List.setIfInBounds_toArray, List.set_cons_zero, List.set_cons_succ]
            refine take_at (i := 5) 49 (v := .pointer (some ⟨b1, la, none⟩)) rfl (by kernel_rfl) (by kernel_rfl) (by kernel_rfl) rfl (fun _ _ _ h => h) (by rfl) (fun w hSw => ?_) hHeld ?_
            · (try dsimp only at hSw); go_simp
            simp only [Act.put, List.setIfInBounds_toArray, List.set_cons_zero, List.set_cons_succ]
            refine take_at (i := 6) 50 (v := .int .u16 y) rfl (by kernel_rfl) (by kernel_rfl) (by kernel_rfl) rfl (fun _ _ _ h => h) (by rfl) (fun w hSw => ?_) hHeld ?_
            · (try dsimp only at hSw); go_simp
            simp only [Act.put, List.setIfInBounds_toArray, List.set_cons_zero, List.set_cons_succ]
            refine take_at (i := 7) 51 (v := .int .i64 i) rfl (by kernel_rfl) (by kernel_rfl) (by kernel_rfl) rfl (fun _ _ _ h => h) (by rfl) (fun w hSw => ?_) hHeld ?_
            · (try dsimp only at hSw); go_simp
            simp only [Act.put, List.setIfInBounds_toArray, List.set_cons_zero, List.set_cons_succ]
            refine wpAnyH_ready (rs := [8]) (by kernel_rfl) (by simp) ?_
            refine node_f52 52 51 _ rfl (by rfl) rfl rfl rfl ((ONI.out u0).mono ?_) AllReadyH.nil
            · rintro e u1 ⟨rfl, hb1⟩
              have HU1 := hid (below_step HU0.out hb1)
              have hHeld := KEEP.out _ (grown_of HU1.out)
              refine ⟨_, rfl, hHeld, ?_⟩
              clear hb1
              simp only [Act.put, List.setIfInBounds_toArray, List.set_cons_zero, List.set_cons_succ]
              refine take_at (i := 9) 53 (v := .int .u16 q) rfl (by kernel_rfl) (by kernel_rfl) (by kernel_rfl) rfl (fun _ _ _ h => h) (by rfl) (fun w hSw => ?_) hHeld ?_
              · (try dsimp only at hSw); go_simp; rw [HAND.out]; first | done | rfl
              simp only [Act.put, List.setIfInBounds_toArray, List.set_cons_zero, List.set_cons_succ]
              refine take_at (i := 10) 54 (v := .bool true) rfl (by kernel_rfl) (by kernel_rfl) (by kernel_rfl) rfl (fun _ _ _ h => h) (by rfl) (fun w hSw => ?_) hHeld ?_
              · (try dsimp only at hSw); go_simp; first | done | simp [hq0]
              simp only [Act.put, List.setIfInBounds_toArray, List.set_cons_zero, List.set_cons_succ]
              refine take_at (i := 11) 55 (v := .bool true) rfl (by kernel_rfl) (by kernel_rfl) (by kernel_rfl) rfl (fun _ _ _ h => h) (by rfl) (fun w hSw => ?_) hHeld ?_
              · (try dsimp only at hSw); go_simp
              simp only [Act.put, List.setIfInBounds_toArray, List.set_cons_zero, List.set_cons_succ]
              refine take_at (i := 12) 56 (v := .int .u16 seen) rfl (by kernel_rfl) (by kernel_rfl) (by kernel_rfl) rfl (fun _ _ _ h => h) (by rfl) (fun w hSw => ?_) hHeld ?_
              · (try dsimp only at hSw); go_simp
              simp only [Act.put, List.setIfInBounds_toArray, List.set_cons_zero, List.set_cons_succ]
              refine take_at (i := 13) 57 (v := .int .i64 i) rfl (by kernel_rfl) (by kernel_rfl) (by kernel_rfl) rfl (fun _ _ _ h => h) (by rfl) (fun w hSw => ?_) hHeld ?_
              · (try dsimp only at hSw); go_simp
              simp only [Act.put, List.setIfInBounds_toArray, List.set_cons_zero, List.set_cons_succ]
              refine wpAnyH_ready (rs := [14]) (by kernel_rfl) (by simp) ?_
              refine node_f52 58 57 _ rfl (by rfl) rfl rfl rfl ((ONI.out u1).mono ?_) AllReadyH.nil
              · rintro e u2 ⟨rfl, hb2⟩
                have HU2 := hid (below_step HU1.out hb2)
                have hHeld := KEEP.out _ (grown_of HU2.out)
                refine ⟨_, rfl, hHeld, ?_⟩
                clear hb2
                simp only [Act.put, List.setIfInBounds_toArray, List.set_cons_zero, List.set_cons_succ]
                refine take_at (i := 15) 59 (v := .int .u16 0) rfl (by kernel_rfl) (by kernel_rfl) (by kernel_rfl) rfl (fun _ _ _ h => h) (by rfl) (fun w hSw => ?_) hHeld ?_
                · (try dsimp only at hSw); go_simp; rw [HAND2.out]; first | done | rfl
                simp only [Act.put, List.setIfInBounds_toArray, List.set_cons_zero, List.set_cons_succ]
                refine take_at (i := 16) 60 (v := .bool true) rfl (by kernel_rfl) (by kernel_rfl) (by kernel_rfl) rfl (fun _ _ _ h => h) (by rfl) (fun w hSw => ?_) hHeld ?_
                · (try dsimp only at hSw); go_simp; first | done | simp [hr0]
                simp only [Act.put, List.setIfInBounds_toArray, List.set_cons_zero, List.set_cons_succ]
                refine take_at (i := 17) 61 (v := .bool true) rfl (by kernel_rfl) (by kernel_rfl) (by kernel_rfl) rfl (fun _ _ _ h => h) (by rfl) (fun w hSw => ?_) hHeld ?_
                · (try dsimp only at hSw); go_simp
                simp only [Act.put, List.setIfInBounds_toArray, List.set_cons_zero, List.set_cons_succ]
                refine take_at (i := 18) 62 (v := .bool true) rfl (by kernel_rfl) (by kernel_rfl) (by kernel_rfl) rfl (fun _ _ _ h => h) (by rfl) (fun w hSw => ?_) hHeld ?_
                · (try dsimp only at hSw); go_simp
                simp only [Act.put, List.setIfInBounds_toArray, List.set_cons_zero, List.set_cons_succ]
                refine take_at (i := 19) 63 (v := .func (.func 54) #[] #[.pointer (some ⟨OUT, 0, none⟩), .pointer (some ⟨DB, 0, none⟩), .pointer (some ⟨NB, 0, none⟩), .pointer (some ⟨WK, 0, none⟩)]) rfl (by kernel_rfl) (by kernel_rfl) (by kernel_rfl) rfl (fun _ _ _ h => h) (by rfl) (fun w hSw => ?_) hHeld ?_
                · (try dsimp only at hSw); go_simp
                simp only [Act.put, List.setIfInBounds_toArray, List.set_cons_zero, List.set_cons_succ]
                refine take_at (i := 20) 64 (v := .slice (some ⟨gr, 0, none⟩) (l.length + 1) cr) rfl (by kernel_rfl) (by kernel_rfl) (by kernel_rfl) rfl (fun _ _ _ h => h) (by rfl) (fun w hSw => ?_) hHeld ?_
                · (try dsimp only at hSw); go_simp
                simp only [Act.put, List.setIfInBounds_toArray, List.set_cons_zero, List.set_cons_succ]
                refine take_at (i := 22) 66 (v := .int .i64 i) rfl (by kernel_rfl) (by kernel_rfl) (by kernel_rfl) rfl (fun _ _ _ h => h) (by rfl) (fun w hSw => ?_) hHeld ?_
                · (try dsimp only at hSw); go_simp
                simp only [Act.put, List.setIfInBounds_toArray, List.set_cons_zero, List.set_cons_succ]
                refine take_at (i := 25) 69 (v := .int .u16 seen) rfl (by kernel_rfl) (by kernel_rfl) (by kernel_rfl) rfl (fun _ _ _ h => h) (by rfl) (fun w hSw => ?_) hHeld ?_
                · (try dsimp only at hSw); go_simp
                simp only [Act.put, List.setIfInBounds_toArray, List.set_cons_zero, List.set_cons_succ]
                refine take_at (i := 26) 70 (v := .int .i64 i) rfl (by kernel_rfl) (by kernel_rfl) (by kernel_rfl) rfl (fun _ _ _ h => h) (by rfl) (fun w hSw => ?_) hHeld ?_
                · (try dsimp only at hSw); go_simp
                simp only [Act.put, List.setIfInBounds_toArray, List.set_cons_zero, List.set_cons_succ]
                refine take_at (i := 29) 73 (v := .int .i64 ((k : Int) + 1)) rfl (by kernel_rfl) (by kernel_rfl) (by kernel_rfl) rfl (fun _ _ _ h => h) (by rfl) (fun w hSw => ?_) hHeld ?_
                · (try dsimp only at hSw); go_simp
                simp only [Act.put, List.setIfInBounds_toArray, List.set_cons_zero, List.set_cons_succ]
                refine take_at (i := 30) 74 (v := .int .i64 k) rfl (by kernel_rfl) (by kernel_rfl) (by kernel_rfl) rfl (fun _ _ _ h => h) (by rfl) (fun w hSw => ?_) hHeld ?_
                · (try dsimp only at hSw); go_simp; first | done | (rw [IntKind.wrap_i64]; omega)
                simp only [Act.put, List.setIfInBounds_toArray, List.set_cons_zero, List.set_cons_succ]
                refine wpAnyH_ready (rs := [21, 23]) (by kernel_rfl) (by simp) ?_
                refine node_f55 65 64 _ rfl (by rfl) rfl rfl rfl ((CLO.out u2 HU2.out).mono ?_) ?_
                · rintro e u3 ⟨cv, rfl, ho3, hb3⟩
                  obtain ⟨ca, cn, cc, rfl⟩ := ownV_sh ho3
                  have HU3 := hid (below_step HU2.out hb3)
                  have HC3 := hid (ownV_mono ho3 (HU2.out).size)
                  have hHeld := KEEP.out _ (grown_of HU3.out)
                  refine ⟨_, rfl, hHeld, ?_⟩
                  clear hb3 ho3
                  simp only [Act.put, List.setIfInBounds_toArray, List.set_cons_zero, List.set_cons_succ]
                  refine wpAnyH_ready (rs := [23]) (by kernel_rfl) (by simp) ?_
                  refine node_build24 67 66 _ rfl (by rfl) rfl rfl rfl (KEEP.out _ (grown_of (Below.alloc HU3.out (Below.size HU3.out) _))) (fun hHeld => ?_) AllReadyH.nil
                  · have HU4 := hid (Below.alloc HU3.out (Below.size HU3.out) (.cells #[.int .i64 (i : Int)] 3))
                    have HG4 := hid (heap_alloc_new u3 (.cells #[.int .i64 (i : Int)] 3))
                    have HC4 := hid (ownV_below HC3.out ((Below.refl u3.heap.size u3).alloc (Nat.le_refl _) (.cells #[.int .i64 (i : Int)] 3)))
                    obtain ⟨BX, hBX⟩ : ∃ BX, BX = u3.heap.size := ⟨_, rfl⟩
                    rw [← hBX] at HG4 ⊢
                    obtain ⟨u4, hu4⟩ : ∃ v, v = u3.alloc (.cells #[.int .i64 (i : Int)] 3) := ⟨_, rfl⟩
                    rw [← hu4] at HU4 HG4 HC4 ⊢
                    replace hHeld := KEEP.out _ (grown_of HU4.out)
                    clear hBX hu4
                    simp only [Act.put, List.setIfInBounds_toArray, List.set_cons_zero, List.set_cons_succ]
                    refine wpAnyH_ready (rs := [24]) (by kernel_rfl) (by simp) ?_
                    refine node_app24 68 wr.heap.size 65 67 (.slice ca cn cc) _ BX i rfl (by rfl) rfl rfl rfl rfl HG4.out HC4.out (Below.size HU4.out) HLN.out ?_ AllReadyH.nil
                    · intro v9 u5 ho5 hg5
                      obtain ⟨na, nn, nc, rfl⟩ := ownV_sh ho5
                      have HU5 := hid (Below.grown HU4.out hg5 (Below.size HU4.out) (fun k hk => (ownV_lt HC4.out k hk).1))
                      have HC5 := hid ho5
                      refine ⟨KEEP.out _ (grown_of HU5.out), ?_⟩
                      have hHeld := KEEP.out _ (grown_of HU5.out)
                      clear ho5 hg5
                      simp only [Act.put, List.setIfInBounds_toArray, List.set_cons_zero, List.set_cons_succ]
                      refine wpAnyH_ready (rs := [27]) (by kernel_rfl) (by simp) ?_
                      refine node_f52 71 70 _ rfl (by rfl) rfl rfl rfl ((ONI.out u5).mono ?_) AllReadyH.nil
                      · rintro e u6 ⟨rfl, hb6⟩
                        have HU6 := hid (below_step HU5.out hb6)
                        have hHeld := KEEP.out _ (grown_of HU6.out)
                        refine ⟨_, rfl, hHeld, ?_⟩
                        have HC6 := hid (ownV_below HC5.out hb6)
                        clear hb6
                        simp only [Act.put, List.setIfInBounds_toArray, List.set_cons_zero, List.set_cons_succ]
                        refine take_at (i := 28) 72 (v := .int .u16 sn) rfl (by kernel_rfl) (by kernel_rfl) (by kernel_rfl) rfl (fun _ _ _ h => h) (by rfl) (fun w hSw => ?_) hHeld ?_
                        · (try dsimp only at hSw); go_simp; rw [HOR.out]
                        simp only [Act.put, List.setIfInBounds_toArray, List.set_cons_zero, List.set_cons_succ]
                        refine wpAnyH_ready (rs := [31]) (by kernel_rfl) (by simp) ?_
                        refine node_dyn3 75 63 68 72 74 54 _ _ _ _ eg54 rfl (by rfl) rfl rfl rfl rfl rfl rfl ((REC2.out u6 _ HU6.out HC6.out).mono ?_) AllReadyH.nil
                        · rintro e u7 ⟨he7, hg7, rfl, hx7⟩
                          have HE7 := hid he7
                          have HGR := hid (grown_trans (grown_of HU6.out) hg7)
                          have HXX := hid hx7
                          have hHeld := KEEP.out _ HGR.out
                          refine ⟨_, rfl, hHeld, ?_⟩
                          clear he7 hg7 hx7
                          simp only [Act.put, List.setIfInBounds_toArray, List.set_cons_zero, List.set_cons_succ]
                          refine take_at (i := 32) 76 (v := .bool ok) rfl (by kernel_rfl) (by kernel_rfl) (by kernel_rfl) rfl (fun _ _ _ h => h) (by rfl) (fun w hSw => ?_) hHeld ?_
                          · (try dsimp only at hSw); go_simp
                          simp only [Act.put, List.setIfInBounds_toArray, List.set_cons_zero, List.set_cons_succ]
                          refine wpAnyH_done (by kernel_rfl) ?_ _
                          clear hHeld
                          cases ok
                          · have NX := hid (NXT.out HRES.out)
                            go_wp2_with fail
                            go_roundw
                            case rel => exact ⟨i + 1, by go_num, by omega, by omega, HE7.out, grown_trans HGr.out HGR.out, NX.out⟩
                            case measure => simp [intOf]; omega
                          · obtain ⟨x, hx⟩ := HSM.out HRES.out
                            have HFI := hid (FND.out x hx)
                            have HO := hid (HXX.out x hx)
                            clear hx
                            go_wp2_with fail
                            go_ret
                            exact ⟨HE7.out, grown_trans HGr.out HGR.out, by rw [HFI.out]; rfl, fun z hz => by rw [HFI.out] at hz; injection hz with hz; rw [← hz]; exact HO.out⟩
                refine node_build24 67 66 _ rfl (by rfl) rfl rfl rfl (KEEP.out _ (grown_of (Below.alloc HU2.out (Below.size HU2.out) _))) (fun hHeld => ?_) AllReadyH.nil
                · have HU3 := hid (Below.alloc HU2.out (Below.size HU2.out) (.cells #[.int .i64 (i : Int)] 3))
                  have HG3 := hid (heap_alloc_new u2 (.cells #[.int .i64 (i : Int)] 3))
                  obtain ⟨BX, hBX⟩ : ∃ BX, BX = u2.heap.size := ⟨_, rfl⟩
                  rw [← hBX] at HG3 ⊢
                  obtain ⟨u3, hu3⟩ : ∃ v, v = u2.alloc (.cells #[.int .i64 (i : Int)] 3) := ⟨_, rfl⟩
                  rw [← hu3] at HU3 HG3 ⊢
                  replace hHeld := KEEP.out _ (grown_of HU3.out)
                  clear hBX hu3
                  simp only [Act.put, List.setIfInBounds_toArray, List.set_cons_zero, List.set_cons_succ]
                  refine wpAnyH_ready (rs := [21]) (by kernel_rfl) (by simp) ?_
                  refine node_f55 65 64 _ rfl (by rfl) rfl rfl rfl ((CLO.out u3 HU3.out).mono ?_) AllReadyH.nil
                  · rintro e u4 ⟨cv, rfl, ho4, hb4⟩
                    obtain ⟨ca, cn, cc, rfl⟩ := ownV_sh ho4
                    have HU4 := hid (below_step HU3.out hb4)
                    have HC4 := hid (ownV_mono ho4 (HU3.out).size)
                    have hHeld := KEEP.out _ (grown_of HU4.out)
                    refine ⟨_, rfl, hHeld, ?_⟩
                    have HG4 := hid ((hb4.block _ (heap_lt HG3.out)).trans HG3.out)
                    clear hb4 ho4
                    simp only [Act.put, List.setIfInBounds_toArray, List.set_cons_zero, List.set_cons_succ]
                    refine wpAnyH_ready (rs := [24]) (by kernel_rfl) (by simp) ?_
                    refine node_app24 68 wr.heap.size 65 67 (.slice ca cn cc) _ BX i rfl (by rfl) rfl rfl rfl rfl HG4.out HC4.out (Below.size HU4.out) HLN.out ?_ AllReadyH.nil
                    · intro v9 u5 ho5 hg5
                      obtain ⟨na, nn, nc, rfl⟩ := ownV_sh ho5
                      have HU5 := hid (Below.grown HU4.out hg5 (Below.size HU4.out) (fun k hk => (ownV_lt HC4.out k hk).1))
                      have HC5 := hid ho5
                      refine ⟨KEEP.out _ (grown_of HU5.out), ?_⟩
                      have hHeld := KEEP.out _ (grown_of HU5.out)
                      clear ho5 hg5
                      simp only [Act.put, List.setIfInBounds_toArray, List.set_cons_zero, List.set_cons_succ]
                      refine wpAnyH_ready (rs := [27]) (by kernel_rfl) (by simp) ?_
                      refine node_f52 71 70 _ rfl (by rfl) rfl rfl rfl ((ONI.out u5).mono ?_) AllReadyH.nil
                      · rintro e u6 ⟨rfl, hb6⟩
                        have HU6 := hid (below_step HU5.out hb6)
                        have hHeld := KEEP.out _ (grown_of HU6.out)
                        refine ⟨_, rfl, hHeld, ?_⟩
                        have HC6 := hid (ownV_below HC5.out hb6)
                        clear hb6
                        simp only [Act.put, List.setIfInBounds_toArray, List.set_cons_zero, List.set_cons_succ]
                        refine take_at (i := 28) 72 (v := .int .u16 sn) rfl (by kernel_rfl) (by kernel_rfl) (by kernel_rfl) rfl (fun _ _ _ h => h) (by rfl) (fun w hSw => ?_) hHeld ?_
                        · (try dsimp only at hSw); go_simp; rw [HOR.out]
                        simp only [Act.put, List.setIfInBounds_toArray, List.set_cons_zero, List.set_cons_succ]
                        refine wpAnyH_ready (rs := [31]) (by kernel_rfl) (by simp) ?_
                        refine node_dyn3 75 63 68 72 74 54 _ _ _ _ eg54 rfl (by rfl) rfl rfl rfl rfl rfl rfl ((REC2.out u6 _ HU6.out HC6.out).mono ?_) AllReadyH.nil
                        · rintro e u7 ⟨he7, hg7, rfl, hx7⟩
                          have HE7 := hid he7
                          have HGR := hid (grown_trans (grown_of HU6.out) hg7)
                          have HXX := hid hx7
                          have hHeld := KEEP.out _ HGR.out
                          refine ⟨_, rfl, hHeld, ?_⟩
                          clear he7 hg7 hx7
                          simp only [Act.put, List.setIfInBounds_toArray, List.set_cons_zero, List.set_cons_succ]
                          refine take_at (i := 32) 76 (v := .bool ok) rfl (by kernel_rfl) (by kernel_rfl) (by kernel_rfl) rfl (fun _ _ _ h => h) (by rfl) (fun w hSw => ?_) hHeld ?_
                          · (try dsimp only at hSw); go_simp
                          simp only [Act.put, List.setIfInBounds_toArray, List.set_cons_zero, List.set_cons_succ]
                          refine wpAnyH_done (by kernel_rfl) ?_ _
                          clear hHeld
                          cases ok
                          · have NX := hid (NXT.out HRES.out)
                            go_wp2_with fail
                            go_roundw
                            case rel => exact ⟨i + 1, by go_num, by omega, by omega, HE7.out, grown_trans HGr.out HGR.out, NX.out⟩
                            case measure => simp [intOf]; omega
                          · obtain ⟨x, hx⟩ := HSM.out HRES.out
                            have HFI := hid (FND.out x hx)
                            have HO := hid (HXX.out x hx)
                            clear hx
                            go_wp2_with fail
                            go_ret
                            exact ⟨HE7.out, grown_trans HGr.out HGR.out, by rw [HFI.out]; rfl, fun z hz => by rw [HFI.out] at hz; injection hz with hz; rw [← hz]; exact HO.out⟩
      · obtain rfl : i = d.n := by omega
        have HFI : Hid (WKV = none) := by
          show _ = _
          rw [HWS.out]
          exact firstS_none.2 HNF.out
        go_wp2_with fail
        go_ret
        exact ⟨HEr.out, HGr.out, by rw [HFI.out]; rfl, fun z hz => by rw [HFI.out] at hz; cases hz⟩
end Go.Proofs.Ytaedbkdimpdngaa
