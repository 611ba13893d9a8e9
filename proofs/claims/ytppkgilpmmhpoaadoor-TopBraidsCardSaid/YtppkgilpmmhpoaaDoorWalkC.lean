/-
  The step of a face that follows a step (34).
-/
import Derived.Test.YtppkgilpmmhpoaaDoorWalkB
import Derived.Test.YtppkgilpmmhpoaaDoorPlainA
namespace Go.Proofs.YtppkgilpmmhpoaaDoor
open Go.RowKit
theorem pl_lt {n c : Nat} (hn : 1 ≤ n) (hc : c < 4 * n) : pl n c < 2 * n := by
  unfold pl
  split
  · exact Nat.mod_lt _ (by omega)
  · omega
set_option maxRecDepth 100000 in
set_option maxHeartbeats 4000000 in
theorem next_any (D n wb wc pb : Nat) (gs cs : Nat → Nat) (sg sgb sc c : Nat) (w : World) (h : Cur w D n wb wc pb gs cs) (hs : ∀ x, x < n → w.cell? ⟨sgb, x, none⟩ = some (.int .i64 (if sg.testBit x then 1 else -1))) (hc : c < 4 * n) :
    Calls Tryd.prog 34 #[.pointer (some ⟨D, 0, none⟩), .int .i64 ((c : Int) - ((2 * n : Nat) : Int)), .slice (some ⟨sgb, 0, none⟩) n sc] w fun e w' => e = .returned (.int .i64 (((nxt n sg c : Nat) : Int) - ((2 * n : Nat) : Int))) ∧ Below w.heap.size w w' := by
  have HC := hid h
  have HS := hid hs
  obtain ⟨hn1, hn10⟩ := h.nn
  have hpl := pl_lt hn1 hc
  obtain ⟨p, hpe⟩ : ∃ p, p = pl n c := ⟨_, rfl⟩
  rw [← hpe] at hpl
  have HPL : Hid (pl n c = p) := hpe.symm
  obtain ⟨x, hxe⟩ : ∃ x, x = p % n := ⟨_, rfl⟩
  have HXE : Hid (p % n = x) := hxe.symm
  have hxn : x < n := by rw [hxe]; exact Nat.mod_lt _ (by omega)
  have hxp : p = x ∨ p = n + x := by
    rw [hxe]
    by_cases h2 : p < n
    · exact .inl (Nat.mod_eq_of_lt h2).symm
    · refine .inr ?_
      rw [Nat.mod_eq_sub_mod (by omega), Nat.mod_eq_of_lt (by omega)]
      omega
  obtain ⟨y, hye⟩ : ∃ y, y = n + x := ⟨_, rfl⟩
  have HY := hid hye
  have hyb : y < 20 := by omega
  obtain ⟨m, hm⟩ : ∃ m, m = 2 * n := ⟨_, rfl⟩
  have HM := hid hm
  obtain ⟨z, hze⟩ : ∃ z : Int, z = (c : Int) - ((2 * n : Nat) : Int) := ⟨_, rfl⟩
  have K0 : Hid (∀ w', Below w.heap.size w w' → w'.cell? ⟨D, 0, none⟩ = some (.int .i64 (n : Int)) ∧ w'.cell? ⟨D, 1, none⟩ = some (.slice (some ⟨wb, 0, none⟩) m wc) ∧ w'.cell? ⟨D, 2, none⟩ = some (.slice (some ⟨pb, 0, none⟩) n n) ∧ w'.cell? ⟨wb, p, none⟩ = some (.int .i64 (x : Int)) ∧ w'.cell? ⟨pb, x, none⟩ = some (.slice (some ⟨gs x, 0, none⟩) 2 (cs x)) ∧ w'.cell? ⟨gs x, 0, none⟩ = some (.int .i64 (x : Int)) ∧ w'.cell? ⟨gs x, 1, none⟩ = some (.int .i64 (y : Int))) := fun w' hb => by
    have h1 := HC.out.below hb
    obtain ⟨k0, k1, k2⟩ := cells3_of h1.box
    refine ⟨k0, by rw [hm]; exact k1, k2, ?_, h1.pl x hxn, h1.p0 x hxn, by rw [HY.out]; exact h1.p1 x hxn⟩
    have h2 := h1.wd p hpl
    rw [HXE.out] at h2
    exact h2
  rw [← hze, ← hm]
  generalize gs x = gx at *
  generalize cs x = cx at *
  have K1 := K0
  clear K0 h hs hxe
  obtain ⟨dc0, dc1, dc2, cw, cpl, cg0, cg1⟩ := K1.out w (Below.refl _ _)
  have hmp : 0 < m := by omega
  have hpm : p < m := by omega
  have hm20 : m ≤ 20 := by omega
  have hzl : -20 ≤ z := by omega
  have hzu : z < 20 := by omega
  by_cases hcm : 2 * n ≤ c
  · have hc0 := hcm
    have HCM : Hid (decide (2 * n ≤ c) = true) := by show _ = _; exact decide_eq_true hcm
    have hz0 : 0 ≤ z := by omega
    have htp : (z + 1).tmod (m : Int) = (p : Int) := by
      rw [Int.tmod_eq_emod_of_nonneg (by omega), hpe, hze]
      unfold pl
      rw [if_pos hcm, hm]
      have e : (((c : Int) - ((2 * n : Nat) : Int)) + 1) = ((c - 2 * n + 1 : Nat) : Int) := by omega
      rw [e]; exact (Int.natCast_emod _ _).symm
    clear hcm hze hpe hm
    by_cases h2 : n ≤ p
    · have HSEC : Hid (n ≤ p) := h2
      have hpx : y = p := by omega
      subst hpx
      clear hye
      cases hsb : sg.testBit x with
      | true =>
        have hsgn : w.cell? ⟨sgb, x, none⟩ = some (.int .i64 (1)) := by have h := HS.out x hxn; rw [hsb] at h; exact h
        have KSG : Hid (∀ w', Below w.heap.size w w' → w'.cell? ⟨sgb, x, none⟩ = some (.int .i64 (1))) := fun w' hb => (hb.cell (World.block_lt_of_cell? w _ hsgn)).trans hsgn
        have csg := KSG.out w (Below.refl _ _)
        have AR : Hid (Calls Tryd.prog 46 #[.int .i64 (1)] w fun e w' => e = .returned (.agg #[.int .i64 0, .int .i64 2, .int .i64 1, .int .i64 3]) ∧ Below w.heap.size w w') := by have h := around_any (1) w; rw [if_pos rfl] at h; exact h
        have HX : Hid (((nxt n sg c : Nat) : Int) - (m : Int) = ((x : Nat) : Int)) := by
          show _ = _
          have e : nxt n sg c = (x) + 2 * n := by
            unfold nxt
            rw [HPL.out, HXE.out, hsb, HCM.out]
            unfold stp
            rw [HXE.out]
            simp [HSEC.out]
          have hyn := HY.out
          have h2m := HM.out
          rw [e]; omega
        clear hsb hsgn
        clear hxp HS hc hc0 hpl
        go_enter Tryd.func34, Tryd.ntmps34
        go_upto_region 13 with (first | (go_at_call 46; refine AR.out.mono ?_; rintro e w3 ⟨rfl, hb3⟩; have HB3 := hid hb3; clear hb3) | fail)
        have HZ := hid (heap_alloc_new w3 (.cells #[.int .i64 0, .int .i64 2, .int .i64 1, .int .i64 3] 84))
        have HB4 := hid (below_step HB3.out (ba w3 (.cells #[.int .i64 0, .int .i64 2, .int .i64 1, .int .i64 3] 84)))
        clear csg dc0 dc1 dc2 cw cpl cg0 cg1 AR
        obtain ⟨A, hA⟩ : ∃ b, b = w3.heap.size := ⟨_, rfl⟩
        obtain ⟨w4, hw4⟩ : ∃ v, v = w3.alloc (.cells #[.int .i64 0, .int .i64 2, .int .i64 1, .int .i64 3] 84) := ⟨_, rfl⟩
        rw [← hw4] at HZ HB4 ⊢
        rw [← hA] at HZ ⊢
        clear hw4 hA
        have IX := hid (index_any A 4 4 1 (fun j => if j = 0 then 0 else if j = 1 then 2 else if j = 2 then 1 else 3) 2 w4 (by decide) (by decide) (fun j hj => by
          have h3 : w4.cell? ⟨A, j, none⟩ = (#[.int .i64 0, .int .i64 2, .int .i64 1, .int .i64 3] : Array Value)[j]? := by rw [World.cell?, HZ.out]; simp
          rw [h3]
          have hj4 : j = 0 ∨ j = 1 ∨ j = 2 ∨ j = 3 := by omega
          rcases hj4 with rfl | rfl | rfl | rfl <;> rfl) (by decide) (by decide))
        go_upto_region 14 with (first | (go_at_call 47; refine IX.out.mono ?_; rintro e w5 ⟨rfl, hb5⟩; have HB5 := hid (below_step HB4.out hb5); have cA : w5.cell? ⟨A, 2, none⟩ = some (.int .i64 1) := (by rw [World.cell?, hb5.block _ (heap_lt HZ.out), HZ.out]; rfl); clear hb5) | fail)
        clear cA
        obtain ⟨dc0, dc1, dc2, cw, cpl, cg0, cg1⟩ := K1.out w5 HB5.out
        go_wp2_with fail
        go_ret
        exact ⟨by rw [HX.out]; rfl, HB5.out⟩
      | false =>
        have hsgn : w.cell? ⟨sgb, x, none⟩ = some (.int .i64 (-1)) := by have h := HS.out x hxn; rw [hsb] at h; exact h
        have KSG : Hid (∀ w', Below w.heap.size w w' → w'.cell? ⟨sgb, x, none⟩ = some (.int .i64 (-1))) := fun w' hb => (hb.cell (World.block_lt_of_cell? w _ hsgn)).trans hsgn
        have csg := KSG.out w (Below.refl _ _)
        have AR : Hid (Calls Tryd.prog 46 #[.int .i64 (-1)] w fun e w' => e = .returned (.agg #[.int .i64 0, .int .i64 3, .int .i64 1, .int .i64 2]) ∧ Below w.heap.size w w') := by have h := around_any (-1) w; rw [if_neg (by decide)] at h; exact h
        obtain ⟨q, hq⟩ : ∃ q, q = (x + m - 1) % m := ⟨_, rfl⟩
        have hyn := HY.out
        have hql : q < m := by rw [hq]; exact Nat.mod_lt _ (by omega)
        have htq : (((x : Nat) : Int) + (m : Int) - 1).tmod (m : Int) = (q : Int) := by
          rw [Int.tmod_eq_emod_of_nonneg (by omega), hq]
          have e : (((x : Nat) : Int) + (m : Int) - 1) = ((x + m - 1 : Nat) : Int) := by omega
          rw [e]; exact (Int.natCast_emod _ _).symm
        have HX : Hid (((nxt n sg c : Nat) : Int) - (m : Int) = -1 - (q : Int)) := by
          show _ = _
          have e : nxt n sg c = m - 1 - q := by
            unfold nxt
            rw [HPL.out, HXE.out, hsb, HCM.out, hq]
            unfold stp
            rw [HXE.out, HM.out]
            simp [HSEC.out]
          have h2m := HM.out
          rw [e]; omega
        clear hq hyn
        clear hsb hsgn
        clear hxp HS hc hc0 hpl
        go_enter Tryd.func34, Tryd.ntmps34
        go_upto_region 13 with (first | (go_at_call 46; refine AR.out.mono ?_; rintro e w3 ⟨rfl, hb3⟩; have HB3 := hid hb3; clear hb3) | fail)
        have HZ := hid (heap_alloc_new w3 (.cells #[.int .i64 0, .int .i64 3, .int .i64 1, .int .i64 2] 84))
        have HB4 := hid (below_step HB3.out (ba w3 (.cells #[.int .i64 0, .int .i64 3, .int .i64 1, .int .i64 2] 84)))
        clear csg dc0 dc1 dc2 cw cpl cg0 cg1 AR
        obtain ⟨A, hA⟩ : ∃ b, b = w3.heap.size := ⟨_, rfl⟩
        obtain ⟨w4, hw4⟩ : ∃ v, v = w3.alloc (.cells #[.int .i64 0, .int .i64 3, .int .i64 1, .int .i64 2] 84) := ⟨_, rfl⟩
        rw [← hw4] at HZ HB4 ⊢
        rw [← hA] at HZ ⊢
        clear hw4 hA
        have IX := hid (index_any A 4 4 3 (fun j => if j = 0 then 0 else if j = 1 then 3 else if j = 2 then 1 else 2) 2 w4 (by decide) (by decide) (fun j hj => by
          have h3 : w4.cell? ⟨A, j, none⟩ = (#[.int .i64 0, .int .i64 3, .int .i64 1, .int .i64 2] : Array Value)[j]? := by rw [World.cell?, HZ.out]; simp
          rw [h3]
          have hj4 : j = 0 ∨ j = 1 ∨ j = 2 ∨ j = 3 := by omega
          rcases hj4 with rfl | rfl | rfl | rfl <;> rfl) (by decide) (by decide))
        go_upto_region 14 with (first | (go_at_call 47; refine IX.out.mono ?_; rintro e w5 ⟨rfl, hb5⟩; have HB5 := hid (below_step HB4.out hb5); have cA : w5.cell? ⟨A, 0, none⟩ = some (.int .i64 0) := (by rw [World.cell?, hb5.block _ (heap_lt HZ.out), HZ.out]; rfl); clear hb5) | fail)
        clear cA
        obtain ⟨dc0, dc1, dc2, cw, cpl, cg0, cg1⟩ := K1.out w5 HB5.out
        go_wp2_with fail
        go_ret
        exact ⟨by rw [HX.out]; rfl, HB5.out⟩
    · have HSEC : Hid (¬ n ≤ p) := h2
      have hpx : x = p := by omega
      subst hpx
      have heq : ((x : Int) == (y : Int)) = false := beq_eq_false_iff_ne.2 (by omega)
      have hne : ¬ (x : Int) = (y : Int) := by omega
      clear hye
      cases hsb : sg.testBit x with
      | true =>
        have hsgn : w.cell? ⟨sgb, x, none⟩ = some (.int .i64 (1)) := by have h := HS.out x hxn; rw [hsb] at h; exact h
        have KSG : Hid (∀ w', Below w.heap.size w w' → w'.cell? ⟨sgb, x, none⟩ = some (.int .i64 (1))) := fun w' hb => (hb.cell (World.block_lt_of_cell? w _ hsgn)).trans hsgn
        have csg := KSG.out w (Below.refl _ _)
        have AR : Hid (Calls Tryd.prog 46 #[.int .i64 (1)] w fun e w' => e = .returned (.agg #[.int .i64 0, .int .i64 2, .int .i64 1, .int .i64 3]) ∧ Below w.heap.size w w') := by have h := around_any (1) w; rw [if_pos rfl] at h; exact h
        obtain ⟨q, hq⟩ : ∃ q, q = (y + m - 1) % m := ⟨_, rfl⟩
        have hyn := HY.out
        have hql : q < m := by rw [hq]; exact Nat.mod_lt _ (by omega)
        have htq : (((y : Nat) : Int) + (m : Int) - 1).tmod (m : Int) = (q : Int) := by
          rw [Int.tmod_eq_emod_of_nonneg (by omega), hq]
          have e : (((y : Nat) : Int) + (m : Int) - 1) = ((y + m - 1 : Nat) : Int) := by omega
          rw [e]; exact (Int.natCast_emod _ _).symm
        have HX : Hid (((nxt n sg c : Nat) : Int) - (m : Int) = -1 - (q : Int)) := by
          show _ = _
          have e : nxt n sg c = m - 1 - q := by
            unfold nxt
            rw [HPL.out, HXE.out, hsb, HCM.out, hq]
            unfold stp
            rw [HXE.out, HM.out, hyn]
            simp [HSEC.out]
          have h2m := HM.out
          rw [e]; omega
        clear hq hyn
        clear hsb hsgn
        clear hxp HS hc hc0 hpl
        go_enter Tryd.func34, Tryd.ntmps34
        go_upto_region 13 with (first | (go_at_call 46; refine AR.out.mono ?_; rintro e w3 ⟨rfl, hb3⟩; have HB3 := hid hb3; clear hb3) | fail)
        have HZ := hid (heap_alloc_new w3 (.cells #[.int .i64 0, .int .i64 2, .int .i64 1, .int .i64 3] 84))
        have HB4 := hid (below_step HB3.out (ba w3 (.cells #[.int .i64 0, .int .i64 2, .int .i64 1, .int .i64 3] 84)))
        clear csg dc0 dc1 dc2 cw cpl cg0 cg1 AR
        obtain ⟨A, hA⟩ : ∃ b, b = w3.heap.size := ⟨_, rfl⟩
        obtain ⟨w4, hw4⟩ : ∃ v, v = w3.alloc (.cells #[.int .i64 0, .int .i64 2, .int .i64 1, .int .i64 3] 84) := ⟨_, rfl⟩
        rw [← hw4] at HZ HB4 ⊢
        rw [← hA] at HZ ⊢
        clear hw4 hA
        have IX := hid (index_any A 4 4 0 (fun j => if j = 0 then 0 else if j = 1 then 2 else if j = 2 then 1 else 3) 0 w4 (by decide) (by decide) (fun j hj => by
          have h3 : w4.cell? ⟨A, j, none⟩ = (#[.int .i64 0, .int .i64 2, .int .i64 1, .int .i64 3] : Array Value)[j]? := by rw [World.cell?, HZ.out]; simp
          rw [h3]
          have hj4 : j = 0 ∨ j = 1 ∨ j = 2 ∨ j = 3 := by omega
          rcases hj4 with rfl | rfl | rfl | rfl <;> rfl) (by decide) (by decide))
        go_upto_region 14 with (first | (go_at_call 47; refine IX.out.mono ?_; rintro e w5 ⟨rfl, hb5⟩; have HB5 := hid (below_step HB4.out hb5); have cA : w5.cell? ⟨A, 1, none⟩ = some (.int .i64 2) := (by rw [World.cell?, hb5.block _ (heap_lt HZ.out), HZ.out]; rfl); clear hb5) | fail)
        clear cA
        obtain ⟨dc0, dc1, dc2, cw, cpl, cg0, cg1⟩ := K1.out w5 HB5.out
        go_wp2_with fail
        go_ret
        exact ⟨by rw [HX.out]; rfl, HB5.out⟩
      | false =>
        have hsgn : w.cell? ⟨sgb, x, none⟩ = some (.int .i64 (-1)) := by have h := HS.out x hxn; rw [hsb] at h; exact h
        have KSG : Hid (∀ w', Below w.heap.size w w' → w'.cell? ⟨sgb, x, none⟩ = some (.int .i64 (-1))) := fun w' hb => (hb.cell (World.block_lt_of_cell? w _ hsgn)).trans hsgn
        have csg := KSG.out w (Below.refl _ _)
        have AR : Hid (Calls Tryd.prog 46 #[.int .i64 (-1)] w fun e w' => e = .returned (.agg #[.int .i64 0, .int .i64 3, .int .i64 1, .int .i64 2]) ∧ Below w.heap.size w w') := by have h := around_any (-1) w; rw [if_neg (by decide)] at h; exact h
        have HX : Hid (((nxt n sg c : Nat) : Int) - (m : Int) = ((y : Nat) : Int)) := by
          show _ = _
          have e : nxt n sg c = (n + x) + 2 * n := by
            unfold nxt
            rw [HPL.out, HXE.out, hsb, HCM.out]
            unfold stp
            rw [HXE.out]
            simp [HSEC.out]
          have hyn := HY.out
          have h2m := HM.out
          rw [e]; omega
        clear hsb hsgn
        clear hxp HS hc hc0 hpl
        go_enter Tryd.func34, Tryd.ntmps34
        go_upto_region 13 with (first | (go_at_call 46; refine AR.out.mono ?_; rintro e w3 ⟨rfl, hb3⟩; have HB3 := hid hb3; clear hb3) | fail)
        have HZ := hid (heap_alloc_new w3 (.cells #[.int .i64 0, .int .i64 3, .int .i64 1, .int .i64 2] 84))
        have HB4 := hid (below_step HB3.out (ba w3 (.cells #[.int .i64 0, .int .i64 3, .int .i64 1, .int .i64 2] 84)))
        clear csg dc0 dc1 dc2 cw cpl cg0 cg1 AR
        obtain ⟨A, hA⟩ : ∃ b, b = w3.heap.size := ⟨_, rfl⟩
        obtain ⟨w4, hw4⟩ : ∃ v, v = w3.alloc (.cells #[.int .i64 0, .int .i64 3, .int .i64 1, .int .i64 2] 84) := ⟨_, rfl⟩
        rw [← hw4] at HZ HB4 ⊢
        rw [← hA] at HZ ⊢
        clear hw4 hA
        have IX := hid (index_any A 4 4 0 (fun j => if j = 0 then 0 else if j = 1 then 3 else if j = 2 then 1 else 2) 0 w4 (by decide) (by decide) (fun j hj => by
          have h3 : w4.cell? ⟨A, j, none⟩ = (#[.int .i64 0, .int .i64 3, .int .i64 1, .int .i64 2] : Array Value)[j]? := by rw [World.cell?, HZ.out]; simp
          rw [h3]
          have hj4 : j = 0 ∨ j = 1 ∨ j = 2 ∨ j = 3 := by omega
          rcases hj4 with rfl | rfl | rfl | rfl <;> rfl) (by decide) (by decide))
        go_upto_region 14 with (first | (go_at_call 47; refine IX.out.mono ?_; rintro e w5 ⟨rfl, hb5⟩; have HB5 := hid (below_step HB4.out hb5); have cA : w5.cell? ⟨A, 1, none⟩ = some (.int .i64 3) := (by rw [World.cell?, hb5.block _ (heap_lt HZ.out), HZ.out]; rfl); clear hb5) | fail)
        clear cA
        obtain ⟨dc0, dc1, dc2, cw, cpl, cg0, cg1⟩ := K1.out w5 HB5.out
        go_wp2_with fail
        go_ret
        exact ⟨by rw [HX.out]; rfl, HB5.out⟩
  · have hc0 := hcm
    have HCM : Hid (decide (2 * n ≤ c) = false) := by show _ = _; exact decide_eq_false hcm
    have hz0 : ¬ 0 ≤ z := by omega
    have htp : -1 - z = (p : Int) := by
      rw [hpe, hze]
      unfold pl
      rw [if_neg hcm]
      omega
    clear hcm hze hpe hm
    by_cases h2 : n ≤ p
    · have HSEC : Hid (n ≤ p) := h2
      have hpx : y = p := by omega
      subst hpx
      clear hye
      cases hsb : sg.testBit x with
      | true =>
        have hsgn : w.cell? ⟨sgb, x, none⟩ = some (.int .i64 (1)) := by have h := HS.out x hxn; rw [hsb] at h; exact h
        have KSG : Hid (∀ w', Below w.heap.size w w' → w'.cell? ⟨sgb, x, none⟩ = some (.int .i64 (1))) := fun w' hb => (hb.cell (World.block_lt_of_cell? w _ hsgn)).trans hsgn
        have csg := KSG.out w (Below.refl _ _)
        have AR : Hid (Calls Tryd.prog 46 #[.int .i64 (1)] w fun e w' => e = .returned (.agg #[.int .i64 0, .int .i64 2, .int .i64 1, .int .i64 3]) ∧ Below w.heap.size w w') := by have h := around_any (1) w; rw [if_pos rfl] at h; exact h
        obtain ⟨q, hq⟩ : ∃ q, q = (x + m - 1) % m := ⟨_, rfl⟩
        have hyn := HY.out
        have hql : q < m := by rw [hq]; exact Nat.mod_lt _ (by omega)
        have htq : (((x : Nat) : Int) + (m : Int) - 1).tmod (m : Int) = (q : Int) := by
          rw [Int.tmod_eq_emod_of_nonneg (by omega), hq]
          have e : (((x : Nat) : Int) + (m : Int) - 1) = ((x + m - 1 : Nat) : Int) := by omega
          rw [e]; exact (Int.natCast_emod _ _).symm
        have HX : Hid (((nxt n sg c : Nat) : Int) - (m : Int) = -1 - (q : Int)) := by
          show _ = _
          have e : nxt n sg c = m - 1 - q := by
            unfold nxt
            rw [HPL.out, HXE.out, hsb, HCM.out, hq]
            unfold stp
            rw [HXE.out, HM.out]
            simp [HSEC.out]
          have h2m := HM.out
          rw [e]; omega
        clear hq hyn
        clear hsb hsgn
        clear hxp HS hc hc0 hpl
        go_enter Tryd.func34, Tryd.ntmps34
        go_upto_region 13 with (first | (go_at_call 46; refine AR.out.mono ?_; rintro e w3 ⟨rfl, hb3⟩; have HB3 := hid hb3; clear hb3) | fail)
        have HZ := hid (heap_alloc_new w3 (.cells #[.int .i64 0, .int .i64 2, .int .i64 1, .int .i64 3] 84))
        have HB4 := hid (below_step HB3.out (ba w3 (.cells #[.int .i64 0, .int .i64 2, .int .i64 1, .int .i64 3] 84)))
        clear csg dc0 dc1 dc2 cw cpl cg0 cg1 AR
        obtain ⟨A, hA⟩ : ∃ b, b = w3.heap.size := ⟨_, rfl⟩
        obtain ⟨w4, hw4⟩ : ∃ v, v = w3.alloc (.cells #[.int .i64 0, .int .i64 2, .int .i64 1, .int .i64 3] 84) := ⟨_, rfl⟩
        rw [← hw4] at HZ HB4 ⊢
        rw [← hA] at HZ ⊢
        clear hw4 hA
        have IX := hid (index_any A 4 4 3 (fun j => if j = 0 then 0 else if j = 1 then 2 else if j = 2 then 1 else 3) 3 w4 (by decide) (by decide) (fun j hj => by
          have h3 : w4.cell? ⟨A, j, none⟩ = (#[.int .i64 0, .int .i64 2, .int .i64 1, .int .i64 3] : Array Value)[j]? := by rw [World.cell?, HZ.out]; simp
          rw [h3]
          have hj4 : j = 0 ∨ j = 1 ∨ j = 2 ∨ j = 3 := by omega
          rcases hj4 with rfl | rfl | rfl | rfl <;> rfl) (by decide) (by decide))
        go_upto_region 14 with (first | (go_at_call 47; refine IX.out.mono ?_; rintro e w5 ⟨rfl, hb5⟩; have HB5 := hid (below_step HB4.out hb5); have cA : w5.cell? ⟨A, 0, none⟩ = some (.int .i64 0) := (by rw [World.cell?, hb5.block _ (heap_lt HZ.out), HZ.out]; rfl); clear hb5) | fail)
        clear cA
        obtain ⟨dc0, dc1, dc2, cw, cpl, cg0, cg1⟩ := K1.out w5 HB5.out
        go_wp2_with fail
        go_ret
        exact ⟨by rw [HX.out]; rfl, HB5.out⟩
      | false =>
        have hsgn : w.cell? ⟨sgb, x, none⟩ = some (.int .i64 (-1)) := by have h := HS.out x hxn; rw [hsb] at h; exact h
        have KSG : Hid (∀ w', Below w.heap.size w w' → w'.cell? ⟨sgb, x, none⟩ = some (.int .i64 (-1))) := fun w' hb => (hb.cell (World.block_lt_of_cell? w _ hsgn)).trans hsgn
        have csg := KSG.out w (Below.refl _ _)
        have AR : Hid (Calls Tryd.prog 46 #[.int .i64 (-1)] w fun e w' => e = .returned (.agg #[.int .i64 0, .int .i64 3, .int .i64 1, .int .i64 2]) ∧ Below w.heap.size w w') := by have h := around_any (-1) w; rw [if_neg (by decide)] at h; exact h
        have HX : Hid (((nxt n sg c : Nat) : Int) - (m : Int) = ((x : Nat) : Int)) := by
          show _ = _
          have e : nxt n sg c = (x) + 2 * n := by
            unfold nxt
            rw [HPL.out, HXE.out, hsb, HCM.out]
            unfold stp
            rw [HXE.out]
            simp [HSEC.out]
          have hyn := HY.out
          have h2m := HM.out
          rw [e]; omega
        clear hsb hsgn
        clear hxp HS hc hc0 hpl
        go_enter Tryd.func34, Tryd.ntmps34
        go_upto_region 13 with (first | (go_at_call 46; refine AR.out.mono ?_; rintro e w3 ⟨rfl, hb3⟩; have HB3 := hid hb3; clear hb3) | fail)
        have HZ := hid (heap_alloc_new w3 (.cells #[.int .i64 0, .int .i64 3, .int .i64 1, .int .i64 2] 84))
        have HB4 := hid (below_step HB3.out (ba w3 (.cells #[.int .i64 0, .int .i64 3, .int .i64 1, .int .i64 2] 84)))
        clear csg dc0 dc1 dc2 cw cpl cg0 cg1 AR
        obtain ⟨A, hA⟩ : ∃ b, b = w3.heap.size := ⟨_, rfl⟩
        obtain ⟨w4, hw4⟩ : ∃ v, v = w3.alloc (.cells #[.int .i64 0, .int .i64 3, .int .i64 1, .int .i64 2] 84) := ⟨_, rfl⟩
        rw [← hw4] at HZ HB4 ⊢
        rw [← hA] at HZ ⊢
        clear hw4 hA
        have IX := hid (index_any A 4 4 1 (fun j => if j = 0 then 0 else if j = 1 then 3 else if j = 2 then 1 else 2) 3 w4 (by decide) (by decide) (fun j hj => by
          have h3 : w4.cell? ⟨A, j, none⟩ = (#[.int .i64 0, .int .i64 3, .int .i64 1, .int .i64 2] : Array Value)[j]? := by rw [World.cell?, HZ.out]; simp
          rw [h3]
          have hj4 : j = 0 ∨ j = 1 ∨ j = 2 ∨ j = 3 := by omega
          rcases hj4 with rfl | rfl | rfl | rfl <;> rfl) (by decide) (by decide))
        go_upto_region 14 with (first | (go_at_call 47; refine IX.out.mono ?_; rintro e w5 ⟨rfl, hb5⟩; have HB5 := hid (below_step HB4.out hb5); have cA : w5.cell? ⟨A, 2, none⟩ = some (.int .i64 1) := (by rw [World.cell?, hb5.block _ (heap_lt HZ.out), HZ.out]; rfl); clear hb5) | fail)
        clear cA
        obtain ⟨dc0, dc1, dc2, cw, cpl, cg0, cg1⟩ := K1.out w5 HB5.out
        go_wp2_with fail
        go_ret
        exact ⟨by rw [HX.out]; rfl, HB5.out⟩
    · have HSEC : Hid (¬ n ≤ p) := h2
      have hpx : x = p := by omega
      subst hpx
      have heq : ((x : Int) == (y : Int)) = false := beq_eq_false_iff_ne.2 (by omega)
      have hne : ¬ (x : Int) = (y : Int) := by omega
      clear hye
      cases hsb : sg.testBit x with
      | true =>
        have hsgn : w.cell? ⟨sgb, x, none⟩ = some (.int .i64 (1)) := by have h := HS.out x hxn; rw [hsb] at h; exact h
        have KSG : Hid (∀ w', Below w.heap.size w w' → w'.cell? ⟨sgb, x, none⟩ = some (.int .i64 (1))) := fun w' hb => (hb.cell (World.block_lt_of_cell? w _ hsgn)).trans hsgn
        have csg := KSG.out w (Below.refl _ _)
        have AR : Hid (Calls Tryd.prog 46 #[.int .i64 (1)] w fun e w' => e = .returned (.agg #[.int .i64 0, .int .i64 2, .int .i64 1, .int .i64 3]) ∧ Below w.heap.size w w') := by have h := around_any (1) w; rw [if_pos rfl] at h; exact h
        have HX : Hid (((nxt n sg c : Nat) : Int) - (m : Int) = ((y : Nat) : Int)) := by
          show _ = _
          have e : nxt n sg c = (n + x) + 2 * n := by
            unfold nxt
            rw [HPL.out, HXE.out, hsb, HCM.out]
            unfold stp
            rw [HXE.out]
            simp [HSEC.out]
          have hyn := HY.out
          have h2m := HM.out
          rw [e]; omega
        clear hsb hsgn
        clear hxp HS hc hc0 hpl
        go_enter Tryd.func34, Tryd.ntmps34
        go_upto_region 13 with (first | (go_at_call 46; refine AR.out.mono ?_; rintro e w3 ⟨rfl, hb3⟩; have HB3 := hid hb3; clear hb3) | fail)
        have HZ := hid (heap_alloc_new w3 (.cells #[.int .i64 0, .int .i64 2, .int .i64 1, .int .i64 3] 84))
        have HB4 := hid (below_step HB3.out (ba w3 (.cells #[.int .i64 0, .int .i64 2, .int .i64 1, .int .i64 3] 84)))
        clear csg dc0 dc1 dc2 cw cpl cg0 cg1 AR
        obtain ⟨A, hA⟩ : ∃ b, b = w3.heap.size := ⟨_, rfl⟩
        obtain ⟨w4, hw4⟩ : ∃ v, v = w3.alloc (.cells #[.int .i64 0, .int .i64 2, .int .i64 1, .int .i64 3] 84) := ⟨_, rfl⟩
        rw [← hw4] at HZ HB4 ⊢
        rw [← hA] at HZ ⊢
        clear hw4 hA
        have IX := hid (index_any A 4 4 2 (fun j => if j = 0 then 0 else if j = 1 then 2 else if j = 2 then 1 else 3) 1 w4 (by decide) (by decide) (fun j hj => by
          have h3 : w4.cell? ⟨A, j, none⟩ = (#[.int .i64 0, .int .i64 2, .int .i64 1, .int .i64 3] : Array Value)[j]? := by rw [World.cell?, HZ.out]; simp
          rw [h3]
          have hj4 : j = 0 ∨ j = 1 ∨ j = 2 ∨ j = 3 := by omega
          rcases hj4 with rfl | rfl | rfl | rfl <;> rfl) (by decide) (by decide))
        go_upto_region 14 with (first | (go_at_call 47; refine IX.out.mono ?_; rintro e w5 ⟨rfl, hb5⟩; have HB5 := hid (below_step HB4.out hb5); have cA : w5.cell? ⟨A, 3, none⟩ = some (.int .i64 3) := (by rw [World.cell?, hb5.block _ (heap_lt HZ.out), HZ.out]; rfl); clear hb5) | fail)
        clear cA
        obtain ⟨dc0, dc1, dc2, cw, cpl, cg0, cg1⟩ := K1.out w5 HB5.out
        go_wp2_with fail
        go_ret
        exact ⟨by rw [HX.out]; rfl, HB5.out⟩
      | false =>
        have hsgn : w.cell? ⟨sgb, x, none⟩ = some (.int .i64 (-1)) := by have h := HS.out x hxn; rw [hsb] at h; exact h
        have KSG : Hid (∀ w', Below w.heap.size w w' → w'.cell? ⟨sgb, x, none⟩ = some (.int .i64 (-1))) := fun w' hb => (hb.cell (World.block_lt_of_cell? w _ hsgn)).trans hsgn
        have csg := KSG.out w (Below.refl _ _)
        have AR : Hid (Calls Tryd.prog 46 #[.int .i64 (-1)] w fun e w' => e = .returned (.agg #[.int .i64 0, .int .i64 3, .int .i64 1, .int .i64 2]) ∧ Below w.heap.size w w') := by have h := around_any (-1) w; rw [if_neg (by decide)] at h; exact h
        obtain ⟨q, hq⟩ : ∃ q, q = (y + m - 1) % m := ⟨_, rfl⟩
        have hyn := HY.out
        have hql : q < m := by rw [hq]; exact Nat.mod_lt _ (by omega)
        have htq : (((y : Nat) : Int) + (m : Int) - 1).tmod (m : Int) = (q : Int) := by
          rw [Int.tmod_eq_emod_of_nonneg (by omega), hq]
          have e : (((y : Nat) : Int) + (m : Int) - 1) = ((y + m - 1 : Nat) : Int) := by omega
          rw [e]; exact (Int.natCast_emod _ _).symm
        have HX : Hid (((nxt n sg c : Nat) : Int) - (m : Int) = -1 - (q : Int)) := by
          show _ = _
          have e : nxt n sg c = m - 1 - q := by
            unfold nxt
            rw [HPL.out, HXE.out, hsb, HCM.out, hq]
            unfold stp
            rw [HXE.out, HM.out, hyn]
            simp [HSEC.out]
          have h2m := HM.out
          rw [e]; omega
        clear hq hyn
        clear hsb hsgn
        clear hxp HS hc hc0 hpl
        go_enter Tryd.func34, Tryd.ntmps34
        go_upto_region 13 with (first | (go_at_call 46; refine AR.out.mono ?_; rintro e w3 ⟨rfl, hb3⟩; have HB3 := hid hb3; clear hb3) | fail)
        have HZ := hid (heap_alloc_new w3 (.cells #[.int .i64 0, .int .i64 3, .int .i64 1, .int .i64 2] 84))
        have HB4 := hid (below_step HB3.out (ba w3 (.cells #[.int .i64 0, .int .i64 3, .int .i64 1, .int .i64 2] 84)))
        clear csg dc0 dc1 dc2 cw cpl cg0 cg1 AR
        obtain ⟨A, hA⟩ : ∃ b, b = w3.heap.size := ⟨_, rfl⟩
        obtain ⟨w4, hw4⟩ : ∃ v, v = w3.alloc (.cells #[.int .i64 0, .int .i64 3, .int .i64 1, .int .i64 2] 84) := ⟨_, rfl⟩
        rw [← hw4] at HZ HB4 ⊢
        rw [← hA] at HZ ⊢
        clear hw4 hA
        have IX := hid (index_any A 4 4 2 (fun j => if j = 0 then 0 else if j = 1 then 3 else if j = 2 then 1 else 2) 1 w4 (by decide) (by decide) (fun j hj => by
          have h3 : w4.cell? ⟨A, j, none⟩ = (#[.int .i64 0, .int .i64 3, .int .i64 1, .int .i64 2] : Array Value)[j]? := by rw [World.cell?, HZ.out]; simp
          rw [h3]
          have hj4 : j = 0 ∨ j = 1 ∨ j = 2 ∨ j = 3 := by omega
          rcases hj4 with rfl | rfl | rfl | rfl <;> rfl) (by decide) (by decide))
        go_upto_region 14 with (first | (go_at_call 47; refine IX.out.mono ?_; rintro e w5 ⟨rfl, hb5⟩; have HB5 := hid (below_step HB4.out hb5); have cA : w5.cell? ⟨A, 3, none⟩ = some (.int .i64 2) := (by rw [World.cell?, hb5.block _ (heap_lt HZ.out), HZ.out]; rfl); clear hb5) | fail)
        clear cA
        obtain ⟨dc0, dc1, dc2, cw, cpl, cg0, cg1⟩ := K1.out w5 HB5.out
        go_wp2_with fail
        go_ret
        exact ⟨by rw [HX.out]; rfl, HB5.out⟩
end Go.Proofs.YtppkgilpmmhpoaaDoor
