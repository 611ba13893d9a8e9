/-
  Rationals are summed (30).
-/
import Derived.Test.YtlhmidecjiihcaaDoorWalkT
namespace Go.Proofs.YtlhmidecjiihcaaDoor
open Go.RowKit
theorem getD_zs (zs : List Int) (i : Nat) : (fun j => zs.getD j 0) i = zs.getD i 0 := rfl
set_option maxRecDepth 100000 in
set_option maxHeartbeats 4000000 in
theorem sum_any (v : Value) (zs : List Int) (w : World) (hv : RatR w v zs) (hb : ∀ i, i ≤ zs.length → (psum 0 (fun j => zs.getD j 0) i).natAbs < 2147483648) (he : ∀ i, i < zs.length → (zs.getD i 0).natAbs < 2147483648) :
    Calls Tryd.prog 30 #[v] w fun e w' => ∃ x, e = .returned x ∧ RatZ w' x (psum 0 (fun j => zs.getD j 0) zs.length) ∧ Below w.heap.size w w' := by
  obtain ⟨s, k, rfl⟩ := hv.sh
  have HV : Hid (∀ w', Below w.heap.size w w' → RatR w' (.slice s zs.length k) zs) := fun w' h => hv.below h
  obtain ⟨f, hf⟩ : ∃ f : Nat → Int, f = psum 0 (fun j => zs.getD j 0) := ⟨_, rfl⟩
  rw [← hf] at hb ⊢
  have HF0 : Hid (f 0 = ((0 : Nat) : Int)) := by rw [hf]; exact hid rfl
  have HFS : Hid (∀ i, f (i + 1) = f i + zs.getD i 0) := by rw [hf]; exact fun i => rfl
  have HBD := hid hb
  have HE := hid he
  obtain ⟨m, hm⟩ : ∃ m, m = zs.length := ⟨_, rfl⟩
  have hm1 : m ≤ 1000 := by obtain ⟨_, _, _, h, _⟩ := hv; omega
  have HM := hid hm
  rw [← hm] at HV HBD HE ⊢
  clear hf hm hb he hv
  have HR1 := hid (heap_alloc_new w (.cells #[.bool false, .slice none 0 0, .bool false, .slice none 0 0] 54))
  have HB1 := hid (ba w (.cells #[.bool false, .slice none 0 0, .bool false, .slice none 0 0] 54))
  go_enter Tryd.func30, Tryd.ntmps30
  go_upto_region 1 with fail
  generalize w.alloc (.cells #[.bool false, .slice none 0 0, .bool false, .slice none 0 0] 54) = w1 at *
  go_wp2_with fail
  go_at_call 13
  refine (whole_any 0 0 w1 rfl (by decide)).mono ?_
  rintro e w2 ⟨x2, rfl, hz2, hb2⟩
  have HB2 := hid (below_step HB1.out hb2)
  have HR2 := hid (cells_box HR1.out hb2)
  have HZ2 : Hid (RatZ w2 x2 (f 0)) := by rw [HF0.out]; exact hz2
  obtain ⟨a2, n2, c2, g2, d2, hx2, _, _⟩ := hz2
  obtain ⟨b2, hb2e⟩ : ∃ b2 : Bool, b2 = decide (((0 : Nat) : Int) < 0) := ⟨_, rfl⟩
  rw [← hb2e] at hx2
  subst hx2
  have hb3 := ba w2 (.cells #[.bool b2, .slice a2 n2 c2, .bool false, .slice (some ⟨g2, 0, none⟩) 1 d2] 54)
  have HB3 := hid (below_step HB2.out hb3)
  have HR3 := hid (cells_box HR2.out hb3)
  obtain ⟨X, hX⟩ : ∃ X, X = w2.heap.size := ⟨_, rfl⟩
  have HX3 : Hid (BoxR (w2.alloc (.cells #[.bool b2, .slice a2 n2 c2, .bool false, .slice (some ⟨g2, 0, none⟩) 1 d2] 54)) X (f 0)) := ⟨b2, a2, n2, c2, g2, d2, by rw [hX]; exact heap_alloc_new _ _, HZ2.out.below hb3⟩
  have HXR : Hid (w.heap.size < X) := hid (by have := heap_lt HR2.out; omega)
  clear hb2 hb2e hb3 HB1 HR1 HB2 HR2 HZ2
  go_upto_region 2 with fail
  rw [← hX]
  clear hX
  generalize w2.alloc (.cells #[.bool b2, .slice a2 n2 c2, .bool false, .slice (some ⟨g2, 0, none⟩) 1 d2] 54) = w3 at *
  go_wp2_with fail
  go_loopw [9] (fun iv wr => ∃ i : Nat, iv = .int .i64 i ∧ i ≤ m ∧ Hid (Below w.heap.size w wr) ∧ Hid (wr.heap[w.heap.size]? = some (.cells #[.bool false, .slice none 0 0, .bool false, .slice none 0 0] 54)) ∧ Hid (BoxR wr X (f i))) (fun iv _ => m - (intOf iv).toNat)
  case atStart => exact ⟨0, rfl, Nat.zero_le _, HB3, HR3, HX3⟩
  case round =>
    obtain ⟨i, rfl, hi, HBr, HRr, HXr⟩ := hrel
    obtain ⟨b4, a4, n4, c4, g4, d4, hx4, hz4⟩ := HXr.out
    have HX4 := hid hx4
    by_cases hlt : i < m
    · obtain ⟨G, b5, a5, n5, c5, g5, d5, rfl, e0, e1, e2, e3, hz5⟩ := (HV.out wr HBr.out).at i (by rw [← HM.out]; exact hlt)
      have AD : Hid (∀ w', Below wr.heap.size wr w' → Calls Tryd.prog 45 #[.agg #[.bool b4, .slice a4 n4 c4, .bool false, .slice (some ⟨g4, 0, none⟩) 1 d4], .agg #[.bool b5, .slice a5 n5 c5, .bool false, .slice (some ⟨g5, 0, none⟩) 1 d5]] w' fun e w'' => ∃ x, e = .returned x ∧ RatZ w'' x (f (i + 1)) ∧ Below w'.heap.size w' w'') := fun w' h => by rw [HFS.out]; exact radd_any _ _ _ _ w' (hz4.below h) (hz5.below h) (HBD.out i (by omega)) (HE.out i hlt)
      have HB5 := hid (ba wr (.cells #[.bool b5, .slice a5 n5 c5, .bool false, .slice (some ⟨g5, 0, none⟩) 1 d5] 54))
      obtain ⟨x0, x1, x2, x3⟩ := cells4_of (cells_box HX4.out HB5.out)
      obtain ⟨y0, y1, y2, y3⟩ := cells4_of (heap_alloc_new wr (.cells #[.bool b5, .slice a5 n5 c5, .bool false, .slice (some ⟨g5, 0, none⟩) 1 d5] 54))
      have AD5 := hid (AD.out _ HB5.out)
      clear hx4 hz4 hz5 HXr
      go_upto_region 5 with fail
      clear e0 e1 e2 e3
      have HS5 : Hid (Below wr.heap.size wr (wr.alloc (.cells #[.bool b5, .slice a5 n5 c5, .bool false, .slice (some ⟨g5, 0, none⟩) 1 d5] 54))) := HB5
      generalize wr.alloc (.cells #[.bool b5, .slice a5 n5 c5, .bool false, .slice (some ⟨g5, 0, none⟩) 1 d5] 54) = w5 at *
      go_wp2_with fail
      go_at_call 45
      refine AD5.out.mono ?_
      rintro e w6 ⟨x6, rfl, hz6, hb6⟩
      have HB6 := hid (below_step HB5.out hb6)
      have HX6 := hid (cells_box HX4.out HB6.out)
      have HR6 := hid (cells_box HRr.out HB6.out)
      have HBw := hid (below_step HBr.out HB6.out)
      have HZ6 := hid hz6
      obtain ⟨a6, n6, c6, g6, d6, hx6, _, _⟩ := hz6
      obtain ⟨b6, hb6e⟩ : ∃ b6 : Bool, b6 = decide (f (i + 1) < 0) := ⟨_, rfl⟩
      rw [← hb6e] at hx6
      subst hx6
      clear hb6 hb6e x0 x1 x2 x3 y0 y1 y2 y3
      obtain ⟨x0, x1, x2, x3⟩ := cells4_of HX6.out
      have f0 := free_box HX6.out 0
      have f1 := free_box HX6.out 1
      have f2 := free_box HX6.out 2
      have f3 := free_box HX6.out 3
      go_wp2_with fail
      go_roundw
      case rel =>
        refine ⟨i + 1, by go_num, by omega, ?_, ?_, ?_⟩
        · exact put4_below (b := b6) (p := a6) (n := n6) (c := c6) (e := false) (q := some ⟨g6, 0, none⟩) (m := 1) (d := d6) HBw.out (Nat.le_of_lt HXR.out)
        · exact (put4_off (b := b6) (p := a6) (n := n6) (c := c6) (e := false) (q := some ⟨g6, 0, none⟩) (m := 1) (d := d6) _ (Nat.ne_of_lt HXR.out)).trans HR6.out
        · exact BoxR.put HX6.out (fun z e => by cases e) HZ6.out
      case measure => simp [intOf]; omega
    · obtain rfl : i = m := by omega
      obtain ⟨x0, x1, x2, x3⟩ := cells4_of HX4.out
      obtain ⟨r0, r1, r2, r3⟩ := cells4_of HRr.out
      have f0 := free_box HRr.out 0
      have f1 := free_box HRr.out 1
      have f2 := free_box HRr.out 2
      have f3 := free_box HRr.out 3
      have HZ4 := hid hz4
      clear hx4 hz4
      go_wp2_with fail
      exact bodyPost_ret (v := .agg #[.bool b4, .slice a4 n4 c4, .bool false, .slice (some ⟨g4, 0, none⟩) 1 d4]) (by simp [results, Tryd.results30, go_sem, r0, r1, r2, r3]) rfl
        ⟨_, rfl, HZ4.out.off (off_bool r0) (put4_off (b := b4) (p := a4) (n := n4) (c := c4) (e := false) (q := some ⟨g4, 0, none⟩) (m := 1) (d := d4)), put4_below (b := b4) (p := a4) (n := n4) (c := c4) (e := false) (q := some ⟨g4, 0, none⟩) (m := 1) (d := d4) HBr.out (Nat.le_refl _)⟩
end Go.Proofs.YtlhmidecjiihcaaDoor
