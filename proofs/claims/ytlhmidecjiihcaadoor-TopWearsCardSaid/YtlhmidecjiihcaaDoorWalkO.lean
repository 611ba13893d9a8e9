/-
  Rationals: Add (45), Mul (39).
-/
import Derived.Test.YtlhmidecjiihcaaDoorWalkN
namespace Go.Proofs.YtlhmidecjiihcaaDoor
open Go.RowKit
set_option maxRecDepth 100000 in
set_option maxHeartbeats 4000000 in
theorem radd_any (u v : Value) (z1 z2 : Int) (w : World) (hu : RatZ w u z1) (hv : RatZ w v z2) (hz1 : z1.natAbs < 2147483648) (hz2 : z2.natAbs < 2147483648) :
    Calls Tryd.prog 45 #[u, v] w fun e w' => ∃ x, e = .returned x ∧ RatZ w' x (z1 + z2) ∧ Below w.heap.size w w' := by
  obtain ⟨a1, n1, c1, g1, d1, rfl, hn1, hd1⟩ := hu
  obtain ⟨b1, hb1⟩ : ∃ b, b = decide (z1 < 0) := ⟨_, rfl⟩
  rw [← hb1] at hn1 ⊢
  have HN1 : Hid (∀ w', Below w.heap.size w w' → IntZ w' (.agg #[.bool b1, .slice a1 n1 c1]) (z1)) := fun w' hb => hn1.below hb
  have HD1 : Hid (∀ w', Below w.heap.size w w' → IntZ w' (.agg #[.bool false, .slice (some ⟨g1, 0, none⟩) 1 d1]) 1) := fun w' hb => hd1.below hb
  have HBE1 := hid hb1
  have HA1 : Hid (∀ w', Below w.heap.size w w' → RatZ w' (.agg #[.bool b1, .slice a1 n1 c1, .bool false, .slice (some ⟨g1, 0, none⟩) 1 d1]) (z1)) := fun w' hb => ⟨a1, n1, c1, g1, d1, by rw [HBE1.out], by rw [← HBE1.out]; exact HN1.out w' hb, HD1.out w' hb⟩
  clear hn1 hd1 hb1
  obtain ⟨a2, n2, c2, g2, d2, rfl, hn2, hd2⟩ := hv
  obtain ⟨b2, hb2⟩ : ∃ b, b = decide (z2 < 0) := ⟨_, rfl⟩
  rw [← hb2] at hn2 ⊢
  have HN2 : Hid (∀ w', Below w.heap.size w w' → IntZ w' (.agg #[.bool b2, .slice a2 n2 c2]) (z2)) := fun w' hb => hn2.below hb
  have HD2 : Hid (∀ w', Below w.heap.size w w' → IntZ w' (.agg #[.bool false, .slice (some ⟨g2, 0, none⟩) 1 d2]) 1) := fun w' hb => hd2.below hb
  have HBE2 := hid hb2
  have HA2 : Hid (∀ w', Below w.heap.size w w' → RatZ w' (.agg #[.bool b2, .slice a2 n2 c2, .bool false, .slice (some ⟨g2, 0, none⟩) 1 d2]) (z2)) := fun w' hb => ⟨a2, n2, c2, g2, d2, by rw [HBE2.out], by rw [← HBE2.out]; exact HN2.out w' hb, HD2.out w' hb⟩
  clear hn2 hd2 hb2
  obtain ⟨X, Y, R, w1, hw1, hX, hY, hR, HX, HY, HR, HB1, HRW, HXR, HYR⟩ := boxes3 w #[.bool b1, .slice a1 n1 c1, .bool false, .slice (some ⟨g1, 0, none⟩) 1 d1] #[.bool b2, .slice a2 n2 c2, .bool false, .slice (some ⟨g2, 0, none⟩) 1 d2] #[.bool false, .slice none 0 0, .bool false, .slice none 0 0] 54 54 54
  have HW1 := hid hw1
  have HXE := hid hX
  have HYE := hid hY
  have HRE := hid hR
  clear hw1 hX hY hR
  have IN1 : Hid (∀ w', Below w.heap.size w w' → Calls Tryd.prog 37 #[.agg #[.bool b1, .slice a1 n1 c1, .bool false, .slice (some ⟨g1, 0, none⟩) 1 d1]] w' fun e w'' => e = .returned (.bool true) ∧ Below w'.heap.size w' w'') := fun w' hb => integer_any _ z1 w' (HA1.out w' hb)
  have IN2 : Hid (∀ w', Below w.heap.size w w' → Calls Tryd.prog 37 #[.agg #[.bool b2, .slice a2 n2 c2, .bool false, .slice (some ⟨g2, 0, none⟩) 1 d2]] w' fun e w'' => e = .returned (.bool true) ∧ Below w'.heap.size w' w'') := fun w' hb => integer_any _ z2 w' (HA2.out w' hb)
  have OP : Hid (∀ w', Below w.heap.size w w' → Calls Tryd.prog 69 #[.agg #[.bool b1, .slice a1 n1 c1], .agg #[.bool b2, .slice a2 n2 c2]] w' fun e w'' => ∃ x, e = .returned x ∧ IntZ w'' x (z1 + z2) ∧ Below w'.heap.size w' w'') := fun w' hb => add_any _ _ z1 z2 w' (HN1.out w' hb) (HN2.out w' hb) hz1 hz2
  obtain ⟨x0, x1, x2, x3⟩ := cells4_of HX.out
  obtain ⟨y0, y1, y2, y3⟩ := cells4_of HY.out
  obtain ⟨r0, r1, r2, r3⟩ := cells4_of HR.out
  go_enter Tryd.func45, Tryd.ntmps45
  go_upto_region 1 with fail
  rw [HW1.out, ← HRE.out, ← HYE.out, ← HXE.out]
  clear HW1 HXE HYE HRE
  have IN1a := hid (IN1.out w1 HB1.out)
  go_wp2_with fail
  go_at_call 37
  refine IN1a.out.mono ?_
  rintro e w2 ⟨rfl, hb2⟩
  have HB2 := hid (below_step HB1.out hb2)
  have HX2 := hid (cells_box HX.out hb2)
  have HY2 := hid (cells_box HY.out hb2)
  have HR2 := hid (cells_box HR.out hb2)
  clear hb2 x0 x1 x2 x3 y0 y1 y2 y3 r0 r1 r2 r3
  obtain ⟨x0, x1, x2, x3⟩ := cells4_of HX2.out
  obtain ⟨y0, y1, y2, y3⟩ := cells4_of HY2.out
  obtain ⟨r0, r1, r2, r3⟩ := cells4_of HR2.out
  have IN2a := hid (IN2.out w2 HB2.out)
  go_wp2_with fail
  go_at_call 37
  refine IN2a.out.mono ?_
  rintro e w3 ⟨rfl, hb3⟩
  have HB3 := hid (below_step HB2.out hb3)
  have HX3 := hid (cells_box HX2.out hb3)
  have HY3 := hid (cells_box HY2.out hb3)
  have HR3 := hid (cells_box HR2.out hb3)
  clear hb3 x0 x1 x2 x3 y0 y1 y2 y3 r0 r1 r2 r3
  obtain ⟨x0, x1, x2, x3⟩ := cells4_of HX3.out
  obtain ⟨y0, y1, y2, y3⟩ := cells4_of HY3.out
  obtain ⟨r0, r1, r2, r3⟩ := cells4_of HR3.out
  have OPa := hid (OP.out w3 HB3.out)
  go_wp2_with fail
  go_at_call 69
  refine OPa.out.mono ?_
  rintro e w4 ⟨v4, rfl, hz4, hb4⟩
  have HB4 := hid (below_step HB3.out hb4)
  have HX4 := hid (cells_box HX3.out hb4)
  have HY4 := hid (cells_box HY3.out hb4)
  have HR4 := hid (cells_box HR3.out hb4)
  clear hb4 x0 x1 x2 x3 y0 y1 y2 y3 r0 r1 r2 r3
  obtain ⟨x0, x1, x2, x3⟩ := cells4_of HX4.out
  obtain ⟨y0, y1, y2, y3⟩ := cells4_of HY4.out
  obtain ⟨r0, r1, r2, r3⟩ := cells4_of HR4.out
  have FI := hid (fromInt_any _ _ _ hz4)
  obtain ⟨p4, m4, q4, rfl, _⟩ := hz4.sh
  clear hz4
  go_wp2_with fail
  go_at_call 59
  refine FI.out.mono ?_
  rintro e w5 ⟨v5, rfl, hz5, hb5⟩
  have HB5 := hid (below_step HB4.out hb5)
  have HX5 := hid (cells_box HX4.out hb5)
  have HY5 := hid (cells_box HY4.out hb5)
  have HR5 := hid (cells_box HR4.out hb5)
  clear hb5 x0 x1 x2 x3 y0 y1 y2 y3 r0 r1 r2 r3
  obtain ⟨x0, x1, x2, x3⟩ := cells4_of HX5.out
  obtain ⟨y0, y1, y2, y3⟩ := cells4_of HY5.out
  obtain ⟨r0, r1, r2, r3⟩ := cells4_of HR5.out
  have HZ5 := hid hz5
  obtain ⟨p5, m5, q5, s5, t5, hx5, _, _⟩ := hz5
  subst hx5
  have f0 := free_box HR5.out 0
  have f1 := free_box HR5.out 1
  have f2 := free_box HR5.out 2
  have f3 := free_box HR5.out 3
  go_wp2_with fail
  exact bodyPost_ret (v := .agg #[.bool (decide (z1 + z2 < 0)), .slice p5 m5 q5, .bool false, .slice (some ⟨s5, 0, none⟩) 1 t5]) (by simp [results, Tryd.results45, go_sem, r0, r1, r2, r3]) rfl
    ⟨_, rfl, HZ5.out.off (off_bool r0) (put4_off (b := decide (z1 + z2 < 0)) (p := p5) (n := m5) (c := q5) (e := false) (q := some ⟨s5, 0, none⟩) (m := 1) (d := t5)), put4_below HB5.out HRW.out⟩
set_option maxRecDepth 100000 in
set_option maxHeartbeats 4000000 in
theorem rmul_any (u v : Value) (z1 z2 : Int) (w : World) (hu : RatZ w u z1) (hv : RatZ w v z2) (hp : z1.natAbs * z2.natAbs < 4294967296) :
    Calls Tryd.prog 39 #[u, v] w fun e w' => ∃ x, e = .returned x ∧ RatZ w' x (z1 * z2) ∧ Below w.heap.size w w' := by
  obtain ⟨a1, n1, c1, g1, d1, rfl, hn1, hd1⟩ := hu
  obtain ⟨b1, hb1⟩ : ∃ b, b = decide (z1 < 0) := ⟨_, rfl⟩
  rw [← hb1] at hn1 ⊢
  have HN1 : Hid (∀ w', Below w.heap.size w w' → IntZ w' (.agg #[.bool b1, .slice a1 n1 c1]) (z1)) := fun w' hb => hn1.below hb
  have HD1 : Hid (∀ w', Below w.heap.size w w' → IntZ w' (.agg #[.bool false, .slice (some ⟨g1, 0, none⟩) 1 d1]) 1) := fun w' hb => hd1.below hb
  have HBE1 := hid hb1
  have HA1 : Hid (∀ w', Below w.heap.size w w' → RatZ w' (.agg #[.bool b1, .slice a1 n1 c1, .bool false, .slice (some ⟨g1, 0, none⟩) 1 d1]) (z1)) := fun w' hb => ⟨a1, n1, c1, g1, d1, by rw [HBE1.out], by rw [← HBE1.out]; exact HN1.out w' hb, HD1.out w' hb⟩
  clear hn1 hd1 hb1
  obtain ⟨a2, n2, c2, g2, d2, rfl, hn2, hd2⟩ := hv
  obtain ⟨b2, hb2⟩ : ∃ b, b = decide (z2 < 0) := ⟨_, rfl⟩
  rw [← hb2] at hn2 ⊢
  have HN2 : Hid (∀ w', Below w.heap.size w w' → IntZ w' (.agg #[.bool b2, .slice a2 n2 c2]) (z2)) := fun w' hb => hn2.below hb
  have HD2 : Hid (∀ w', Below w.heap.size w w' → IntZ w' (.agg #[.bool false, .slice (some ⟨g2, 0, none⟩) 1 d2]) 1) := fun w' hb => hd2.below hb
  have HBE2 := hid hb2
  have HA2 : Hid (∀ w', Below w.heap.size w w' → RatZ w' (.agg #[.bool b2, .slice a2 n2 c2, .bool false, .slice (some ⟨g2, 0, none⟩) 1 d2]) (z2)) := fun w' hb => ⟨a2, n2, c2, g2, d2, by rw [HBE2.out], by rw [← HBE2.out]; exact HN2.out w' hb, HD2.out w' hb⟩
  clear hn2 hd2 hb2
  obtain ⟨X, Y, R, w1, hw1, hX, hY, hR, HX, HY, HR, HB1, HRW, HXR, HYR⟩ := boxes3 w #[.bool b1, .slice a1 n1 c1, .bool false, .slice (some ⟨g1, 0, none⟩) 1 d1] #[.bool b2, .slice a2 n2 c2, .bool false, .slice (some ⟨g2, 0, none⟩) 1 d2] #[.bool false, .slice none 0 0, .bool false, .slice none 0 0] 54 54 54
  have HW1 := hid hw1
  have HXE := hid hX
  have HYE := hid hY
  have HRE := hid hR
  clear hw1 hX hY hR
  have IN1 : Hid (∀ w', Below w.heap.size w w' → Calls Tryd.prog 37 #[.agg #[.bool b1, .slice a1 n1 c1, .bool false, .slice (some ⟨g1, 0, none⟩) 1 d1]] w' fun e w'' => e = .returned (.bool true) ∧ Below w'.heap.size w' w'') := fun w' hb => integer_any _ z1 w' (HA1.out w' hb)
  have IN2 : Hid (∀ w', Below w.heap.size w w' → Calls Tryd.prog 37 #[.agg #[.bool b2, .slice a2 n2 c2, .bool false, .slice (some ⟨g2, 0, none⟩) 1 d2]] w' fun e w'' => e = .returned (.bool true) ∧ Below w'.heap.size w' w'') := fun w' hb => integer_any _ z2 w' (HA2.out w' hb)
  have OP : Hid (∀ w', Below w.heap.size w w' → Calls Tryd.prog 43 #[.agg #[.bool b1, .slice a1 n1 c1], .agg #[.bool b2, .slice a2 n2 c2]] w' fun e w'' => ∃ x, e = .returned x ∧ IntZ w'' x (z1 * z2) ∧ Below w'.heap.size w' w'') := fun w' hb => mul_any _ _ z1 z2 w' (HN1.out w' hb) (HN2.out w' hb) hp
  obtain ⟨x0, x1, x2, x3⟩ := cells4_of HX.out
  obtain ⟨y0, y1, y2, y3⟩ := cells4_of HY.out
  obtain ⟨r0, r1, r2, r3⟩ := cells4_of HR.out
  go_enter Tryd.func39, Tryd.ntmps39
  go_upto_region 1 with fail
  rw [HW1.out, ← HRE.out, ← HYE.out, ← HXE.out]
  clear HW1 HXE HYE HRE
  have IN1a := hid (IN1.out w1 HB1.out)
  go_wp2_with fail
  go_at_call 37
  refine IN1a.out.mono ?_
  rintro e w2 ⟨rfl, hb2⟩
  have HB2 := hid (below_step HB1.out hb2)
  have HX2 := hid (cells_box HX.out hb2)
  have HY2 := hid (cells_box HY.out hb2)
  have HR2 := hid (cells_box HR.out hb2)
  clear hb2 x0 x1 x2 x3 y0 y1 y2 y3 r0 r1 r2 r3
  obtain ⟨x0, x1, x2, x3⟩ := cells4_of HX2.out
  obtain ⟨y0, y1, y2, y3⟩ := cells4_of HY2.out
  obtain ⟨r0, r1, r2, r3⟩ := cells4_of HR2.out
  have IN2a := hid (IN2.out w2 HB2.out)
  go_wp2_with fail
  go_at_call 37
  refine IN2a.out.mono ?_
  rintro e w3 ⟨rfl, hb3⟩
  have HB3 := hid (below_step HB2.out hb3)
  have HX3 := hid (cells_box HX2.out hb3)
  have HY3 := hid (cells_box HY2.out hb3)
  have HR3 := hid (cells_box HR2.out hb3)
  clear hb3 x0 x1 x2 x3 y0 y1 y2 y3 r0 r1 r2 r3
  obtain ⟨x0, x1, x2, x3⟩ := cells4_of HX3.out
  obtain ⟨y0, y1, y2, y3⟩ := cells4_of HY3.out
  obtain ⟨r0, r1, r2, r3⟩ := cells4_of HR3.out
  have OPa := hid (OP.out w3 HB3.out)
  go_wp2_with fail
  go_at_call 43
  refine OPa.out.mono ?_
  rintro e w4 ⟨v4, rfl, hz4, hb4⟩
  have HB4 := hid (below_step HB3.out hb4)
  have HX4 := hid (cells_box HX3.out hb4)
  have HY4 := hid (cells_box HY3.out hb4)
  have HR4 := hid (cells_box HR3.out hb4)
  clear hb4 x0 x1 x2 x3 y0 y1 y2 y3 r0 r1 r2 r3
  obtain ⟨x0, x1, x2, x3⟩ := cells4_of HX4.out
  obtain ⟨y0, y1, y2, y3⟩ := cells4_of HY4.out
  obtain ⟨r0, r1, r2, r3⟩ := cells4_of HR4.out
  have FI := hid (fromInt_any _ _ _ hz4)
  obtain ⟨p4, m4, q4, rfl, _⟩ := hz4.sh
  clear hz4
  go_wp2_with fail
  go_at_call 59
  refine FI.out.mono ?_
  rintro e w5 ⟨v5, rfl, hz5, hb5⟩
  have HB5 := hid (below_step HB4.out hb5)
  have HX5 := hid (cells_box HX4.out hb5)
  have HY5 := hid (cells_box HY4.out hb5)
  have HR5 := hid (cells_box HR4.out hb5)
  clear hb5 x0 x1 x2 x3 y0 y1 y2 y3 r0 r1 r2 r3
  obtain ⟨x0, x1, x2, x3⟩ := cells4_of HX5.out
  obtain ⟨y0, y1, y2, y3⟩ := cells4_of HY5.out
  obtain ⟨r0, r1, r2, r3⟩ := cells4_of HR5.out
  have HZ5 := hid hz5
  obtain ⟨p5, m5, q5, s5, t5, hx5, _, _⟩ := hz5
  subst hx5
  have f0 := free_box HR5.out 0
  have f1 := free_box HR5.out 1
  have f2 := free_box HR5.out 2
  have f3 := free_box HR5.out 3
  go_wp2_with fail
  exact bodyPost_ret (v := .agg #[.bool (decide (z1 * z2 < 0)), .slice p5 m5 q5, .bool false, .slice (some ⟨s5, 0, none⟩) 1 t5]) (by simp [results, Tryd.results39, go_sem, r0, r1, r2, r3]) rfl
    ⟨_, rfl, HZ5.out.off (off_bool r0) (put4_off (b := decide (z1 * z2 < 0)) (p := p5) (n := m5) (c := q5) (e := false) (q := some ⟨s5, 0, none⟩) (m := 1) (d := t5)), put4_below HB5.out HRW.out⟩
end Go.Proofs.YtlhmidecjiihcaaDoor
