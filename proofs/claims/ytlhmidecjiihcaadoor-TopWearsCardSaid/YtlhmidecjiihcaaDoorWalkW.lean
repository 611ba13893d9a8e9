/-
  Lists of rationals are turned (15); the chances to last (35).
-/
import Derived.Test.YtlhmidecjiihcaaDoorWalkV
namespace Go.Proofs.YtlhmidecjiihcaaDoor
open Go.RowKit
theorem RatL.sh3 {w : World} {B : Nat} {v : Value} {zs : List Int} (h : RatL w B v zs) : ∃ s l k, v = .slice s l k := by
  obtain ⟨s, k, h⟩ := h.sh
  exact ⟨s, _, k, h⟩
theorem take_snoc {α : Type} (l : List α) (d : α) (i : Nat) (h : i < l.length) : l.take (i + 1) = l.take i ++ [l.getD i d] := by
  rw [List.take_add_one, List.getElem?_eq_getElem h, List.getD_eq_getElem?_getD, List.getElem?_eq_getElem h]
  rfl
theorem rev_getD (l : List Int) (i : Nat) (h : i < l.length) : l.reverse.getD i 0 = l.getD (l.length - 1 - i) 0 := by
  rw [List.getD_eq_getElem?_getD, List.getD_eq_getElem?_getD, List.getElem?_reverse h]
theorem put4_grown {w : World} {X : Nat} {b : Bool} {p : Option Addr} {n c : Nat} {e : Bool} {q : Option Addr} {m d : Nat} : w.grownBy (put4 w X b p n c e q m d) (some X) := by
  have h := put4_below (b := b) (p := p) (n := n) (c := c) (e := e) (q := q) (m := m) (d := d) (Below.refl X w) (Nat.le_refl _)
  exact ⟨h.os, h.tape, h.output, h.size, fun j hj hn => put4_off j (fun e => hn (by rw [e]))⟩
theorem RatL.put {w : World} {B X : Nat} {v : Value} {zs : List Int} {x0 x1 x2 x3 : Value} {b : Bool} {p : Option Addr} {n c : Nat} {e : Bool} {q : Option Addr} {m d : Nat} (h : RatL w B v zs) (hX : X < B) (hx : w.heap[X]? = some (.cells #[x0, x1, x2, x3] 54)) (h0 : ∀ z, x0 ≠ .int .u32 z) : RatL (put4 w X b p n c e q m d) B v zs := by
  obtain ⟨rs, ho, hl, hn, h⟩ := h
  refine ⟨rs, ownS_kept ho put4_grown ?_, hl, hn, fun i hi => ?_⟩
  · cases hk : v.ownBlock with
    | none => exact .inl rfl
    | some k =>
      refine .inr fun e => ?_
      cases e
      have := (ownS_lt ho X hk).1
      omega
  · obtain ⟨b, a, n, c, g, d, h1, hr⟩ := h i hi
    exact ⟨b, a, n, c, g, d, h1, hr.off (fun z e => by rw [(cells4_of hx).1] at e; cases e; exact h0 z rfl) put4_off⟩
set_option maxRecDepth 100000 in
set_option maxHeartbeats 4000000 in
theorem turned_any (v : Value) (zs : List Int) (w : World) (hv : RatR w v zs) :
    Calls Tryd.prog 15 #[v] w fun e w' => ∃ x, e = .returned x ∧ RatL w' w.heap.size x zs.reverse ∧ Below w.heap.size w w' := by
  obtain ⟨s, k, rfl⟩ := hv.sh
  have HV : Hid (∀ w', Below w.heap.size w w' → RatR w' (.slice s zs.length k) zs) := fun w' h => hv.below h
  obtain ⟨m, hm⟩ : ∃ m, m = zs.length := ⟨_, rfl⟩
  have hm1 : m ≤ 1000 := by obtain ⟨_, _, _, h, _⟩ := hv; omega
  have HM := hid hm
  rw [← hm] at HV ⊢
  clear hm hv
  go_enter Tryd.func15, Tryd.ntmps15
  go_wp2_with fail
  go_loopw [3, 7] (fun ov iv wr => ∃ i : Nat, iv = .int .i64 i ∧ i ≤ m ∧ Hid (Below w.heap.size w wr) ∧ (∃ s l k, ov = .slice s l k) ∧ Hid (RatL wr w.heap.size ov (zs.reverse.take i))) (fun _ iv _ => m - (intOf iv).toNat)
  case atStart => exact ⟨0, rfl, Nat.zero_le _, Below.refl _ _, ⟨_, _, _, rfl⟩, RatL.nil _ _⟩
  case round =>
    obtain ⟨i, rfl, hi, HBr, ⟨os, ol, ok, rfl⟩, HOr⟩ := hrel
    by_cases hlt : i < m
    · have hsub : (m : Int) - 1 - (i : Int) = ((m - 1 - i : Nat) : Int) := by omega
      obtain ⟨j, hj⟩ : ∃ j, j = m - 1 - i := ⟨_, rfl⟩
      have hjm : j < m := by omega
      rw [← hj] at hsub
      have HJ := hid hj
      clear hj
      obtain ⟨G, b5, a5, n5, c5, g5, d5, rfl, e0, e1, e2, e3, hz5⟩ := (HV.out wr HBr.out).at j (by rw [← HM.out]; exact hjm)
      have HZ5 := hid hz5
      have HSZ : Hid (w.heap.size ≤ wr.heap.size) := HBr.out.size
      have HLn : Hid ((zs.reverse.take i).length < 1000) := by show _ < _; rw [List.length_take]; omega
      clear hz5
      go_wp2_with (first
        | (at_builtin; refine wpl_app_r b5 a5 n5 c5 g5 d5 (zs.getD j 0) _ _ (.slice os ol ok) w.heap.size (zs.reverse.take i) (by rfl) (by rfl) (by rfl) (by rfl) HOr.out HZ5.out HLn.out HSZ.out ?_; intro v' w7 HO7 HB7 _ _; clear e0 e1 e2 e3; obtain ⟨sa, sn, sc, rfl⟩ := HO7.out.sh3)
        | fail)
      go_roundw
      case rel =>
        refine ⟨i + 1, by go_num, by omega, HBr.out.trans HB7.out, ⟨_, _, _, rfl⟩, ?_⟩
        show RatL _ _ _ _
        rw [take_snoc _ 0 _ (by rw [List.length_reverse, ← HM.out]; exact hlt), rev_getD _ _ (by rw [← HM.out]; exact hlt), ← HM.out, ← HJ.out]
        exact HO7.out
      case measure => simp [intOf]; omega
    · obtain rfl : i = m := by omega
      go_wp2_with fail
      go_ret
      exact ⟨_, rfl, by have h := HOr.out; rwa [List.take_of_length_le (by rw [List.length_reverse, ← HM.out]; exact Nat.le_refl _)] at h, HBr.out⟩
set_option maxRecDepth 100000 in
set_option maxHeartbeats 4000000 in
theorem above_any (v : Value) (zs : List Int) (w : World) (hv : RatR w v zs) (hb : ∀ i, i ≤ zs.length → (psum 1 (fun j => - zs.getD j 0) i).natAbs < 2147483648) (he : ∀ i, i < zs.length → (zs.getD i 0).natAbs < 2147483648) :
    Calls Tryd.prog 35 #[v] w fun e w' => ∃ x, e = .returned x ∧ RatL w' w.heap.size x ((List.range zs.length).map (psum 1 (fun j => - zs.getD j 0))) ∧ Below w.heap.size w w' := by
  obtain ⟨s, k, rfl⟩ := hv.sh
  have HV : Hid (∀ w', Below w.heap.size w w' → RatR w' (.slice s zs.length k) zs) := fun w' h => hv.below h
  obtain ⟨f, hf⟩ : ∃ f : Nat → Int, f = psum 1 (fun j => - zs.getD j 0) := ⟨_, rfl⟩
  rw [← hf] at hb ⊢
  have HF0 : Hid (f 0 = ((1 : Nat) : Int)) := by rw [hf]; exact hid rfl
  have HFS : Hid (∀ i, f (i + 1) = f i - zs.getD i 0) := by rw [hf]; exact fun i => (Int.sub_eq_add_neg ..).symm
  have HBD := hid hb
  have HE := hid he
  obtain ⟨m, hm⟩ : ∃ m, m = zs.length := ⟨_, rfl⟩
  have hm1 : m ≤ 1000 := by obtain ⟨_, _, _, h, _⟩ := hv; omega
  have HM := hid hm
  rw [← hm] at HV HBD HE ⊢
  clear hf hm hb he hv
  go_enter Tryd.func35, Tryd.ntmps35
  go_wp2_with fail
  go_at_call 13
  refine (whole_any 1 1 w rfl (by decide)).mono ?_
  rintro e w2 ⟨x2, rfl, hz2, hb2⟩
  have HB2 := hid hb2
  have HZ2 : Hid (RatZ w2 x2 (f 0)) := by rw [HF0.out]; exact hz2
  obtain ⟨a2, n2, c2, g2, d2, hx2, _, _⟩ := hz2
  obtain ⟨b2, hb2e⟩ : ∃ b2 : Bool, b2 = decide (((1 : Nat) : Int) < 0) := ⟨_, rfl⟩
  rw [← hb2e] at hx2
  subst hx2
  have hb3 := ba w2 (.cells #[.bool b2, .slice a2 n2 c2, .bool false, .slice (some ⟨g2, 0, none⟩) 1 d2] 54)
  have HB3 := hid (below_step HB2.out hb3)
  obtain ⟨X, hX⟩ : ∃ X, X = w2.heap.size := ⟨_, rfl⟩
  have HX3 : Hid (BoxR (w2.alloc (.cells #[.bool b2, .slice a2 n2 c2, .bool false, .slice (some ⟨g2, 0, none⟩) 1 d2] 54)) X (f 0)) := ⟨b2, a2, n2, c2, g2, d2, by rw [hX]; exact heap_alloc_new _ _, HZ2.out.below hb3⟩
  have HXW : Hid (w.heap.size ≤ X) := hid (by have := HB2.out.size; omega)
  have HXB : Hid (X < (w2.alloc (.cells #[.bool b2, .slice a2 n2 c2, .bool false, .slice (some ⟨g2, 0, none⟩) 1 d2] 54)).heap.size) := hid (by obtain ⟨_, _, _, _, _, _, h, _⟩ := HX3.out; exact heap_lt h)
  clear hb2 hb2e hb3 HB2 HZ2
  go_upto_region 3 with fail
  rw [← hX]
  clear hX
  generalize w2.alloc (.cells #[.bool b2, .slice a2 n2 c2, .bool false, .slice (some ⟨g2, 0, none⟩) 1 d2] 54) = w3 at *
  obtain ⟨B, hBe⟩ : ∃ B, B = w3.heap.size := ⟨_, rfl⟩
  have HBW : Hid (w.heap.size ≤ B) := hid (by rw [hBe]; exact HB3.out.size)
  have HSZ3 : Hid (B ≤ w3.heap.size) := hid (Nat.le_of_eq hBe)
  rw [← hBe] at HXB
  clear hBe
  go_wp2_with fail
  go_loopw [3, 10] (fun ov iv wr => ∃ i : Nat, iv = .int .i64 i ∧ i ≤ m ∧ Hid (Below w.heap.size w wr) ∧ Hid (B ≤ wr.heap.size) ∧ (∃ s l k, ov = .slice s l k) ∧ Hid (RatL wr B ov ((List.range i).map f)) ∧ Hid (BoxR wr X (f i))) (fun _ iv _ => m - (intOf iv).toNat)
  case atStart => exact ⟨0, rfl, Nat.zero_le _, HB3, HSZ3, ⟨_, _, _, rfl⟩, RatL.nil _ _, HX3⟩
  case round =>
    obtain ⟨i, rfl, hi, HBr, HSr, ⟨os, ol, ok, rfl⟩, HOr, HXr⟩ := hrel
    obtain ⟨b4, a4, n4, c4, g4, d4, hx4, hz4⟩ := HXr.out
    have HX4 := hid hx4
    have HZ4 := hid hz4
    clear hx4 hz4
    by_cases hlt : i < m
    · obtain ⟨G, b5, a5, n5, c5, g5, d5, rfl, e0, e1, e2, e3, hz5⟩ := (HV.out wr HBr.out).at i (by rw [← HM.out]; exact hlt)
      have HZ5 := hid hz5
      have HB5 := hid (ba wr (.cells #[.bool b5, .slice a5 n5 c5, .bool false, .slice (some ⟨g5, 0, none⟩) 1 d5] 54))
      have HBX := hid (heap_alloc_new wr (.cells #[.bool b5, .slice a5 n5 c5, .bool false, .slice (some ⟨g5, 0, none⟩) 1 d5] 54))
      obtain ⟨Y, hY⟩ : ∃ Y, Y = wr.heap.size := ⟨_, rfl⟩
      have HYO : Hid (∀ k, (Value.slice os ol ok).ownBlock = some k → k < Y) := hid (fun k h => by rw [hY]; exact (HOr.out.lt k h).2)
      rw [← hY] at HBX
      obtain ⟨x0, x1, x2, x3⟩ := cells4_of (cells_box HX4.out HB5.out)
      have HLn : Hid (((List.range i).map f).length < 1000) := by show _ < _; simp; omega
      clear hz5 HXr
      go_upto_region 6 with fail
      rw [← hY]
      clear e0 e1 e2 e3 hY
      have HO5 := hid (HOr.out.below HB5.out)
      have HX5 := hid (cells_box HX4.out HB5.out)
      have HZ4a := hid (HZ4.out.below HB5.out)
      have HZ5a := hid (HZ5.out.below HB5.out)
      have HBr5 := hid (below_step HBr.out HB5.out)
      have HS5 : Hid (B ≤ (wr.alloc (.cells #[.bool b5, .slice a5 n5 c5, .bool false, .slice (some ⟨g5, 0, none⟩) 1 d5] 54)).heap.size) := hid (Nat.le_trans HSr.out HB5.out.size)
      clear HOr HX4 HZ4 HZ5 HBr HSr
      have HYL : Hid (Y < (wr.alloc (.cells #[.bool b5, .slice a5 n5 c5, .bool false, .slice (some ⟨g5, 0, none⟩) 1 d5] 54)).heap.size) := hid (heap_lt HBX.out)
      generalize wr.alloc (.cells #[.bool b5, .slice a5 n5 c5, .bool false, .slice (some ⟨g5, 0, none⟩) 1 d5] 54) = w5 at *
      clear HB5
      go_upto_region 7 with (first
        | (at_builtin; refine wpl_app_r b4 a4 n4 c4 g4 d4 (f i) _ _ (.slice os ol ok) B ((List.range i).map f) (by rfl) (by rfl) (by rfl) (by rfl) HO5.out HZ4a.out HLn.out HS5.out ?_; intro v' w7 HO7 HB7 HG7 HK7; clear x0 x1 x2 x3; obtain ⟨sa, sn, sc, rfl⟩ := HO7.out.sh3)
        | fail)
      have HX7 := hid ((HB7.out.block X HXB.out).trans HX5.out)
      have HY7 := hid ((HG7.out.block Y HYL.out (fun e => Nat.lt_irrefl _ (HYO.out Y e.symm))).trans HBX.out)
      have AD7 : Hid (Calls Tryd.prog 49 #[.agg #[.bool b4, .slice a4 n4 c4, .bool false, .slice (some ⟨g4, 0, none⟩) 1 d4], .agg #[.bool b5, .slice a5 n5 c5, .bool false, .slice (some ⟨g5, 0, none⟩) 1 d5]] w7 fun e w'' => ∃ x, e = .returned x ∧ RatZ w'' x (f (i + 1)) ∧ Below w7.heap.size w7 w'') := by rw [HFS.out]; exact rsub_any _ _ _ _ w7 (HK7.out _ _ HZ4a.out) (HK7.out _ _ HZ5a.out) (HBD.out i (by omega)) (HE.out i hlt)
      have HBr7 := hid (HBr5.out.trans (HB7.out.mono HBW.out))
      have HS7 : Hid (B ≤ w7.heap.size) := hid (Nat.le_trans HS5.out HB7.out.size)
      obtain ⟨x0, x1, x2, x3⟩ := cells4_of HX7.out
      obtain ⟨y0, y1, y2, y3⟩ := cells4_of HY7.out
      clear HX5 HBX HO5 HZ4a HZ5a HB7 HG7 HK7 HBr5 HS5
      go_wp2_with fail
      go_at_call 49
      refine AD7.out.mono ?_
      rintro e w6 ⟨x6, rfl, hz6, hb6⟩
      have HB6 := hid hb6
      have HX6 := hid (cells_box HX7.out HB6.out)
      have HO6 := hid (HO7.out.below HB6.out)
      have HBr6 := hid (below_step HBr7.out HB6.out)
      have HS6 : Hid (B ≤ w6.heap.size) := hid (Nat.le_trans HS7.out HB6.out.size)
      have HZ6 := hid hz6
      obtain ⟨a6, n6, c6, g6, d6, hx6, _, _⟩ := hz6
      obtain ⟨b6, hb6e⟩ : ∃ b6 : Bool, b6 = decide (f (i + 1) < 0) := ⟨_, rfl⟩
      rw [← hb6e] at hx6
      subst hx6
      clear hb6 hb6e x0 x1 x2 x3 y0 y1 y2 y3
      obtain ⟨x0, x1, x2, x3⟩ := cells4_of HX6.out
      have f0 := free_box HX6.out 0
      have f1 := free_box HX6.out 1
      have f2 := free_box HX6.out 2
      have f3 := free_box HX6.out 3
      go_wp2_with fail
      go_roundw
      case rel =>
        have hpb := put4_below (b := b6) (p := a6) (n := n6) (c := c6) (e := false) (q := some ⟨g6, 0, none⟩) (m := 1) (d := d6) (Below.refl X w6) (Nat.le_refl _)
        refine ⟨i + 1, by go_num, by omega, ?_, ?_, ⟨_, _, _, rfl⟩, ?_, ?_⟩
        · exact put4_below (b := b6) (p := a6) (n := n6) (c := c6) (e := false) (q := some ⟨g6, 0, none⟩) (m := 1) (d := d6) HBr6.out HXW.out
        · exact Nat.le_trans HS6.out hpb.size
        · show RatL _ _ _ _
          rw [List.range_succ, List.map_append, List.map_cons, List.map_nil]
          exact RatL.put HO6.out HXB.out HX6.out (fun z e => by cases e)
        · exact BoxR.put HX6.out (fun z e => by cases e) HZ6.out
      case measure => simp [intOf]; omega
    · obtain rfl : i = m := by omega
      go_wp2_with fail
      go_ret
      exact ⟨_, rfl, HOr.out.mono HBW.out, HBr.out⟩
end Go.Proofs.YtlhmidecjiihcaaDoor
