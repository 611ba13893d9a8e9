/-
  Lives are read (12).
-/
import Derived.Test.YtlhmidecjiihcaaDoorWalkX
namespace Go.Proofs.YtlhmidecjiihcaaDoor
open Go.RowKit
/-- wheels that last for just m periods -/
def lv (m : Nat) : List Nat := List.replicate (m - 1) 0 ++ [1]
def lz (m : Nat) : List Int := (lv m).map (fun k : Nat => (k : Int))
theorem lv_len {m : Nat} (h : 1 ≤ m) : (lv m).length = m := by unfold lv; simp; omega
theorem lz_len {m : Nat} (h : 1 ≤ m) : (lz m).length = m := by unfold lz; rw [List.length_map, lv_len h]
theorem lv_at {m : Nat} (h : 1 ≤ m) (i : Nat) : (lv m).getD i 0 = if i + 1 = m then 1 else 0 := by
  rw [List.getD_eq_getElem?_getD]
  unfold lv
  rw [List.getElem?_append]
  simp only [List.length_replicate, List.getElem?_replicate]
  split
  · rw [if_neg (by omega)]; rfl
  · by_cases e : i + 1 = m
    · rw [if_pos e, show i - (m - 1) = 0 by omega]; rfl
    · rw [if_neg e, List.getElem?_eq_none (by simp; omega)]; rfl
theorem lz_at {m : Nat} (h : 1 ≤ m) (i : Nat) : (lz m).getD i 0 = if i + 1 = m then 1 else 0 := by
  have e : (lz m).getD i 0 = (((lv m).getD i 0 : Nat) : Int) := by
    unfold lz
    rw [List.getD_eq_getElem?_getD, List.getElem?_map, List.getD_eq_getElem?_getD]
    cases (lv m)[i]? <;> rfl
  rw [e, lv_at h]
  split <;> rfl
theorem lv_mem {m k : Nat} (h : k ∈ lv m) : k < 2 := by
  unfold lv at h
  simp at h
  omega
theorem ps_sum {m : Nat} (h : 1 ≤ m) : ∀ i, psum 0 (fun j => (lz m).getD j 0) i = if m ≤ i then 1 else 0
  | 0 => by rw [if_neg (by omega)]; rfl
  | i + 1 => by
    show psum 0 _ i + (lz m).getD i 0 = _
    rw [ps_sum h i, lz_at h]
    by_cases h1 : m ≤ i
    · rw [if_pos h1, if_neg (by omega), if_pos (by omega)]; rfl
    · rw [if_neg h1]
      by_cases h2 : i + 1 = m
      · rw [if_pos h2, if_pos (by omega)]; rfl
      · rw [if_neg h2, if_neg (by omega)]; rfl
theorem ps_left {m : Nat} (h : 1 ≤ m) : ∀ i, psum 1 (fun j => - (lz m).getD j 0) i = if m ≤ i then 0 else 1
  | 0 => by rw [if_neg (by omega)]; rfl
  | i + 1 => by
    show psum 1 _ i + - (lz m).getD i 0 = _
    rw [ps_left h i, lz_at h]
    by_cases h1 : m ≤ i
    · rw [if_pos h1, if_neg (by omega), if_pos (by omega)]; rfl
    · rw [if_neg h1]
      by_cases h2 : i + 1 = m
      · rw [if_pos h2, if_pos (by omega)]; rfl
      · rw [if_neg h2, if_neg (by omega)]; rfl
theorem ps_mean {m : Nat} (h : 1 ≤ m) : ∀ i, i ≤ m → psum 0 (fun j => ((List.range (lz m).length).map (psum 1 (fun j => - (lz m).getD j 0))).getD j 0) i = i
  | 0, _ => rfl
  | i + 1, hi => by
    show psum 0 _ i + _ = _
    rw [ps_mean h i (by omega), lz_len h]
    show (i : Int) + ((List.range m).map (psum 1 (fun j => - (lz m).getD j 0))).getD i 0 = _
    rw [List.getD_eq_getElem?_getD, List.getElem?_map, List.getElem?_range (by omega)]
    show (i : Int) + psum 1 _ i = _
    rw [ps_left h, if_neg (by omega)]
    rfl
set_option maxRecDepth 100000 in
set_option maxHeartbeats 4000000 in
theorem read_lv (m : Nat) (v : Value) (w : World) (hm : 1 ≤ m) (hm2 : m ≤ 12) (hv : IsV w v ((lv m).map sd)) :
    Calls Tryd.prog 12 #[v] w fun e w' => ∃ x, e = .returned (.tuple #[x, .int .i64 0]) ∧ RatL w' w.heap.size x (lz m) ∧ Below w.heap.size w w' := by
  have NC := hid (numbers_any v (lv m) w hv (fun k h => lv_mem h) (by rw [lv_len hm]; omega))
  have SM : Hid (∀ w' x, RatR w' x (lz m) → Calls Tryd.prog 30 #[x] w' fun e w'' => ∃ x, e = .returned x ∧ RatZ w'' x ((1 : Nat) : Int) ∧ Below w'.heap.size w' w'') := fun w' x h => by
    have h2 := sum_any x (lz m) w' h (fun i _ => by rw [ps_sum hm]; split <;> decide) (fun i _ => by rw [lz_at hm]; split <;> decide)
    rwa [ps_sum hm, lz_len hm, if_pos (Nat.le_refl _)] at h2
  have CM : Hid (∀ w' x y, RatZ w' x ((1 : Nat) : Int) → RatZ w' y ((1 : Nat) : Int) → Calls Tryd.prog 31 #[x, y] w' fun e w'' => e = .returned (.int .i64 0) ∧ Below w'.heap.size w' w'') := fun w' x y h1 h2 => by
    have h := rcmp_any x y 1 1 w' h1 h2 (by decide) (by decide)
    rwa [if_pos rfl] at h
  have HLen := hid (lz_len hm)
  obtain ⟨sv, kv, rfl⟩ := isV_slice hv
  rw [List.length_map, lv_len hm] at NC ⊢
  clear hv
  go_enter Tryd.func12, Tryd.ntmps12
  go_wp2_with fail
  go_at_call 29
  refine NC.out.mono ?_
  rintro e w2 ⟨x2, rfl, hl2, hb2⟩
  have HB2 := hid hb2
  have HL2 : Hid (RatL w2 w.heap.size x2 (lz m)) := hl2
  have HR2 : Hid (RatR w2 x2 (lz m)) := hid (RatL.R (zs := lz m) hl2 (by rw [lz_len hm]; omega))
  obtain ⟨s2, k2, rfl⟩ := HL2.out.sh
  rw [HLen.out] at HL2 HR2 ⊢
  clear hl2 hb2 NC
  have HRW : Hid (∀ w', Below w2.heap.size w2 w' → RatR w' (.slice s2 m k2) (lz m)) := fun w' h => HR2.out.below h
  have hsub : (m : Int) - 1 = ((m - 1 : Nat) : Int) := by omega
  obtain ⟨j, hj⟩ : ∃ j, j = m - 1 := ⟨_, rfl⟩
  have hjm : j < m := by omega
  have HJ1 : Hid (j + 1 = m) := hid (by omega)
  rw [← hj] at hsub
  clear hj
  obtain ⟨G, b5, a5, n5, c5, g5, d5, rfl, e0, e1, e2, e3, hz5⟩ := HR2.out.at j (by rw [HLen.out]; exact hjm)
  rw [lz_at hm, if_pos HJ1.out] at hz5
  have SG : Hid (Calls Tryd.prog 17 #[.agg #[.bool b5, .slice a5 n5 c5, .bool false, .slice (some ⟨g5, 0, none⟩) 1 d5]] w2 fun e w' => e = .returned (.int .i64 1) ∧ Below w2.heap.size w2 w') := by
    have h := rsign_any _ 1 w2 hz5
    rw [if_neg (by decide), if_neg (by decide)] at h
    exact h
  clear hz5
  go_wp2_with fail
  go_at_call 17
  refine SG.out.mono ?_
  rintro e w3 ⟨rfl, hb3⟩
  have HB3 := hid hb3
  have SM3 := hid (SM.out w3 _ (HRW.out w3 hb3))
  clear hb3 e0 e1 e2 e3 hsub SG
  go_wp2_with fail
  go_at_call 30
  refine SM3.out.mono ?_
  rintro e w4 ⟨x4, rfl, hz4, hb4⟩
  have HB4 := hid (below_step HB3.out hb4)
  have HZ4 : Hid (RatZ w4 x4 ((1 : Nat) : Int)) := hz4
  obtain ⟨a4, n4, c4, g4, d4, rfl, _, _⟩ := hz4
  obtain ⟨b4, hb4e⟩ : ∃ b4 : Bool, b4 = decide (((1 : Nat) : Int) < 0) := ⟨_, rfl⟩
  rw [← hb4e] at HZ4 ⊢
  clear hb4 hb4e SM3
  go_wp2_with fail
  go_at_call 13
  refine (whole_any 1 1 w4 rfl (by decide)).mono ?_
  rintro e w5 ⟨x5, rfl, hz6, hb5⟩
  have HB5 := hid (below_step HB4.out hb5)
  have CM5 := hid (CM.out w5 _ _ (HZ4.out.below hb5) hz6)
  obtain ⟨a6, n6, c6, g6, d6, rfl, _, _⟩ := hz6
  clear hb5
  go_wp2_with fail
  go_at_call 31
  refine CM5.out.mono ?_
  rintro e w6 ⟨rfl, hb6⟩
  have HB6 := hid (below_step HB5.out hb6)
  clear hb6 CM5 CM SM
  go_wp2_with fail
  go_loopw [42] (fun iv wr => ∃ i : Nat, iv = .int .i64 i ∧ i ≤ m ∧ Hid (Below w2.heap.size w2 wr)) (fun iv _ => m - (intOf iv).toNat)
  case atStart => exact ⟨0, rfl, Nat.zero_le _, HB6⟩
  case round =>
    obtain ⟨i, rfl, hi, HBr⟩ := hrel
    by_cases hlt : i < m
    · obtain ⟨G', b7, a7, n7, c7, g7, d7, hG, e0, e1, e2, e3, hz7⟩ := (HRW.out wr HBr.out).at i (by rw [HLen.out]; exact hlt)
      cases hG
      obtain ⟨q, hq2, hzq⟩ : ∃ q : Nat, q < 2 ∧ (lz m).getD i 0 = (q : Int) := by
        rw [lz_at hm]
        split
        · exact ⟨1, by decide, rfl⟩
        · exact ⟨0, by decide, rfl⟩
      rw [hzq] at hz7
      have HB7 := hid (ba wr (.cells #[.bool b7, .slice a7 n7 c7, .bool false, .slice (some ⟨g7, 0, none⟩) 1 d7] 54))
      obtain ⟨y0, y1, y2, y3⟩ := cells4_of (heap_alloc_new wr (.cells #[.bool b7, .slice a7 n7 c7, .bool false, .slice (some ⟨g7, 0, none⟩) 1 d7] 54))
      have HY := hid (heap_alloc_new wr (.cells #[.bool b7, .slice a7 n7 c7, .bool false, .slice (some ⟨g7, 0, none⟩) 1 d7] 54))
      have HBr7 := hid (below_step HBr.out HB7.out)
      have HZ7 := hid (hz7.below HB7.out)
      obtain ⟨r, hr0, SG7⟩ : ∃ r : Int, 0 ≤ r ∧ Hid (Calls Tryd.prog 17 #[.agg #[.bool b7, .slice a7 n7 c7, .bool false, .slice (some ⟨g7, 0, none⟩) 1 d7]] (wr.alloc (.cells #[.bool b7, .slice a7 n7 c7, .bool false, .slice (some ⟨g7, 0, none⟩) 1 d7] 54)) fun e w' => e = .returned (.int .i64 r) ∧ Below (wr.alloc (.cells #[.bool b7, .slice a7 n7 c7, .bool false, .slice (some ⟨g7, 0, none⟩) 1 d7] 54)).heap.size (wr.alloc (.cells #[.bool b7, .slice a7 n7 c7, .bool false, .slice (some ⟨g7, 0, none⟩) 1 d7] 54)) w') := by
        have h := rsign_any _ (q : Int) _ HZ7.out
        refine ⟨_, ?_, h⟩
        split
        · exact Int.le_refl _
        · rw [if_neg (by omega)]; decide
      obtain ⟨Y, hY⟩ : ∃ Y, Y = wr.heap.size := ⟨_, rfl⟩
      rw [← hY] at HY
      clear hz7 hzq
      go_upto_region 9 with fail
      rw [← hY]
      rw [← hY] at y0 y1 y2 y3
      clear e0 e1 e2 e3 hY
      generalize wr.alloc (.cells #[.bool b7, .slice a7 n7 c7, .bool false, .slice (some ⟨g7, 0, none⟩) 1 d7] 54) = w7 at *
      go_wp2_with fail
      go_at_call 17
      refine SG7.out.mono ?_
      rintro e w8 ⟨rfl, hb8⟩
      have HBr8 := hid (below_step HBr7.out hb8)
      have HY8 := hid (cells_box HY.out hb8)
      have FT := hid (fits_any _ q w8 (HZ7.out.below hb8) hq2)
      clear y0 y1 y2 y3 hb8 SG7
      obtain ⟨y0, y1, y2, y3⟩ := cells4_of HY8.out
      go_wp2_with fail
      go_at_call 32
      refine FT.out.mono ?_
      rintro e w9 ⟨rfl, hb9⟩
      have HBr9 := hid (below_step HBr8.out hb9)
      clear hb9 FT
      go_wp2_with fail
      go_roundw
      case rel => exact ⟨i + 1, by go_num, by omega, HBr9⟩
      case measure => simp [intOf]; omega
    · obtain rfl : i = m := by omega
      go_wp2_with fail
      go_ret2
      exact ⟨_, rfl, HL2.out.below HBr.out, below_step HB2.out HBr.out⟩
end Go.Proofs.YtlhmidecjiihcaaDoor
