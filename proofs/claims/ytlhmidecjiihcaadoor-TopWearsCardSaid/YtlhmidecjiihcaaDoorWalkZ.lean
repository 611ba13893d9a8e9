/-
  Renew (4) and Mean (5).
-/
import Derived.Test.YtlhmidecjiihcaaDoorWalkY
namespace Go.Proofs.YtlhmidecjiihcaaDoor
open Go.RowKit
/-- the renewals -/
def uf (m k : Nat) : Nat := if k % m = 0 then 1 else 0
def us (m n : Nat) : List Nat := (List.range n).map (uf m)
def uz (m n : Nat) : List Int := (us m n).map (fun k : Nat => (k : Int))
theorem uz_len (m n : Nat) : (uz m n).length = n := by unfold uz us; simp
theorem uz_at {m n i : Nat} (h : i < n) : (uz m n).getD i 0 = ((uf m i : Nat) : Int) := by
  unfold uz us
  rw [List.getD_eq_getElem?_getD, List.getElem?_map, List.getElem?_map, List.getElem?_range h]
  rfl
theorem uz_succ (m n : Nat) : uz m (n + 1) = uz m n ++ [((uf m n : Nat) : Int)] := by
  unfold uz us
  rw [List.range_succ, List.map_append, List.map_append]
  rfl
theorem uf_lt (m k : Nat) : uf m k < 2 := by unfold uf; split <;> decide
theorem uz_rev {m n j : Nat} (h : j < n) : (uz m n).reverse.getD j 0 = ((uf m (n - 1 - j) : Nat) : Int) := by
  rw [rev_getD _ _ (by rw [uz_len]; exact h), uz_len, uz_at (by omega)]
theorem ps_dot {m : Nat} (h : 1 ≤ m) (R : List Int) : ∀ t, psum 0 (fun j => (lz m).getD j 0 * R.getD j 0) t = if m ≤ t then R.getD (m - 1) 0 else 0
  | 0 => by rw [if_neg (by omega)]; rfl
  | i + 1 => by
    show psum 0 _ i + (lz m).getD i 0 * R.getD i 0 = _
    rw [ps_dot h R i, lz_at h]
    by_cases h1 : m ≤ i
    · rw [if_pos h1, if_neg (by omega), if_pos (by omega)]; omega
    · rw [if_neg h1]
      by_cases h2 : i + 1 = m
      · rw [if_pos h2, if_pos (by omega), show m - 1 = i by omega]; omega
      · rw [if_neg h2, if_neg (by omega)]; omega
theorem renew_step {m : Nat} (h : 1 ≤ m) (n : Nat) (h1 : 1 ≤ n) : psum 0 (fun j => (lz m).getD j 0 * (uz m n).reverse.getD j 0) (min m n) = ((uf m n : Nat) : Int) := by
  rw [ps_dot h]
  by_cases hm : m ≤ n
  · rw [if_pos (by omega), uz_rev (by omega), show n - 1 - (m - 1) = n - m by omega]
    have e : uf m (n - m) = uf m n := by
      unfold uf
      rw [← Nat.mod_eq_sub_mod hm]
    rw [e]
  · rw [if_neg (by omega)]
    unfold uf
    rw [Nat.mod_eq_of_lt (by omega), if_neg (by omega)]
    rfl
theorem RatL.made1 {w : World} {B : Nat} {b : Bool} {a : Option Addr} {n c g d : Nat} {z : Int} (h : RatZ w (.agg #[.bool b, .slice a n c, .bool false, .slice (some ⟨g, 0, none⟩) 1 d]) z) (hB : B ≤ w.heap.size) :
    RatL (w.alloc (.cells #[.bool b, .slice a n c, .bool false, .slice (some ⟨g, 0, none⟩) 1 d] 54)) B (.slice (some ⟨w.heap.size, 0, none⟩) 1 1) [z] := by
  refine ⟨[[.bool b, .slice a n c, .bool false, .slice (some ⟨g, 0, none⟩) 1 d]], ⟨fun r hr => by simp at hr; rw [hr]; rfl, by simp, .inr ⟨w.heap.size, 1, _, rfl, hB, heap_alloc_new _ _, Nat.le_refl _, by decide, by simp, by simp⟩⟩, rfl, (fun e => by cases e), fun i hi => ?_⟩
  obtain rfl : i = 0 := by simpa using hi
  exact ⟨b, a, n, c, g, d, rfl, h.below (ba _ _)⟩
set_option maxRecDepth 100000 in
set_option maxHeartbeats 4000000 in
theorem renew_lv (m k : Nat) (v : Value) (w : World) (hm : 1 ≤ m) (hm2 : m ≤ 12) (hk : k ≤ 40) (hv : IsV w v ((lv m).map sd)) :
    Calls Tryd.prog 4 #[v, .int .i64 (k : Int)] w fun e w' => ∃ x, e = .returned (.tuple #[x, .int .i64 0]) ∧ OwnV w' w.heap.size 23 x ((us m (k + 1)).map sd) ∧ Below w.heap.size w w' := by
  have RC := hid (read_lv m v w hm hm2 hv)
  have HLen := hid (lz_len hm)
  obtain ⟨sv, kv, rfl⟩ := isV_slice hv
  rw [List.length_map, lv_len hm] at RC ⊢
  clear hv
  go_enter Tryd.func4, Tryd.ntmps4
  go_wp2_with fail
  go_at_call 12
  refine RC.out.mono ?_
  rintro e w2 ⟨x2, rfl, hl2, hb2⟩
  have HB2 := hid hb2
  have HP : Hid (∀ w', Below w2.heap.size w2 w' → RatR w' x2 (lz m)) := fun w' h => (hl2.R (by rw [lz_len hm]; omega)).below h
  obtain ⟨s2, n2, k2, rfl⟩ := hl2.sh3
  clear hl2 hb2 RC
  go_wp2_with fail
  go_at_call 13
  refine (whole_any 1 1 w2 rfl (by decide)).mono ?_
  rintro e w3 ⟨x3, rfl, hz3, hb3⟩
  have HB3 := hid hb3
  have HZ3 : Hid (RatZ w3 x3 ((1 : Nat) : Int)) := hz3
  obtain ⟨a3, n3, c3, g3, d3, rfl, _, _⟩ := hz3
  obtain ⟨b3, hb3e⟩ : ∃ b3 : Bool, b3 = decide (((1 : Nat) : Int) < 0) := ⟨_, rfl⟩
  rw [← hb3e] at HZ3 ⊢
  have HB4 := hid (below_step HB3.out (ba w3 (.cells #[.bool b3, .slice a3 n3 c3, .bool false, .slice (some ⟨g3, 0, none⟩) 1 d3] 54)))
  have HU4 : Hid (RatL (w3.alloc (.cells #[.bool b3, .slice a3 n3 c3, .bool false, .slice (some ⟨g3, 0, none⟩) 1 d3] 54)) w2.heap.size (.slice (some ⟨w3.heap.size, 0, none⟩) 1 1) (uz m 1)) := by
    have e : uz m 1 = [((1 : Nat) : Int)] := by
      show [((uf m 0 : Nat) : Int)] = _
      unfold uf
      rw [Nat.zero_mod, if_pos rfl]
    rw [e]
    exact RatL.made1 HZ3.out HB3.out.size
  obtain ⟨U, hU⟩ : ∃ U, U = w3.heap.size := ⟨_, rfl⟩
  rw [← hU] at HU4
  clear hb3 hb3e
  go_upto_region 7 with fail
  rw [← hU]
  clear hU
  generalize w3.alloc (.cells #[.bool b3, .slice a3 n3 c3, .bool false, .slice (some ⟨g3, 0, none⟩) 1 d3] 54) = w4 at *
  go_wp2_with fail
  go_loopw [8, 28] (fun uv iv wr => ∃ i : Nat, iv = .int .i64 i ∧ i ≤ k ∧ Hid (Below w2.heap.size w2 wr) ∧ (∃ s l k, uv = .slice s l k) ∧ Hid (RatL wr w2.heap.size uv (uz m (i + 1)))) (fun _ iv _ => k - (intOf iv).toNat)
  case atStart => exact ⟨0, rfl, Nat.zero_le _, HB4, ⟨_, _, _, rfl⟩, HU4⟩
  case round =>
    obtain ⟨i, rfl, hi, HBr, ⟨os, ol, ok, rfl⟩, HOr⟩ := hrel
    by_cases hlt : i < k
    · go_wp2_with fail
      go_at_call 13
      refine (whole_any 0 0 wr rfl (by decide)).mono ?_
      rintro e w5 ⟨x5, rfl, hz5, hb5⟩
      have HBr5 := hid (below_step HBr.out hb5)
      have HZ5 : Hid (RatZ w5 x5 0) := hz5
      have HO5 := hid (HOr.out.below hb5)
      have TC := hid (turned_any _ (uz m (i + 1)) w5 (HO5.out.R (by rw [uz_len]; omega)))
      obtain ⟨a5, n5, c5, g5, d5, rfl, _, _⟩ := hz5
      obtain ⟨b5, hb5e⟩ : ∃ b5 : Bool, b5 = decide (((0 : Nat) : Int) < 0) := ⟨_, rfl⟩
      rw [← hb5e] at HZ5 ⊢
      clear hb5 hb5e
      go_wp2_with fail
      go_at_call 15
      refine TC.out.mono ?_
      rintro e w6 ⟨x6, rfl, hl6, hb6⟩
      have HBr6 := hid (below_step HBr5.out hb6)
      have HO6 := hid (HO5.out.below hb6)
      have DC : Hid (Calls Tryd.prog 14 #[.agg #[.bool b5, .slice a5 n5 c5, .bool false, .slice (some ⟨g5, 0, none⟩) 1 d5], .slice s2 n2 k2, x6] w6 fun e w'' => ∃ x, e = .returned x ∧ RatZ w'' x ((uf m (i + 1) : Nat) : Int) ∧ Below w6.heap.size w6 w'') := by
        have hlen : (uz m (i + 1)).reverse.length = i + 1 := by rw [List.length_reverse, uz_len]
        have h := dot_any (.agg #[.bool b5, .slice a5 n5 c5, .bool false, .slice (some ⟨g5, 0, none⟩) 1 d5]) (.slice s2 n2 k2) x6 0 (lz m) (uz m (i + 1)).reverse w6 (HZ5.out.below hb6) (HP.out w6 HBr6.out) (hl6.R (by rw [hlen]; omega)) (min m (i + 1)) (by rw [HLen.out, hlen])
          (fun t ht => by
            rw [ps_dot hm]
            split
            · rw [uz_rev (by omega)]; have := uf_lt m (i + 1 - 1 - (m - 1)); omega
            · decide)
          (fun t ht => by
            rw [lz_at hm, uz_rev (by omega)]
            have := uf_lt m (i + 1 - 1 - t)
            split
            · rw [show (1 : Int).natAbs = 1 from rfl, Nat.one_mul]; omega
            · rw [show (0 : Int).natAbs = 0 from rfl, Nat.zero_mul]; decide)
        rwa [renew_step hm (i + 1) (by omega)] at h
      obtain ⟨s6, n6, k6, rfl⟩ := hl6.sh3
      clear hl6 hb6 TC
      go_wp2_with fail
      go_at_call 14
      refine DC.out.mono ?_
      rintro e w7 ⟨x7, rfl, hz7, hb7⟩
      have HBr7 := hid (below_step HBr6.out hb7)
      have HO7 := hid (HO6.out.below hb7)
      have HZ7 : Hid (RatZ w7 x7 ((uf m (i + 1) : Nat) : Int)) := hz7
      obtain ⟨a7, n7, c7, g7, d7, rfl, _, _⟩ := hz7
      obtain ⟨b7, hb7e⟩ : ∃ b7 : Bool, b7 = decide (((uf m (i + 1) : Nat) : Int) < 0) := ⟨_, rfl⟩
      rw [← hb7e] at HZ7 ⊢
      have HLn : Hid ((uz m (i + 1)).length < 1000) := by show _ < _; rw [uz_len]; omega
      have HSZ : Hid (w2.heap.size ≤ w7.heap.size) := HBr7.out.size
      clear hb7 hb7e DC HZ5
      go_wp2_with (first
        | (at_builtin; refine wpl_app_r b7 a7 n7 c7 g7 d7 ((uf m (i + 1) : Nat) : Int) _ _ (.slice os ol ok) w2.heap.size (uz m (i + 1)) (by rfl) (by rfl) (by rfl) (by rfl) HO7.out HZ7.out HLn.out HSZ.out ?_; intro v' w8 HO8 HB8 _ _; obtain ⟨sa, sn, sc, rfl⟩ := HO8.out.sh3)
        | fail)
      go_roundw
      case rel =>
        refine ⟨i + 1, by go_num, by omega, HBr7.out.trans HB8.out, ⟨_, _, _, rfl⟩, ?_⟩
        show RatL _ _ _ _
        rw [uz_succ]
        exact HO8.out
      case measure => simp [intOf]; omega
    · obtain rfl : i = k := by omega
      have TD := hid (told_any _ (us m (i + 1)) wr (HOr.out.R (by rw [uz_len]; omega)) (fun q hq => by
        unfold us at hq
        obtain ⟨j, _, rfl⟩ := List.mem_map.1 hq
        have := uf_lt m j
        omega))
      go_wp2_with fail
      go_at_call 16
      refine TD.out.mono ?_
      rintro e w9 ⟨x9, rfl, ho9, hb9⟩
      have HO9 := hid ho9
      have HB9 := hid (below_step HB2.out (below_step HBr.out hb9))
      have HSZ : Hid (w.heap.size ≤ wr.heap.size) := hid (Nat.le_trans HB2.out.size HBr.out.size)
      obtain ⟨s9, n9, k9, rfl⟩ := ownV_sh ho9
      clear ho9 hb9
      go_wp2_with fail
      go_ret2
      exact ⟨_, rfl, ownV_mono HO9.out HSZ.out, HB9.out⟩
set_option maxRecDepth 100000 in
set_option maxHeartbeats 4000000 in
theorem mean_lv (m : Nat) (v : Value) (w : World) (hm : 1 ≤ m) (hm2 : m ≤ 12) (hv : IsV w v ((lv m).map sd)) :
    Calls Tryd.prog 5 #[v] w fun e w' => e = .returned (.tuple #[sd m, .int .i64 (m : Int), .int .i64 0]) ∧ Below w.heap.size w w' := by
  have RC := hid (read_lv m v w hm hm2 hv)
  have HLen := hid (lz_len hm)
  obtain ⟨sv, kv, rfl⟩ := isV_slice hv
  rw [List.length_map, lv_len hm] at RC ⊢
  clear hv
  go_enter Tryd.func5, Tryd.ntmps5
  go_wp2_with fail
  go_at_call 12
  refine RC.out.mono ?_
  rintro e w2 ⟨x2, rfl, hl2, hb2⟩
  have HB2 := hid hb2
  have HP0 : Hid (∀ w', Below w2.heap.size w2 w' → RatR w' x2 (lz m)) := fun w' h => (hl2.R (by rw [lz_len hm]; omega)).below h
  obtain ⟨s2, k2, rfl⟩ := RatL.sh (zs := lz m) hl2
  have HP : Hid (∀ w', Below w2.heap.size w2 w' → RatR w' (.slice s2 m k2) (lz m)) := by
    have h := HP0
    rw [HLen.out] at h
    exact h
  rw [HLen.out]
  clear hl2 hb2 RC HP0
  go_wp2_with fail
  go_loopw [7, 22] (fun gv iv wr => ∃ i : Nat, ∃ g : Nat, iv = .int .i64 i ∧ gv = .int .i64 (g : Int) ∧ i ≤ m ∧ Hid (g = if i = m then m else 0) ∧ Hid (Below w2.heap.size w2 wr)) (fun _ iv _ => m - (intOf iv).toNat)
  case atStart => exact ⟨0, 0, rfl, rfl, Nat.zero_le _, by show _ = _; rw [if_neg (by omega)], Below.refl _ _⟩
  case round =>
    obtain ⟨i, g, rfl, rfl, hi, HG, HBr⟩ := hrel
    by_cases hlt : i < m
    · obtain rfl : g = 0 := by have h := HG.out; rwa [if_neg (by omega)] at h
      obtain ⟨G', b7, a7, n7, c7, g7, d7, rfl, e0, e1, e2, e3, hz7⟩ := (HP.out wr HBr.out).at i (by rw [HLen.out]; exact hlt)
      rw [lz_at hm] at hz7
      have HB7 := hid (ba wr (.cells #[.bool b7, .slice a7 n7 c7, .bool false, .slice (some ⟨g7, 0, none⟩) 1 d7] 54))
      obtain ⟨y0, y1, y2, y3⟩ := cells4_of (heap_alloc_new wr (.cells #[.bool b7, .slice a7 n7 c7, .bool false, .slice (some ⟨g7, 0, none⟩) 1 d7] 54))
      have HBr7 := hid (below_step HBr.out HB7.out)
      have HZ7 := hid (hz7.below HB7.out)
      clear hz7 HG
      by_cases hlast : i + 1 = m
      · have SG7 : Hid (Calls Tryd.prog 17 #[.agg #[.bool b7, .slice a7 n7 c7, .bool false, .slice (some ⟨g7, 0, none⟩) 1 d7]] (wr.alloc (.cells #[.bool b7, .slice a7 n7 c7, .bool false, .slice (some ⟨g7, 0, none⟩) 1 d7] 54)) fun e w' => e = .returned (.int .i64 1) ∧ Below (wr.alloc (.cells #[.bool b7, .slice a7 n7 c7, .bool false, .slice (some ⟨g7, 0, none⟩) 1 d7] 54)).heap.size (wr.alloc (.cells #[.bool b7, .slice a7 n7 c7, .bool false, .slice (some ⟨g7, 0, none⟩) 1 d7] 54)) w') := by
          have h := HZ7.out
          rw [if_pos hlast] at h
          have h := rsign_any _ 1 _ h
          rw [if_neg (by decide), if_neg (by decide)] at h
          exact h
        go_upto_region 8 with fail
        clear e0 e1 e2 e3
        generalize wr.alloc (.cells #[.bool b7, .slice a7 n7 c7, .bool false, .slice (some ⟨g7, 0, none⟩) 1 d7] 54) = w7 at *
        go_wp2_with fail
        go_at_call 17
        refine SG7.out.mono ?_
        rintro e w8 ⟨rfl, hb8⟩
        have HBr8 := hid (below_step HBr7.out hb8)
        clear y0 y1 y2 y3 hb8 SG7
        have hi1 : (i : Int) + 1 = (m : Int) := by omega
        have HL2 := hid hlast
        have hmne : (m : Int) ≠ 0 := by omega
        have hmz : ((m : Int) == 0) = false := by simp; omega
        clear hlast
        go_wp2_with fail
        go_loopw [7, 10] (fun gv av wq => Hid (Below w2.heap.size w2 wq) ∧ ((gv = .int .i64 0 ∧ av = .int .i64 (m : Int)) ∨ (gv = .int .i64 (m : Int) ∧ av = .int .i64 0))) (fun _ av _ => (intOf av).toNat)
        case atStart => exact ⟨HBr8, .inl ⟨by rfl, by rfl⟩⟩
        case round =>
          obtain ⟨HBq, hrel⟩ := hrel
          rcases hrel with ⟨rfl, rfl⟩ | ⟨rfl, rfl⟩
          · go_wp2_with fail
            go_region
            go_roundw
            case rel => exact ⟨_, _, _, _, _, _, _, _, ⟨HBq.out.drew, .inr ⟨rfl, rfl⟩⟩, rfl⟩
            case measure => simp [intOf]; omega
          · go_wp2_with fail
            exact ⟨⟨m, m, rfl, rfl, Nat.le_refl _, by show _ = _; rw [if_pos rfl], HBq⟩, by simp [intOf]; omega⟩
      · have SG7 : Hid (Calls Tryd.prog 17 #[.agg #[.bool b7, .slice a7 n7 c7, .bool false, .slice (some ⟨g7, 0, none⟩) 1 d7]] (wr.alloc (.cells #[.bool b7, .slice a7 n7 c7, .bool false, .slice (some ⟨g7, 0, none⟩) 1 d7] 54)) fun e w' => e = .returned (.int .i64 0) ∧ Below (wr.alloc (.cells #[.bool b7, .slice a7 n7 c7, .bool false, .slice (some ⟨g7, 0, none⟩) 1 d7] 54)).heap.size (wr.alloc (.cells #[.bool b7, .slice a7 n7 c7, .bool false, .slice (some ⟨g7, 0, none⟩) 1 d7] 54)) w') := by
          have h := HZ7.out
          rw [if_neg hlast] at h
          have h := rsign_any _ 0 _ h
          rw [if_pos rfl] at h
          exact h
        go_upto_region 8 with fail
        clear e0 e1 e2 e3
        generalize wr.alloc (.cells #[.bool b7, .slice a7 n7 c7, .bool false, .slice (some ⟨g7, 0, none⟩) 1 d7] 54) = w7 at *
        go_wp2_with fail
        go_at_call 17
        refine SG7.out.mono ?_
        rintro e w8 ⟨rfl, hb8⟩
        have HBr8 := hid (below_step HBr7.out hb8)
        have HL2 := hid hlast
        clear y0 y1 y2 y3 hb8 SG7 hlast
        go_wp2_with fail
        go_roundw
        case rel => exact ⟨i + 1, 0, by go_num, rfl, by omega, by show _ = _; rw [if_neg HL2.out], HBr8⟩
        case measure => simp [intOf]; omega
    · obtain rfl : i = m := by omega
      obtain rfl : g = i := by have h := HG.out; rwa [if_pos rfl] at h
      rename World => wr
      have MC : Hid (Calls Tryd.prog 18 #[.slice s2 g k2] wr fun e w' => ∃ x, e = .returned x ∧ RatZ w' x (g : Int) ∧ Below wr.heap.size wr w') := by
        have h := mean_any _ (lz g) wr (HP.out wr HBr.out) (fun i _ => by rw [ps_left hm]; split <;> decide) (fun i _ => by rw [lz_at hm]; split <;> decide) (fun i hi => by rw [ps_mean hm i (by rw [lz_len hm] at hi; exact hi)]; rw [lz_len hm] at hi; omega)
        rw [lz_len hm] at h
        have e := ps_mean hm g (Nat.le_refl _)
        rw [lz_len hm] at e
        rwa [e] at h
      go_wp2_with fail
      go_at_call 18
      refine MC.out.mono ?_
      rintro e w8 ⟨x8, rfl, hz8, hb8⟩
      have HBr8 := hid (below_step HBr.out hb8)
      have NC := hid (rnum_any _ g w8 hz8 (by omega))
      obtain ⟨a8, n8, c8, g8, d8, rfl, _, _⟩ := hz8
      obtain ⟨sq, hsq⟩ : ∃ b, b = (⟨(dec g).toArray⟩ : ByteArray) := ⟨_, rfl⟩
      have HSD : Hid (sd g = .string sq) := by rw [hsq]; exact hid rfl
      rw [← hsq] at NC
      clear hb8 MC hsq
      go_wp2_with fail
      go_at_call 19
      refine NC.out.mono ?_
      rintro e w9 ⟨rfl, hb9⟩
      have HBr9 := hid (below_step HBr8.out hb9)
      clear hb9 NC
      go_wp2_with fail
      go_ret3
      exact ⟨by rw [HSD.out]; rfl, below_step HB2.out HBr9.out⟩
end Go.Proofs.YtlhmidecjiihcaaDoor
