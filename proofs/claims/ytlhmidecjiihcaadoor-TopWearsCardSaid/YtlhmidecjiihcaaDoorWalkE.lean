/-
  Sizes are subtracted (82), multiplied (64).
-/
import Derived.Test.YtlhmidecjiihcaaDoorWalkD
namespace Go.Proofs.YtlhmidecjiihcaaDoor
open Go.RowKit
set_option maxRecDepth 100000 in
set_option maxHeartbeats 2000000 in
theorem minus_any (u v : Value) (a b : Nat) (w : World) (hu : Lb w u a) (hv : Lb w v b) (hab : b ≤ a) (ha : a < 2147483648) :
    Calls Tryd.prog 82 #[u, v] w fun e w' => ∃ x, e = .returned x ∧ Lb w' x (a - b) ∧ Below w.heap.size w w' := by
  by_cases a0 : a = 0
  · have b0 : b = 0 := by omega
    obtain ⟨p1, c1, rfl⟩ := (show Lb w _ 0 from a0 ▸ hu).z
    obtain ⟨p2, c2, rfl⟩ := (show Lb w _ 0 from b0 ▸ hv).z
    clear hu hv
    have mk := mk0 w
    go_enter Tryd.func82, Tryd.ntmps82
    go_upto_region 3 with fail
    obtain ⟨O, w1, hw1, hO, HO1, HB1, HOW⟩ := new_out w [] (by decide)
    have HO1 : Hid (OwnV w1 w.heap.size 94 (.slice (some ⟨O, 0, none⟩) 0 0) (([] : List Nat).map u4)) := HO1
    have hw2 : w.alloc (.cells (#[] : Array Value) 94) = w1 := hw1
    rw [hw2, ← hO]
    clear hw1 hw2 hO mk
    go_wp2_with fail
    go_loopw [6, 14] (fun cv iv wr => cv = .int .u32 0 ∧ iv = .int .i64 0 ∧ wr = w1) (fun _ _ _ => 0)
    case atStart => exact ⟨rfl, rfl, rfl⟩
    case round =>
      obtain ⟨rfl, rfl, rfl⟩ := hrel
      rename World => wr
      go_wp2_with (first | (go_at_call 48; refine (trim_own _ _ _ _ (0) [] _ HO1.out (by decide) rfl (fun j hj => by rcases j with _ | _ | j <;> first | exact absurd hj (by decide) | rfl) (by simp)).mono ?_; rintro e w9 ⟨v9, rfl, hl9, hw9⟩; rw [hw9]; have HL9 := hid hl9; clear hl9 hw9) | fail)
      go_ret
      exact ⟨v9, by rfl, by rw [a0, b0]; exact HL9.out, HB1.out⟩
  · by_cases b0 : b = 0
    · obtain ⟨g1, c1, rfl, hc1, hm1, k1⟩ := hu.p a0
      have K1 : Hid (∀ w', Below w.heap.size w w' → w'.cell? ⟨g1, 0, none⟩ = some (.int .u32 (a : Int))) := fun w' hb => (hb.cell (World.block_lt_of_cell? w _ k1)).trans k1
      obtain ⟨p2, c2, rfl⟩ := (show Lb w _ 0 from b0 ▸ hv).z
      clear hu hv k1
      have mk := mk1 w
      go_enter Tryd.func82, Tryd.ntmps82
      go_upto_region 3 with fail
      obtain ⟨O, w1, hw1, hO, HO1, HB1, HOW⟩ := new_out w [0] (by decide)
      have HO1 : Hid (OwnV w1 w.heap.size 94 (.slice (some ⟨O, 0, none⟩) 1 1) (([0] : List Nat).map u4)) := HO1
      have hw2 : w.alloc (.cells #[.int .u32 0] 94) = w1 := hw1
      rw [hw2, ← hO]
      clear hw1 hw2 hO mk
      go_wp2_with fail
      have AD : Hid (∀ w', Calls Tryd.prog 93 #[.int .u32 (a : Int), .int .u32 0, .int .u32 0] w' fun e w'' => e = .returned (.tuple #[.int .u32 ((a - 0 : Nat) : Int), .int .u32 0]) ∧ w'' = w') := fun w' => sub32_any a 0 w' (by omega) ha
      obtain ⟨r, hr0⟩ : ∃ r, r = a - 0 := ⟨_, rfl⟩
      rw [← hr0] at AD
      have hrr : r < 2147483648 := by omega
      have HRE : Hid (a - b = r) := by show _ = _; omega
      clear hr0
      go_loopw [6, 14] (fun cv iv wr => cv = .int .u32 0 ∧ Hid (Below w.heap.size w wr) ∧ ((iv = .int .i64 0 ∧ Hid (OwnV wr w.heap.size 94 (.slice (some ⟨O, 0, none⟩) 1 1) (([0] : List Nat).map u4))) ∨ (iv = .int .i64 1 ∧ Hid (OwnV wr w.heap.size 94 (.slice (some ⟨O, 0, none⟩) 1 1) (([r] : List Nat).map u4))))) (fun _ iv _ => 1 - (intOf iv).toNat)
      case atStart => exact ⟨rfl, HB1, .inl ⟨rfl, HO1⟩⟩
      case round =>
        obtain ⟨rfl, HBr, hr⟩ := hrel
        rename World => wr
        rcases hr with ⟨rfl, HOr⟩ | ⟨rfl, HOr⟩
        · have q0 := own_get HOr.out 0 (by simp)
          have f0 := ownV_frozen HOr.out 0
          have k1 := K1.out wr HBr.out
          have HP := hid (own_put HOr.out 0 r)
          go_wp2_with (first | (go_at_call 93; refine (AD.out _).mono ?_; rintro e w3 ⟨rfl, rfl⟩) | fail)
          go_roundw
          case rel => exact ⟨rfl, out_below (B := 0) HBr.out HP.out.2 HOW.out, .inr ⟨rfl, HP.out.1⟩⟩
          case measure => simp [intOf]
        · go_wp2_with (first | (go_at_call 48; refine (trim_own _ _ _ _ (r) [r] _ HOr.out (by omega) rfl (fun j hj => by rcases j with _ | _ | j <;> first | exact absurd hj (by decide) | rfl) (by simp)).mono ?_; rintro e w9 ⟨v9, rfl, hl9, hw9⟩; rw [hw9]; have HL9 := hid hl9; clear hl9 hw9) | fail)
          go_ret
          exact ⟨v9, by rfl, by rw [HRE.out]; exact HL9.out, HBr.out⟩
    · obtain ⟨g1, c1, rfl, hc1, hm1, k1⟩ := hu.p a0
      have K1 : Hid (∀ w', Below w.heap.size w w' → w'.cell? ⟨g1, 0, none⟩ = some (.int .u32 (a : Int))) := fun w' hb => (hb.cell (World.block_lt_of_cell? w _ k1)).trans k1
      obtain ⟨g2, c2, rfl, hc2, hm2, k2⟩ := hv.p b0
      have K2 : Hid (∀ w', Below w.heap.size w w' → w'.cell? ⟨g2, 0, none⟩ = some (.int .u32 (b : Int))) := fun w' hb => (hb.cell (World.block_lt_of_cell? w _ k2)).trans k2
      clear hu hv k1 k2
      have mk := mk1 w
      go_enter Tryd.func82, Tryd.ntmps82
      go_upto_region 3 with fail
      obtain ⟨O, w1, hw1, hO, HO1, HB1, HOW⟩ := new_out w [0] (by decide)
      have HO1 : Hid (OwnV w1 w.heap.size 94 (.slice (some ⟨O, 0, none⟩) 1 1) (([0] : List Nat).map u4)) := HO1
      have hw2 : w.alloc (.cells #[.int .u32 0] 94) = w1 := hw1
      rw [hw2, ← hO]
      clear hw1 hw2 hO mk
      go_wp2_with fail
      have AD : Hid (∀ w', Calls Tryd.prog 93 #[.int .u32 (a : Int), .int .u32 (b : Int), .int .u32 0] w' fun e w'' => e = .returned (.tuple #[.int .u32 ((a - b : Nat) : Int), .int .u32 0]) ∧ w'' = w') := fun w' => sub32_any a b w' (by omega) ha
      obtain ⟨r, hr0⟩ : ∃ r, r = a - b := ⟨_, rfl⟩
      rw [← hr0] at AD
      have hrr : r < 2147483648 := by omega
      have HRE : Hid (a - b = r) := by show _ = _; omega
      clear hr0
      go_loopw [6, 14] (fun cv iv wr => cv = .int .u32 0 ∧ Hid (Below w.heap.size w wr) ∧ ((iv = .int .i64 0 ∧ Hid (OwnV wr w.heap.size 94 (.slice (some ⟨O, 0, none⟩) 1 1) (([0] : List Nat).map u4))) ∨ (iv = .int .i64 1 ∧ Hid (OwnV wr w.heap.size 94 (.slice (some ⟨O, 0, none⟩) 1 1) (([r] : List Nat).map u4))))) (fun _ iv _ => 1 - (intOf iv).toNat)
      case atStart => exact ⟨rfl, HB1, .inl ⟨rfl, HO1⟩⟩
      case round =>
        obtain ⟨rfl, HBr, hr⟩ := hrel
        rename World => wr
        rcases hr with ⟨rfl, HOr⟩ | ⟨rfl, HOr⟩
        · have q0 := own_get HOr.out 0 (by simp)
          have f0 := ownV_frozen HOr.out 0
          have k1 := K1.out wr HBr.out
          have k2 := K2.out wr HBr.out
          have HP := hid (own_put HOr.out 0 r)
          go_wp2_with (first | (go_at_call 93; refine (AD.out _).mono ?_; rintro e w3 ⟨rfl, rfl⟩) | fail)
          go_roundw
          case rel => exact ⟨rfl, out_below (B := 0) HBr.out HP.out.2 HOW.out, .inr ⟨rfl, HP.out.1⟩⟩
          case measure => simp [intOf]
        · go_wp2_with (first | (go_at_call 48; refine (trim_own _ _ _ _ (r) [r] _ HOr.out (by omega) rfl (fun j hj => by rcases j with _ | _ | j <;> first | exact absurd hj (by decide) | rfl) (by simp)).mono ?_; rintro e w9 ⟨v9, rfl, hl9, hw9⟩; rw [hw9]; have HL9 := hid hl9; clear hl9 hw9) | fail)
          go_ret
          exact ⟨v9, by rfl, by rw [HRE.out]; exact HL9.out, HBr.out⟩
set_option maxRecDepth 100000 in
set_option maxHeartbeats 2000000 in
theorem times_any (u v : Value) (a b : Nat) (w : World) (hu : Lb w u a) (hv : Lb w v b) (hab : a * b < 4294967296) :
    Calls Tryd.prog 64 #[u, v] w fun e w' => ∃ x, e = .returned x ∧ Lb w' x (a * b) ∧ Below w.heap.size w w' := by
  by_cases a0 : a = 0
  · by_cases b0 : b = 0
    · obtain ⟨p1, c1, rfl⟩ := (show Lb w _ 0 from a0 ▸ hu).z
      obtain ⟨p2, c2, rfl⟩ := (show Lb w _ 0 from b0 ▸ hv).z
      clear hu hv
      have mk := mk0 w
      go_enter Tryd.func64, Tryd.ntmps64
      go_upto_region 2 with fail
      obtain ⟨O, w1, hw1, hO, HO1, HB1, HOW⟩ := new_out w [] (by decide)
      have HO1 : Hid (OwnV w1 w.heap.size 94 (.slice (some ⟨O, 0, none⟩) 0 0) (([] : List Nat).map u4)) := HO1
      have hw2 : w.alloc (.cells (#[] : Array Value) 94) = w1 := hw1
      rw [hw2, ← hO]
      clear hw1 hw2 hO mk
      go_wp2_with fail
      go_loopw [20] (fun iv wr => iv = .int .i64 0 ∧ wr = w1) (fun _ _ => 0)
      case atStart => exact ⟨rfl, rfl⟩
      case round =>
        obtain ⟨rfl, rfl⟩ := hrel
        rename World => wr
        go_wp2_with (first | (go_at_call 48; refine (trim_own _ _ _ _ (0) [] _ HO1.out (by decide) rfl (fun j hj => by rcases j with _ | _ | j <;> first | exact absurd hj (by decide) | rfl) (by simp)).mono ?_; rintro e w9 ⟨v9, rfl, hl9, hw9⟩; rw [hw9]; have HL9 := hid hl9; clear hl9 hw9) | fail)
        go_ret
        exact ⟨v9, by rfl, by rw [a0, Nat.zero_mul]; exact HL9.out, HB1.out⟩
    · obtain ⟨p1, c1, rfl⟩ := (show Lb w _ 0 from a0 ▸ hu).z
      obtain ⟨g2, c2, rfl, hc2, hm2, k2⟩ := hv.p b0
      have K2 : Hid (∀ w', Below w.heap.size w w' → w'.cell? ⟨g2, 0, none⟩ = some (.int .u32 (b : Int))) := fun w' hb => (hb.cell (World.block_lt_of_cell? w _ k2)).trans k2
      clear hu hv k2
      have mk := mk1 w
      go_enter Tryd.func64, Tryd.ntmps64
      go_upto_region 2 with fail
      obtain ⟨O, w1, hw1, hO, HO1, HB1, HOW⟩ := new_out w [0] (by decide)
      have HO1 : Hid (OwnV w1 w.heap.size 94 (.slice (some ⟨O, 0, none⟩) 1 1) (([0] : List Nat).map u4)) := HO1
      have hw2 : w.alloc (.cells #[.int .u32 0] 94) = w1 := hw1
      rw [hw2, ← hO]
      clear hw1 hw2 hO mk
      go_wp2_with fail
      go_loopw [20] (fun iv wr => iv = .int .i64 0 ∧ wr = w1) (fun _ _ => 0)
      case atStart => exact ⟨rfl, rfl⟩
      case round =>
        obtain ⟨rfl, rfl⟩ := hrel
        rename World => wr
        go_wp2_with (first | (go_at_call 48; refine (trim_own _ _ _ _ (0) [0] _ HO1.out (by decide) rfl (fun j hj => by rcases j with _ | _ | j <;> first | exact absurd hj (by decide) | rfl) (by simp)).mono ?_; rintro e w9 ⟨v9, rfl, hl9, hw9⟩; rw [hw9]; have HL9 := hid hl9; clear hl9 hw9) | fail)
        go_ret
        exact ⟨v9, by rfl, by rw [a0, Nat.zero_mul]; exact HL9.out, HB1.out⟩
  · by_cases b0 : b = 0
    · obtain ⟨g1, c1, rfl, hc1, hm1, k1⟩ := hu.p a0
      have K1 : Hid (∀ w', Below w.heap.size w w' → w'.cell? ⟨g1, 0, none⟩ = some (.int .u32 (a : Int))) := fun w' hb => (hb.cell (World.block_lt_of_cell? w _ k1)).trans k1
      obtain ⟨p2, c2, rfl⟩ := (show Lb w _ 0 from b0 ▸ hv).z
      clear hu hv k1
      have mk := mk1 w
      go_enter Tryd.func64, Tryd.ntmps64
      go_upto_region 2 with fail
      obtain ⟨O, w1, hw1, hO, HO1, HB1, HOW⟩ := new_out w [0] (by decide)
      have HO1 : Hid (OwnV w1 w.heap.size 94 (.slice (some ⟨O, 0, none⟩) 1 1) (([0] : List Nat).map u4)) := HO1
      have hw2 : w.alloc (.cells #[.int .u32 0] 94) = w1 := hw1
      rw [hw2, ← hO]
      clear hw1 hw2 hO mk
      go_wp2_with fail
      go_loopw [20] (fun iv wr => Hid (Below w.heap.size w wr) ∧ (iv = .int .i64 0 ∨ iv = .int .i64 1) ∧ Hid (OwnV wr w.heap.size 94 (.slice (some ⟨O, 0, none⟩) 1 1) (([0] : List Nat).map u4))) (fun iv _ => 1 - (intOf iv).toNat)
      case atStart => exact ⟨HB1, .inl rfl, HO1⟩
      case round =>
        obtain ⟨HBr, hr, HOr⟩ := hrel
        rename World => wr
        rcases hr with rfl | rfl
        · have q0 := own_get HOr.out 0 (by simp)
          have f0 := ownV_frozen HOr.out 0
          have k1 := K1.out wr HBr.out
          have HP := hid (own_put HOr.out 0 0)
          go_wp2_with fail
          go_loopw [8, 27] (fun cv jv wk => cv = .int .u64 0 ∧ jv = .int .i64 0 ∧ wk = wr) (fun _ _ _ => 0)
          case atStart => exact ⟨rfl, rfl, rfl⟩
          case round =>
            obtain ⟨rfl, rfl, rfl⟩ := hrel
            rename World => wk
            go_wp2_with fail
            go_roundw
            case rel => exact ⟨out_below (B := 0) HBr.out HP.out.2 HOW.out, .inr rfl, HP.out.1⟩
            case measure => simp [intOf]
        · go_wp2_with (first | (go_at_call 48; refine (trim_own _ _ _ _ (0) [0] _ HOr.out (by decide) rfl (fun j hj => by rcases j with _ | _ | j <;> first | exact absurd hj (by decide) | rfl) (by simp)).mono ?_; rintro e w9 ⟨v9, rfl, hl9, hw9⟩; rw [hw9]; have HL9 := hid hl9; clear hl9 hw9) | fail)
          go_ret
          exact ⟨v9, by rfl, by rw [b0, Nat.mul_zero]; exact HL9.out, HBr.out⟩
    · obtain ⟨g1, c1, rfl, hc1, hm1, k1⟩ := hu.p a0
      have K1 : Hid (∀ w', Below w.heap.size w w' → w'.cell? ⟨g1, 0, none⟩ = some (.int .u32 (a : Int))) := fun w' hb => (hb.cell (World.block_lt_of_cell? w _ k1)).trans k1
      obtain ⟨g2, c2, rfl, hc2, hm2, k2⟩ := hv.p b0
      have K2 : Hid (∀ w', Below w.heap.size w w' → w'.cell? ⟨g2, 0, none⟩ = some (.int .u32 (b : Int))) := fun w' hb => (hb.cell (World.block_lt_of_cell? w _ k2)).trans k2
      clear hu hv k1 k2
      have mk := mk2 w
      go_enter Tryd.func64, Tryd.ntmps64
      go_upto_region 2 with fail
      obtain ⟨O, w1, hw1, hO, HO1, HB1, HOW⟩ := new_out w [0, 0] (by decide)
      have HO1 : Hid (OwnV w1 w.heap.size 94 (.slice (some ⟨O, 0, none⟩) 2 2) (([0, 0] : List Nat).map u4)) := HO1
      have hw2 : w.alloc (.cells #[.int .u32 0, .int .u32 0] 94) = w1 := hw1
      rw [hw2, ← hO]
      clear hw1 hw2 hO mk
      go_wp2_with fail
      obtain ⟨p, hp⟩ : ∃ p, p = a * b := ⟨_, rfl⟩
      have HPE := hid hp
      rw [← hp] at hab
      have hpm : (a : Int) * (b : Int) = (p : Int) := by rw [hp, Int.natCast_mul]
      have hpd : (p : Int) / 4294967296 = 0 := by omega
      have hpr : (p : Int) % 4294967296 = (p : Int) := by omega
      clear hp
      go_loopw [20] (fun iv wr => Hid (Below w.heap.size w wr) ∧ ((iv = .int .i64 0 ∧ Hid (OwnV wr w.heap.size 94 (.slice (some ⟨O, 0, none⟩) 2 2) (([0, 0] : List Nat).map u4))) ∨ (iv = .int .i64 1 ∧ Hid (OwnV wr w.heap.size 94 (.slice (some ⟨O, 0, none⟩) 2 2) (([p, 0] : List Nat).map u4))))) (fun iv _ => 1 - (intOf iv).toNat)
      case atStart => exact ⟨HB1, .inl ⟨rfl, HO1⟩⟩
      case round =>
        obtain ⟨HBr, hr⟩ := hrel
        rename World => wr
        rcases hr with ⟨rfl, HOr⟩ | ⟨rfl, HOr⟩
        · have k1 := K1.out wr HBr.out
          go_wp2_with fail
          clear k1
          go_loopw [8, 27] (fun cv jv wk => cv = .int .u64 0 ∧ Hid (Below w.heap.size w wk) ∧ ((jv = .int .i64 0 ∧ Hid (OwnV wk w.heap.size 94 (.slice (some ⟨O, 0, none⟩) 2 2) (([0, 0] : List Nat).map u4))) ∨ (jv = .int .i64 1 ∧ Hid (OwnV wk w.heap.size 94 (.slice (some ⟨O, 0, none⟩) 2 2) (([p, 0] : List Nat).map u4))))) (fun _ jv _ => 1 - (intOf jv).toNat)
          case atStart => exact ⟨rfl, HBr, .inl ⟨rfl, HOr⟩⟩
          case round =>
            obtain ⟨rfl, HBk, hr2⟩ := hrel
            rename World => wk
            rcases hr2 with ⟨rfl, HOk⟩ | ⟨rfl, HOk⟩
            · have q0 := own_get HOk.out 0 (by simp)
              have f0 := ownV_frozen HOk.out 0
              have k2 := K2.out wk HBk.out
              replace q0 : wk.cell? ⟨O, 0, none⟩ = some (.int .u32 0) := q0
              have HP := hid (own_put HOk.out 0 p)
              go_wp2_with fail
              go_roundw
              case rel => exact ⟨rfl, out_below (B := 0) HBk.out HP.out.2 HOW.out, .inr ⟨rfl, HP.out.1⟩⟩
              case measure => simp [intOf]
            · have q1 := own_get HOk.out 1 (by simp)
              have f1 := ownV_frozen HOk.out 1
              have HP := hid (own_put HOk.out 1 0)
              go_wp2_with fail
              go_roundw
              case rel => exact ⟨out_below (B := 0) HBk.out HP.out.2 HOW.out, .inr ⟨rfl, HP.out.1⟩⟩
              case measure => simp [intOf]
        · go_wp2_with (first | (go_at_call 48; refine (trim_own _ _ _ _ (p) [p, 0] _ HOr.out (by omega) rfl (fun j hj => by rcases j with _ | _ | j <;> first | exact absurd hj (by decide) | rfl) (by simp)).mono ?_; rintro e w9 ⟨v9, rfl, hl9, hw9⟩; rw [hw9]; have HL9 := hid hl9; clear hl9 hw9) | fail)
          go_ret
          exact ⟨v9, by rfl, by rw [← HPE.out]; exact HL9.out, HBr.out⟩
end Go.Proofs.YtlhmidecjiihcaaDoor
