/-
  Sizes are added (81).
-/
import Derived.Test.YtlhmidecjiihcaaDoorWalkC
namespace Go.Proofs.YtlhmidecjiihcaaDoor
open Go.RowKit
theorem info94 : (Tryd.prog.info? 94).map (fun i => (i.zero, i.size, i.bytes)) = some (some (.int .u32 0), 1, 4) := by kernel_rfl
def u4 (k : Nat) : Value := .int .u32 (k : Int)
theorem make_u4 (n : Nat) (hn : n ≤ 100) (w : World) : (Instr.makeSlice 50 (.int .i64 (n : Int)) (.int .i64 (n : Int))).run Tryd.prog w = .ok (.slice (some ⟨w.heap.size, 0, none⟩) n n) (w.alloc (.cells (List.replicate n (u4 0)).toArray 94)) := by
  cases hi0 : Tryd.prog.info? 94 with
  | none => have := info94; rw [hi0] at this; cases this
  | some i =>
    have h := info94
    rw [hi0] at h
    simp only [Option.map_some, Option.some.injEq, Prod.mk.injEq] at h
    obtain ⟨h1, h2, h3⟩ := h
    have := run_make (P := Tryd.prog) (w := w) 50 94 i (.int .u32 0) Tryd.underlying50 hi0 h1 .i64 .i64 (n : Int) (n : Int) (by omega) (by omega) (by rw [h3]; omega) (by omega)
    rw [this, h2]
    have e : madeCells (Value.int .u32 0).cells (n * 1) = (List.replicate n (u4 0)).toArray := by
      rw [Nat.mul_one]
      have := made1 (.int .u32 0) n
      rw [show u4 0 = .int .u32 0 from rfl, ← this]; rfl
    simp only [Int.toNat_natCast]
    rw [e]
theorem mk0 (w : World) : (Instr.makeSlice 50 (.int .i64 0) (.int .i64 0)).run Tryd.prog w = .ok (.slice (some ⟨w.heap.size, 0, none⟩) 0 0) (w.alloc (.cells #[] 94)) := make_u4 0 (by decide) w
theorem mk1 (w : World) : (Instr.makeSlice 50 (.int .i64 1) (.int .i64 1)).run Tryd.prog w = .ok (.slice (some ⟨w.heap.size, 0, none⟩) 1 1) (w.alloc (.cells #[.int .u32 0] 94)) := make_u4 1 (by decide) w
theorem mk2 (w : World) : (Instr.makeSlice 50 (.int .i64 2) (.int .i64 2)).run Tryd.prog w = .ok (.slice (some ⟨w.heap.size, 0, none⟩) 2 2) (w.alloc (.cells #[.int .u32 0, .int .u32 0] 94)) := make_u4 2 (by decide) w
theorem own_new (w : World) (xs : List Nat) (B : Nat) (hB : B ≤ w.heap.size) (hl : xs.length ≤ 100) : OwnV (w.alloc (.cells (xs.map u4).toArray 94)) B 94 (.slice (some ⟨w.heap.size, 0, none⟩) xs.length xs.length) (xs.map u4) :=
  ⟨by simp, .inr ⟨_, xs.length, _, by rw [List.length_map], hB, heap_alloc_new _ _, by simp, by unfold maxLen; omega, by simp, by simp; exact List.take_of_length_le (by simp)⟩⟩
theorem new_out (w : World) (xs : List Nat) (hl : xs.length ≤ 100) : ∃ O w1, w.alloc (.cells (xs.map u4).toArray 94) = w1 ∧ O = w.heap.size ∧ Hid (OwnV w1 w.heap.size 94 (.slice (some ⟨O, 0, none⟩) xs.length xs.length) (xs.map u4)) ∧ Hid (Below w.heap.size w w1) ∧ Hid (w.heap.size ≤ O) :=
  ⟨_, _, rfl, rfl, own_new w xs _ (Nat.le_refl _) hl, ba _ _, Nat.le_refl _⟩
theorem own_get {w : World} {B g n c : Nat} {xs : List Nat} (h : OwnV w B 94 (.slice (some ⟨g, 0, none⟩) n c) (xs.map u4)) (j : Nat) (hj : j < xs.length) : w.cell? ⟨g, j, none⟩ = some (.int .u32 ((xs.getD j 0 : Nat) : Int)) := by
  rw [ownV_cell h j (by simpa using hj), getD_map u4 xs 0 j hj]; rfl
theorem own_put {w : World} {B g n c : Nat} {xs : List Nat} (h : OwnV w B 94 (.slice (some ⟨g, 0, none⟩) n c) (xs.map u4)) (j k : Nat) : OwnV (w.setCell ⟨g, j, none⟩ (.int .u32 (k : Int))) B 94 (.slice (some ⟨g, 0, none⟩) n c) ((xs.set j k).map u4) ∧ w.grownBy (w.setCell ⟨g, j, none⟩ (.int .u32 (k : Int))) (some g) := by
  rw [List.map_set]
  exact ownV_set h j (u4 k)
theorem trim_own (B g n c k : Nat) (xs : List Nat) (w : World) (h : OwnV w B 94 (.slice (some ⟨g, 0, none⟩) n c) (xs.map u4)) (hk : k < 4294967296) (h0 : xs.getD 0 0 = k) (hz : ∀ j, 0 < j → xs.getD j 0 = 0) (hl : xs.length ≤ 100) :
    Calls Tryd.prog 48 #[.slice (some ⟨g, 0, none⟩) n c] w fun e w' => ∃ v, e = .returned v ∧ Lb w v k ∧ w' = w := by
  have hcap := ownV_capN h
  obtain ⟨_, _, hv⟩ := ownV_slice h
  injection hv with _ hn _
  rw [List.length_map] at hn
  subst hn
  have hcell : ∀ j, j < xs.length → w.cell? ⟨g, j, none⟩ = some (.int .u32 ((xs.getD j 0 : Nat) : Int)) := fun j hj => own_get h j hj
  refine (trim_any (some ⟨g, 0, none⟩) g xs.length c (fun j => xs.getD j 0) w (fun _ => rfl) hl hcap hcell).mono ?_
  rintro e w' ⟨rfl, rfl⟩
  refine ⟨_, rfl, lb_trim hk (fun _ => h0) (fun hx => ?_) (fun j h0 _ => hz j h0) hcap hcell, rfl⟩
  have : xs = [] := List.length_eq_zero_iff.1 hx
  subst this
  exact h0.symm
theorem out_below {w w1 w2 : World} {g B : Nat} (h : Below w.heap.size w w1) (hg : w1.grownBy w2 (some g)) (hB : w.heap.size ≤ g) : Below w.heap.size w w2 := Below.grown h hg h.size (fun b hb => by injection hb with hb; rw [← hb]; exact hB)
set_option maxRecDepth 100000 in
set_option maxHeartbeats 2000000 in
theorem plus_any (u v : Value) (a b : Nat) (w : World) (hu : Lb w u a) (hv : Lb w v b) (hab : a + b < 4294967296) :
    Calls Tryd.prog 81 #[u, v] w fun e w' => ∃ x, e = .returned x ∧ Lb w' x (a + b) ∧ Below w.heap.size w w' := by
  by_cases a0 : a = 0
  · by_cases b0 : b = 0
    · obtain ⟨p1, c1, rfl⟩ := (show Lb w _ 0 from a0 ▸ hu).z
      obtain ⟨p2, c2, rfl⟩ := (show Lb w _ 0 from b0 ▸ hv).z
      clear hu hv
      have mk := mk1 w
      go_enter Tryd.func81, Tryd.ntmps81
      go_upto_region 5 with fail
      obtain ⟨O, w1, hw1, hO, HO1, HB1, HOW⟩ := new_out w [0] (by decide)
      have HO1 : Hid (OwnV w1 w.heap.size 94 (.slice (some ⟨O, 0, none⟩) 1 1) (([0] : List Nat).map u4)) := HO1
      have hw2 : w.alloc (.cells #[.int .u32 0] 94) = w1 := hw1
      rw [hw2, ← hO]
      clear hw1 hw2 hO mk
      go_wp2_with fail
      go_loopw [6, 22] (fun cv iv wr => cv = .int .u32 0 ∧ iv = .int .i64 0 ∧ wr = w1) (fun _ _ _ => 0)
      case atStart => exact ⟨rfl, rfl, rfl⟩
      case round =>
        obtain ⟨rfl, rfl, rfl⟩ := hrel
        rename World => wr
        have q0 := own_get HO1.out 0 (by decide)
        have f0 := ownV_frozen HO1.out 0
        have HP := hid (own_put HO1.out 0 0)
        go_upto_region 14 with fail
        have HO2 := hid HP.out.1
        have HB2 : Hid (Below w.heap.size w _) := hid (out_below (B := 0) HB1.out HP.out.2 HOW.out)
        clear q0 f0
        go_wp2_with (first | (go_at_call 48; refine (trim_own _ _ _ _ (0) [0] _ HO2.out (by decide) rfl (fun j hj => by rcases j with _ | _ | j <;> first | exact absurd hj (by decide) | rfl) (by simp)).mono ?_; rintro e w9 ⟨v9, rfl, hl9, hw9⟩; rw [hw9]; have HL9 := hid hl9; clear hl9 hw9) | fail)
        go_ret
        exact ⟨v9, by rfl, by rw [a0, b0]; exact HL9.out, HB2.out⟩
    · obtain ⟨p1, c1, rfl⟩ := (show Lb w _ 0 from a0 ▸ hu).z
      obtain ⟨g2, c2, rfl, hc2, hm2, k2⟩ := hv.p b0
      have K2 : Hid (∀ w', Below w.heap.size w w' → w'.cell? ⟨g2, 0, none⟩ = some (.int .u32 (b : Int))) := fun w' hb => (hb.cell (World.block_lt_of_cell? w _ k2)).trans k2
      clear hu hv k2
      have mk := mk2 w
      go_enter Tryd.func81, Tryd.ntmps81
      go_upto_region 5 with fail
      obtain ⟨O, w1, hw1, hO, HO1, HB1, HOW⟩ := new_out w [0, 0] (by decide)
      have HO1 : Hid (OwnV w1 w.heap.size 94 (.slice (some ⟨O, 0, none⟩) 2 2) (([0, 0] : List Nat).map u4)) := HO1
      have hw2 : w.alloc (.cells #[.int .u32 0, .int .u32 0] 94) = w1 := hw1
      rw [hw2, ← hO]
      clear hw1 hw2 hO mk
      go_wp2_with fail
      have AD : Hid (∀ w', Calls Tryd.prog 92 #[.int .u32 (b : Int), .int .u32 (0), .int .u32 0] w' fun e w'' => e = .returned (.tuple #[.int .u32 ((b + 0 : Nat) : Int), .int .u32 0]) ∧ w'' = w') := fun w' => add32_any b 0 w' (by omega)
      go_loopw [6, 22] (fun cv iv wr => cv = .int .u32 0 ∧ Hid (Below w.heap.size w wr) ∧ ((iv = .int .i64 0 ∧ Hid (OwnV wr w.heap.size 94 (.slice (some ⟨O, 0, none⟩) 2 2) (([0, 0] : List Nat).map u4))) ∨ (iv = .int .i64 1 ∧ Hid (OwnV wr w.heap.size 94 (.slice (some ⟨O, 0, none⟩) 2 2) (([b + 0, 0] : List Nat).map u4))))) (fun _ iv _ => 1 - (intOf iv).toNat)
      case atStart => exact ⟨rfl, HB1, .inl ⟨rfl, HO1⟩⟩
      case round =>
        obtain ⟨rfl, HBr, hr⟩ := hrel
        rename World => wr
        rcases hr with ⟨rfl, HOr⟩ | ⟨rfl, HOr⟩
        · have q0 := own_get HOr.out 0 (by simp)
          have f0 := ownV_frozen HOr.out 0
          have k2 := K2.out wr HBr.out
          have HP := hid (own_put HOr.out 0 (b + 0))
          generalize b + 0 = r at *
          go_wp2_with (first | (go_at_call 92; refine (AD.out _).mono ?_; rintro e w3 ⟨rfl, rfl⟩) | fail)
          go_roundw
          case rel => exact ⟨rfl, out_below (B := 0) HBr.out HP.out.2 HOW.out, .inr ⟨rfl, HP.out.1⟩⟩
          case measure => simp [intOf]
        · have q1 := own_get HOr.out 1 (by simp)
          have f1 := ownV_frozen HOr.out 1
          have HP := hid (own_put HOr.out 1 0)
          go_upto_region 14 with fail
          have HO2 := hid HP.out.1
          have HB2 : Hid (Below w.heap.size w _) := hid (out_below (B := 0) HBr.out HP.out.2 HOW.out)
          clear q1 f1
          go_wp2_with (first | (go_at_call 48; refine (trim_own _ _ _ _ (b + 0) [b + 0, 0] _ HO2.out (by omega) rfl (fun j hj => by rcases j with _ | _ | j <;> first | exact absurd hj (by decide) | rfl) (by simp)).mono ?_; rintro e w9 ⟨v9, rfl, hl9, hw9⟩; rw [hw9]; have HL9 := hid hl9; clear hl9 hw9) | fail)
          go_ret
          exact ⟨v9, by rfl, by rw [show a + b = b + 0 by omega]; exact HL9.out, HB2.out⟩
  · by_cases b0 : b = 0
    · obtain ⟨g1, c1, rfl, hc1, hm1, k1⟩ := hu.p a0
      have K1 : Hid (∀ w', Below w.heap.size w w' → w'.cell? ⟨g1, 0, none⟩ = some (.int .u32 (a : Int))) := fun w' hb => (hb.cell (World.block_lt_of_cell? w _ k1)).trans k1
      obtain ⟨p2, c2, rfl⟩ := (show Lb w _ 0 from b0 ▸ hv).z
      clear hu hv k1
      have mk := mk2 w
      go_enter Tryd.func81, Tryd.ntmps81
      go_upto_region 5 with fail
      obtain ⟨O, w1, hw1, hO, HO1, HB1, HOW⟩ := new_out w [0, 0] (by decide)
      have HO1 : Hid (OwnV w1 w.heap.size 94 (.slice (some ⟨O, 0, none⟩) 2 2) (([0, 0] : List Nat).map u4)) := HO1
      have hw2 : w.alloc (.cells #[.int .u32 0, .int .u32 0] 94) = w1 := hw1
      rw [hw2, ← hO]
      clear hw1 hw2 hO mk
      go_wp2_with fail
      have AD : Hid (∀ w', Calls Tryd.prog 92 #[.int .u32 (a : Int), .int .u32 (0), .int .u32 0] w' fun e w'' => e = .returned (.tuple #[.int .u32 ((a + 0 : Nat) : Int), .int .u32 0]) ∧ w'' = w') := fun w' => add32_any a 0 w' (by omega)
      go_loopw [6, 22] (fun cv iv wr => cv = .int .u32 0 ∧ Hid (Below w.heap.size w wr) ∧ ((iv = .int .i64 0 ∧ Hid (OwnV wr w.heap.size 94 (.slice (some ⟨O, 0, none⟩) 2 2) (([0, 0] : List Nat).map u4))) ∨ (iv = .int .i64 1 ∧ Hid (OwnV wr w.heap.size 94 (.slice (some ⟨O, 0, none⟩) 2 2) (([a + 0, 0] : List Nat).map u4))))) (fun _ iv _ => 1 - (intOf iv).toNat)
      case atStart => exact ⟨rfl, HB1, .inl ⟨rfl, HO1⟩⟩
      case round =>
        obtain ⟨rfl, HBr, hr⟩ := hrel
        rename World => wr
        rcases hr with ⟨rfl, HOr⟩ | ⟨rfl, HOr⟩
        · have q0 := own_get HOr.out 0 (by simp)
          have f0 := ownV_frozen HOr.out 0
          have k1 := K1.out wr HBr.out
          have HP := hid (own_put HOr.out 0 (a + 0))
          generalize a + 0 = r at *
          go_wp2_with (first | (go_at_call 92; refine (AD.out _).mono ?_; rintro e w3 ⟨rfl, rfl⟩) | fail)
          go_roundw
          case rel => exact ⟨rfl, out_below (B := 0) HBr.out HP.out.2 HOW.out, .inr ⟨rfl, HP.out.1⟩⟩
          case measure => simp [intOf]
        · have q1 := own_get HOr.out 1 (by simp)
          have f1 := ownV_frozen HOr.out 1
          have HP := hid (own_put HOr.out 1 0)
          go_upto_region 14 with fail
          have HO2 := hid HP.out.1
          have HB2 : Hid (Below w.heap.size w _) := hid (out_below (B := 0) HBr.out HP.out.2 HOW.out)
          clear q1 f1
          go_wp2_with (first | (go_at_call 48; refine (trim_own _ _ _ _ (a + 0) [a + 0, 0] _ HO2.out (by omega) rfl (fun j hj => by rcases j with _ | _ | j <;> first | exact absurd hj (by decide) | rfl) (by simp)).mono ?_; rintro e w9 ⟨v9, rfl, hl9, hw9⟩; rw [hw9]; have HL9 := hid hl9; clear hl9 hw9) | fail)
          go_ret
          exact ⟨v9, by rfl, by rw [show a + b = a + 0 by omega]; exact HL9.out, HB2.out⟩
    · obtain ⟨g1, c1, rfl, hc1, hm1, k1⟩ := hu.p a0
      have K1 : Hid (∀ w', Below w.heap.size w w' → w'.cell? ⟨g1, 0, none⟩ = some (.int .u32 (a : Int))) := fun w' hb => (hb.cell (World.block_lt_of_cell? w _ k1)).trans k1
      obtain ⟨g2, c2, rfl, hc2, hm2, k2⟩ := hv.p b0
      have K2 : Hid (∀ w', Below w.heap.size w w' → w'.cell? ⟨g2, 0, none⟩ = some (.int .u32 (b : Int))) := fun w' hb => (hb.cell (World.block_lt_of_cell? w _ k2)).trans k2
      clear hu hv k1 k2
      have mk := mk2 w
      go_enter Tryd.func81, Tryd.ntmps81
      go_upto_region 5 with fail
      obtain ⟨O, w1, hw1, hO, HO1, HB1, HOW⟩ := new_out w [0, 0] (by decide)
      have HO1 : Hid (OwnV w1 w.heap.size 94 (.slice (some ⟨O, 0, none⟩) 2 2) (([0, 0] : List Nat).map u4)) := HO1
      have hw2 : w.alloc (.cells #[.int .u32 0, .int .u32 0] 94) = w1 := hw1
      rw [hw2, ← hO]
      clear hw1 hw2 hO mk
      go_wp2_with fail
      have AD : Hid (∀ w', Calls Tryd.prog 92 #[.int .u32 (a : Int), .int .u32 ((b : Int)), .int .u32 0] w' fun e w'' => e = .returned (.tuple #[.int .u32 ((a + b : Nat) : Int), .int .u32 0]) ∧ w'' = w') := fun w' => add32_any a b w' (by omega)
      go_loopw [6, 22] (fun cv iv wr => cv = .int .u32 0 ∧ Hid (Below w.heap.size w wr) ∧ ((iv = .int .i64 0 ∧ Hid (OwnV wr w.heap.size 94 (.slice (some ⟨O, 0, none⟩) 2 2) (([0, 0] : List Nat).map u4))) ∨ (iv = .int .i64 1 ∧ Hid (OwnV wr w.heap.size 94 (.slice (some ⟨O, 0, none⟩) 2 2) (([a + b, 0] : List Nat).map u4))))) (fun _ iv _ => 1 - (intOf iv).toNat)
      case atStart => exact ⟨rfl, HB1, .inl ⟨rfl, HO1⟩⟩
      case round =>
        obtain ⟨rfl, HBr, hr⟩ := hrel
        rename World => wr
        rcases hr with ⟨rfl, HOr⟩ | ⟨rfl, HOr⟩
        · have q0 := own_get HOr.out 0 (by simp)
          have f0 := ownV_frozen HOr.out 0
          have k1 := K1.out wr HBr.out
          have k2 := K2.out wr HBr.out
          have HP := hid (own_put HOr.out 0 (a + b))
          generalize a + b = r at *
          go_wp2_with (first | (go_at_call 92; refine (AD.out _).mono ?_; rintro e w3 ⟨rfl, rfl⟩) | fail)
          go_roundw
          case rel => exact ⟨rfl, out_below (B := 0) HBr.out HP.out.2 HOW.out, .inr ⟨rfl, HP.out.1⟩⟩
          case measure => simp [intOf]
        · have q1 := own_get HOr.out 1 (by simp)
          have f1 := ownV_frozen HOr.out 1
          have HP := hid (own_put HOr.out 1 0)
          go_upto_region 14 with fail
          have HO2 := hid HP.out.1
          have HB2 : Hid (Below w.heap.size w _) := hid (out_below (B := 0) HBr.out HP.out.2 HOW.out)
          clear q1 f1
          go_wp2_with (first | (go_at_call 48; refine (trim_own _ _ _ _ (a + b) [a + b, 0] _ HO2.out (by omega) rfl (fun j hj => by rcases j with _ | _ | j <;> first | exact absurd hj (by decide) | rfl) (by simp)).mono ?_; rintro e w9 ⟨v9, rfl, hl9, hw9⟩; rw [hw9]; have HL9 := hid hl9; clear hl9 hw9) | fail)
          go_ret
          exact ⟨v9, by rfl, by rw [show a + b = a + b by omega]; exact HL9.out, HB2.out⟩
end Go.Proofs.YtlhmidecjiihcaaDoor
