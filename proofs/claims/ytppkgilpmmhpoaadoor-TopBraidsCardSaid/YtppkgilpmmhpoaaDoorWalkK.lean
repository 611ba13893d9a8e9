/-
  How many letters are interlaced with two (13).
-/
import Derived.Test.YtppkgilpmmhpoaaDoorWalkI
namespace Go.Proofs.YtppkgilpmmhpoaaDoor
open Go.RowKit
/-- how many letters are interlaced with both -/
def bth (x y : Nat) : Nat → Nat
  | 0 => 0
  | k + 1 => bth x y k + if (x != k) = true ∧ (y != k) = true then 1 else 0
theorem bth_le (x y : Nat) : ∀ k, bth x y k ≤ k
  | 0 => Nat.le_refl _
  | k + 1 => by
    have := bth_le x y k
    show bth x y k + _ ≤ _
    split <;> omega
theorem bth_all : ∀ n < 11, ∀ x < n, ∀ y < n, bth x y n = if x = y then n - 1 else n - 2 := by decide +kernel
theorem bth_yes {x y z : Nat} (h1 : (x != z) = true) (h2 : (y != z) = true) : bth x y (z + 1) = bth x y z + 1 := by
  show bth x y z + _ = _
  rw [if_pos ⟨h1, h2⟩]
theorem bth_no1 {x y z : Nat} (h1 : (x != z) = false) : bth x y (z + 1) = bth x y z := by
  show bth x y z + _ = _
  rw [if_neg (by rw [h1]; simp)]; rfl
theorem bth_no2 {x y z : Nat} (h2 : (y != z) = false) : bth x y (z + 1) = bth x y z := by
  show bth x y z + _ = _
  rw [if_neg (by rw [h2]; simp)]; rfl
set_option maxRecDepth 100000 in
set_option maxHeartbeats 4000000 in
theorem both_any (X D n wb wc pb : Nat) (gs cs : Nat → Nat) (x y : Nat) (w : World) (h : Cur w D n wb wc pb gs cs) (hX : w.cell? ⟨X, 0, none⟩ = some (.pointer (some ⟨D, 0, none⟩))) (hx : x < n) (hy : y < n) :
    Calls Tryd.prog 13 #[.int .i64 (x : Int), .int .i64 (y : Int), .pointer (some ⟨X, 0, none⟩)] w fun e w' => e = .returned (.int .i64 ((bth x y n : Nat) : Int)) ∧ Below w.heap.size w w' := by
  obtain ⟨hn1, hn10⟩ := h.nn
  have HC := hid h
  have KB : Hid (∀ w', Below w.heap.size w w' → w'.cell? ⟨D, 0, none⟩ = some (.int .i64 (n : Int))) := fun w' hb => (cells3_of (HC.out.below hb).box).1
  have KX : Hid (∀ w', Below w.heap.size w w' → w'.cell? ⟨X, 0, none⟩ = some (.pointer (some ⟨D, 0, none⟩))) := fun w' hb => (hb.cell (World.block_lt_of_cell? w _ hX)).trans hX
  have IC : Hid (∀ w' x y, Below w.heap.size w w' → x < n → y < n → Calls Tryd.prog 14 #[.pointer (some ⟨D, 0, none⟩), .int .i64 (x : Int), .int .i64 (y : Int)] w' fun e w'' => e = .returned (.bool (x != y)) ∧ Below w'.heap.size w' w'') := fun w' x y hb hx hy => inter_any D n wb wc pb gs cs x y w' (HC.out.below hb) hx hy
  clear h hX
  have k0 := KB.out w (Below.refl _ _)
  have q0 := KX.out w (Below.refl _ _)
  go_enter Tryd.func13, Tryd.ntmps13
  go_wp2_with fail
  clear k0 q0
  go_loopw [6, 12] (fun cv zv wr => ∃ z : Nat, zv = .int .i64 z ∧ z ≤ n ∧ cv = .int .i64 ((bth x y z : Nat) : Int) ∧ Hid (Below w.heap.size w wr)) (fun _ zv _ => n - (intOf zv).toNat)
  case atStart => exact ⟨0, rfl, Nat.zero_le _, rfl, Below.refl _ _⟩
  case round =>
    obtain ⟨z, rfl, hz, rfl, HBr⟩ := hrel
    rename World => wr
    by_cases hlt : z < n
    · have q0 := KX.out wr HBr.out
      have hbl := bth_le x y z
      cases h1 : (x != z) with
      | false =>
        have HS := hid (bth_no1 (y := y) h1)
        have H1 := hid h1
        clear h1
        obtain ⟨c, hc⟩ : ∃ c, c = bth x y z := ⟨_, rfl⟩
        rw [← hc] at HS hbl ⊢
        clear hc
        go_wp2_with (first | (go_at_call 14; refine (IC.out _ x z HBr.out hx hlt).mono ?_; rintro e w5 ⟨rfl, hb5⟩; have HB5 := hid (below_step HBr.out hb5); rw [H1.out]; clear hb5) | fail)
        go_roundw
        case rel => exact ⟨z + 1, by go_num, by omega, by rw [HS.out], HB5⟩
        case measure => simp [intOf]; omega
      | true =>
        have H1 := hid h1
        cases h2 : (y != z) with
        | false =>
          have HS := hid (bth_no2 (x := x) h2)
          have H2 := hid h2
          clear h1 h2
          obtain ⟨c, hc⟩ : ∃ c, c = bth x y z := ⟨_, rfl⟩
          rw [← hc] at HS hbl ⊢
          clear hc
          go_wp2_with (first | (go_at_call 14; first | (refine (IC.out _ y z HB5.out hy hlt).mono ?_; rintro e w6 ⟨rfl, hb6⟩; have HB6 := hid (below_step HB5.out hb6); rw [H2.out]; clear hb6) | (refine (IC.out _ x z HBr.out hx hlt).mono ?_; rintro e w5 ⟨rfl, hb5⟩; have HB5 := hid (below_step HBr.out hb5); have q5 := KX.out w5 HB5.out; rw [H1.out]; clear hb5)) | fail)
          go_roundw
          case rel => exact ⟨z + 1, by go_num, by omega, by rw [HS.out], HB6⟩
          case measure => simp [intOf]; omega
        | true =>
          have HS := hid (bth_yes h1 h2)
          have H2 := hid h2
          clear h1 h2
          obtain ⟨c, hc⟩ : ∃ c, c = bth x y z := ⟨_, rfl⟩
          rw [← hc] at HS hbl ⊢
          clear hc
          go_wp2_with (first | (go_at_call 14; first | (refine (IC.out _ y z HB5.out hy hlt).mono ?_; rintro e w6 ⟨rfl, hb6⟩; have HB6 := hid (below_step HB5.out hb6); rw [H2.out]; clear hb6) | (refine (IC.out _ x z HBr.out hx hlt).mono ?_; rintro e w5 ⟨rfl, hb5⟩; have HB5 := hid (below_step HBr.out hb5); have q5 := KX.out w5 HB5.out; rw [H1.out]; clear hb5)) | fail)
          go_roundw
          case rel => exact ⟨z + 1, by go_num, by omega, by rw [HS.out]; go_num, HB6⟩
          case measure => simp [intOf]; omega
    · obtain rfl : n = z := by omega
      go_wp2_with fail
      go_ret
      exact ⟨rfl, HBr.out⟩
end Go.Proofs.YtppkgilpmmhpoaaDoor
