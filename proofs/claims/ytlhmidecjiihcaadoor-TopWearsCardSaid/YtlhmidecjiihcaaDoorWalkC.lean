/-
  Add32 (92), Sub32 (93); sizes are compared (68).
-/
import Derived.Test.YtlhmidecjiihcaaDoorWalkB
namespace Go.Proofs.YtlhmidecjiihcaaDoor
open Go.RowKit
theorem xor32 {a b : Int} (h1 : 0 ≤ a ∧ a < 4294967296) (h2 : 0 ≤ b ∧ b < 4294967296) : 0 ≤ bits .xor .u32 a b ∧ bits .xor .u32 a b < 4294967296 := by
  rw [u32_xor a b h1.1 h1.2 h2.1 h2.2]
  have := Nat.xor_lt_two_pow (n := 32) (show a.toNat < 2 ^ 32 by omega) (show b.toNat < 2 ^ 32 by omega)
  omega
theorem and32 {a b : Int} (h1 : 0 ≤ a ∧ a < 4294967296) (h2 : 0 ≤ b ∧ b < 2147483648) : 0 ≤ bits .and .u32 a b ∧ bits .and .u32 a b < 2147483648 := by
  rw [u32_and a b h1.1 h1.2 h2.1 (by omega)]
  have := Nat.and_le_right (n := a.toNat) (m := b.toNat)
  omega
theorem or32 {a b : Int} (h1 : 0 ≤ a ∧ a < 2147483648) (h2 : 0 ≤ b ∧ b < 2147483648) : 0 ≤ bits .or .u32 a b ∧ bits .or .u32 a b < 2147483648 := by
  rw [u32_or a b h1.1 (by omega) h2.1 (by omega)]
  have := Nat.or_lt_two_pow (n := 31) (show a.toNat < 2 ^ 31 by omega) (show b.toNat < 2 ^ 31 by omega)
  omega
theorem borrow0 {x y d : Int} (h1 : 0 ≤ x ∧ x < 2147483648) (h2 : 0 ≤ y ∧ y < 2147483648) (h3 : 0 ≤ d ∧ d < 2147483648) :
    (bits .or .u32 (bits .and .u32 (bits .xor .u32 IntKind.u32.max x) y) (bits .and .u32 (bits .xor .u32 IntKind.u32.max (bits .xor .u32 x y)) d)) / 2147483648 = 0 := by
  have hm : 0 ≤ IntKind.u32.max ∧ IntKind.u32.max < 4294967296 := by decide
  have ha := and32 (xor32 hm ⟨h1.1, by omega⟩) h2
  have hb := and32 (xor32 hm (xor32 (a := x) (b := y) ⟨h1.1, by omega⟩ ⟨h2.1, by omega⟩)) h3
  have := or32 ha hb
  omega
set_option maxRecDepth 100000 in
set_option maxHeartbeats 1000000 in
theorem add32_any (x y : Nat) (w : World) (h : x + y < 4294967296) :
    Calls Tryd.prog 92 #[.int .u32 (x : Int), .int .u32 (y : Int), .int .u32 0] w fun e w' => e = .returned (.tuple #[.int .u32 ((x + y : Nat) : Int), .int .u32 0]) ∧ w' = w := by
  have h1 : ((x : Int) + (y : Int)) / 4294967296 = 0 := by omega
  have h2 : ((x : Int) + (y : Int)) % 4294967296 = (x : Int) + (y : Int) := by omega
  have HS : Hid (((x + y : Nat) : Int) = (x : Int) + (y : Int)) := by show _ = _; omega
  go_enter Tryd.func92, Tryd.ntmps92
  go_wp2_with fail
  go_ret2
  exact ⟨by rw [HS.out]; rfl, rfl⟩
set_option maxRecDepth 100000 in
set_option maxHeartbeats 1000000 in
theorem sub32_any (x y : Nat) (w : World) (h : y ≤ x) (hx : x < 2147483648) :
    Calls Tryd.prog 93 #[.int .u32 (x : Int), .int .u32 (y : Int), .int .u32 0] w fun e w' => e = .returned (.tuple #[.int .u32 ((x - y : Nat) : Int), .int .u32 0]) ∧ w' = w := by
  have hb := borrow0 (x := x) (y := y) (d := (x : Int) - y) ⟨by omega, by omega⟩ ⟨by omega, by omega⟩ ⟨by omega, by omega⟩
  have HS : Hid ((x : Int) - (y : Int) = ((x - y : Nat) : Int)) := by show _ = _; omega
  go_enter Tryd.func93, Tryd.ntmps93
  go_wp2_with fail
  go_ret2
  exact ⟨by rw [← HS.out]; rfl, rfl⟩
set_option maxRecDepth 100000 in
set_option maxHeartbeats 1000000 in
theorem compare_any (u v : Value) (a b : Nat) (w : World) (hu : Lb w u a) (hv : Lb w v b) :
    Calls Tryd.prog 68 #[u, v] w fun e w' => e = .returned (.int .i64 (if a < b then -1 else if a = b then 0 else 1)) ∧ Below w.heap.size w w' := by
  obtain ⟨r, hr⟩ : ∃ r : Int, r = if a < b then -1 else if a = b then 0 else 1 := ⟨_, rfl⟩
  rw [← hr]
  have HR := hid hr
  clear hr
  by_cases ha : a = 0
  · by_cases hb : b = 0
    · subst ha
      subst hb
      obtain ⟨p1, c1, rfl⟩ := hu.z
      obtain ⟨p2, c2, rfl⟩ := hv.z
      clear hu hv
      go_enter Tryd.func68, Tryd.ntmps68
      go_wp2_with fail
      go_loop [5] (fun iv => iv = .int .i64 (-1)) (fun iv => 0)
      case atStart => rfl
      case round =>
        obtain rfl := hrel
        go_wp2_with fail
        go_ret
        exact ⟨by rw [HR.out]; rfl, Below.refl _ _⟩
    · obtain ⟨g2, c2, rfl, _⟩ := hv.p hb
      subst ha
      obtain ⟨p1, c1, rfl⟩ := hu.z
      clear hu hv
      go_enter Tryd.func68, Tryd.ntmps68
      go_wp2_with fail
      go_ret
      exact ⟨by rw [HR.out, if_pos (by omega)]; rfl, Below.refl _ _⟩
  · by_cases hb : b = 0
    · obtain ⟨g1, c1, rfl, _⟩ := hu.p ha
      subst hb
      obtain ⟨p2, c2, rfl⟩ := hv.z
      clear hu hv
      go_enter Tryd.func68, Tryd.ntmps68
      go_wp2_with fail
      go_ret
      exact ⟨by rw [HR.out, if_neg (by omega), if_neg ha]; rfl, Below.refl _ _⟩
    · obtain ⟨g1, c1, rfl, h1, _, k1⟩ := hu.p ha
      obtain ⟨g2, c2, rfl, h2, _, k2⟩ := hv.p hb
      have K1 := hid k1
      have K2 := hid k2
      clear k1 k2 hu hv
      go_enter Tryd.func68, Tryd.ntmps68
      go_wp2_with fail
      go_loopw [5] (fun iv wr => (iv = .int .i64 0 ∧ wr = w) ∨ (iv = .int .i64 (-1) ∧ Hid (a = b) ∧ Hid (Below w.heap.size w wr))) (fun iv _ => (intOf iv + 1).toNat)
      case atStart => exact .inl ⟨rfl, rfl⟩
      case round =>
        rcases hrel with ⟨rfl, rfl⟩ | ⟨rfl, HE, HBr⟩
        · rename World => wr
          have k1 := K1.out
          have k2 := K2.out
          by_cases he : a = b
          · subst he
            go_upto_region 8 with fail
            go_quiet (fail)
            have HBD := hid (below_drewN_r (Below.refl wr.heap.size wr) 0)
            go_wp2_with fail
            go_roundw
            case rel => exact .inr ⟨rfl, by first | exact rfl | exact trivial, below_drewN_r (Below.refl _ _) _⟩
            case measure => simp [intOf]
          · have e1 : ((a : Int) != (b : Int)) = true := by simp; omega
            have e2 : (a != b) = true := by simpa using he
            go_upto_region 8 with fail
            go_quiet (fail)
            by_cases hl : a < b
            · have e3 : decide (a < b) = true := decide_eq_true hl
              have e4 : decide ((a : Int) < (b : Int)) = true := decide_eq_true (by omega)
              have k1' := K1.out
              have k2' := K2.out
              go_upto_region 9 with fail
              go_quiet (fail)
              go_wp2_with fail
              go_ret
              exact ⟨by rw [HR.out, if_pos hl]; rfl, below_drewN_r (below_drewN_r (Below.refl _ _) _) _⟩
            · have e3 : decide (a < b) = false := decide_eq_false hl
              have e4 : decide ((a : Int) < (b : Int)) = false := decide_eq_false (by omega)
              have k1' := K1.out
              have k2' := K2.out
              go_upto_region 9 with fail
              go_quiet (fail)
              go_wp2_with fail
              go_ret
              exact ⟨by rw [HR.out, if_neg hl, if_neg he]; rfl, below_drewN_r (below_drewN_r (Below.refl _ _) _) _⟩
        · rename World => wr
          go_wp2_with fail
          go_ret
          exact ⟨by rw [HR.out, HE.out, if_neg (Nat.lt_irrefl _), if_pos rfl]; rfl, HBr.out⟩
end Go.Proofs.YtlhmidecjiihcaaDoor
