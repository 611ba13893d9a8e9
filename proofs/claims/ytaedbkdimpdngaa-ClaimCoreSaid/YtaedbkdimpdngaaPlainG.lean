/-
  Bits of numbers, as the model reckons with them: in sixteen and in 64 bits.
-/
import Derived.Test.YtaedbkdimpdngaaPlainF
import Derived.Laws.BitsAllLaws
import Derived.Laws.BitsLemmas
namespace Go.Proofs.Ytaedbkdimpdngaa
open Go
theorem diff_mask {a b m : Nat} (ha : a < 2 ^ m) : a &&& (2 ^ m - 1 - b) = diff a b ∨ ¬ b < 2 ^ m := by
  by_cases hb : b < 2 ^ m
  · left
    refine Nat.eq_of_testBit_eq fun i => ?_
    rw [Nat.testBit_and, diff_bit]
    have e : 2 ^ m - 1 - b = 2 ^ m - (b + 1) := by omega
    rw [e, Nat.testBit_two_pow_sub_succ hb]
    cases h : a.testBit i with
    | false => simp
    | true => rw [decide_eq_true (bit_lt ha h)]; simp
  · exact .inr hb
theorem diff_le (a b : Nat) : diff a b ≤ a := sub_le ((sub_iff _ _).2 fun i hi => by
  rw [diff_bit, Bool.and_eq_true] at hi
  exact hi.1)
theorem and16 {a b : Nat} (ha : a < 65536) (hb : b < 65536) : bits .and .u16 (a : Int) (b : Int) = ((a &&& b : Nat) : Int) := u16_and_nat a b ha hb
theorem or16 {a b : Nat} (ha : a < 65536) (hb : b < 65536) : bits .or .u16 (a : Int) (b : Int) = ((a ||| b : Nat) : Int) := u16_or_nat a b ha hb
theorem dif16 {a b : Nat} (ha : a < 65536) (hb : b < 65536) : bits .andNot .u16 (a : Int) (b : Int) = ((diff a b : Nat) : Int) := by
  rw [u16_andNot_nat a b ha hb]
  rcases diff_mask (a := a) (b := b) (m := 16) ha with h | h
  · rw [← h]
  · exact absurd hb h
theorem wraps62 (n : Int) (h0 : 0 ≤ n) (h1 : n < 2 ^ 62) : IntKind.i64.wrap n = n := by
  rw [IntKind.wrap_i64]; omega
theorem and64 {a b : Nat} (ha : a < 2 ^ 62) (hb : b < 2 ^ 62) : bits .and .i64 (a : Int) (b : Int) = ((a &&& b : Nat) : Int) := (bits_nat .i64 62 (by decide) wraps62 a b ha hb).1
theorem or64 {a b : Nat} (ha : a < 2 ^ 62) (hb : b < 2 ^ 62) : bits .or .i64 (a : Int) (b : Int) = ((a ||| b : Nat) : Int) := (bits_nat .i64 62 (by decide) wraps62 a b ha hb).2
theorem dif64 {a b : Nat} (ha : a < 2 ^ 62) (hb : b < 2 ^ 62) : bits .andNot .i64 (a : Int) (b : Int) = ((diff a b : Nat) : Int) := by
  have h1 : (BitVec.ofInt 64 (a : Int)).toNat = a := by
    rw [BitVec.ofInt_natCast, BitVec.toNat_ofNat]; exact Nat.mod_eq_of_lt (by omega)
  have h2 : (BitVec.ofInt 64 (b : Int)).toNat = b := by
    rw [BitVec.ofInt_natCast, BitVec.toNat_ofNat]; exact Nat.mod_eq_of_lt (by omega)
  show IntKind.i64.wrap ((BitVec.ofInt 64 (a : Int) &&& ~~~BitVec.ofInt 64 (b : Int)).toNat : Int) = _
  rw [BitVec.toNat_and, BitVec.toNat_not, h1, h2]
  have h3 := diff_le a b
  rcases diff_mask (a := a) (b := b) (m := 64) (by omega) with h | h
  · rw [h]
    exact wraps62 _ (by omega) (by omega)
  · exact absurd (show b < 2 ^ 64 by omega) h
/-- the program's test for a claim in a set -/
theorem and_one (s i : Nat) : (s &&& 2 ^ i = 0) ↔ s.testBit i = false := by
  rw [zero_iff]
  constructor
  · intro h
    have := h i
    rw [Nat.testBit_and, Nat.testBit_two_pow_self, Bool.and_true] at this
    exact this
  · intro h j
    rw [Nat.testBit_and]
    by_cases e : j = i
    · subst e; rw [h]; rfl
    · rw [Nat.testBit_two_pow_of_ne (fun h => e h.symm), Bool.and_false]
theorem and_one_pos {s i : Nat} (h : s.testBit i = true) : s &&& 2 ^ i = 2 ^ i := Nat.eq_of_testBit_eq fun j => by
  rw [Nat.testBit_and]
  by_cases e : j = i
  · subst e; rw [h]; rfl
  · rw [Nat.testBit_two_pow_of_ne (fun h => e h.symm), Bool.and_false]
/-- the document's test -/
theorem shr_one (s i : Nat) : s / 2 ^ i &&& 1 = if s.testBit i then 1 else 0 := by
  rw [Nat.and_one_is_mod, ← Nat.shiftRight_eq_div_pow]
  rw [Nat.testBit_eq_decide_div_mod_eq]
  rw [Nat.shiftRight_eq_div_pow]
  have : s / 2 ^ i % 2 < 2 := Nat.mod_lt _ (by decide)
  by_cases h : s / 2 ^ i % 2 = 1
  · rw [h]; rfl
  · rw [decide_eq_false h, if_neg (by decide)]; omega
theorem pow_small {i n : Nat} (h : i ≤ n) : 2 ^ i ≤ 2 ^ n := Nat.pow_le_pow_right (by decide) h
theorem or_lt {a b n : Nat} (ha : a < 2 ^ n) (hb : b < 2 ^ n) : a ||| b < 2 ^ n := Nat.or_lt_two_pow ha hb
theorem and_lt {a b n : Nat} (ha : a < 2 ^ n) : a &&& b < 2 ^ n := Nat.lt_of_le_of_lt Nat.and_le_left ha
end Go.Proofs.Ytaedbkdimpdngaa
