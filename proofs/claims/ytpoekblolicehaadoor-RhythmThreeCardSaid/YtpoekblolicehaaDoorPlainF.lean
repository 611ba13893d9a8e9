/-
  Plain: rotations, the first position of the least one.
-/
import Derived.Test.YtpoekblolicehaaDoorPlainE
import GoSem.Op.String
namespace Go.Proofs.YtpoekblolicehaaDoor

theorem bytesLess_slt : ∀ a b : Str, Op.bytesLess a b = slt up a b
  | _, [] => by simp [Op.bytesLess, slt]
  | [], _ :: _ => rfl
  | a :: as, b :: bs => by
    simp only [Op.bytesLess, slt, bytesLess_slt as bs]
    by_cases h1 : up a < up b
    · have : a < b := UInt8.lt_iff_toNat_lt.2 h1
      simp [h1, this]
    · have n1 : ¬ a < b := fun h => h1 (UInt8.lt_iff_toNat_lt.1 h)
      by_cases h2 : up b < up a
      · have : a ≠ b := by rintro rfl; exact absurd h2 (by omega)
        simp [h1, h2, n1, this]
      · have : a = b := up_inj a b (by omega)
        subst this
        simp
def rot (l : Str) (i : Nat) : Str := l.drop i ++ l.take i
theorem rot_length (l : Str) (i : Nat) : (rot l i).length = l.length := by simp [rot]; omega
/-- the first of the least rotations among those from 0 to k - 1 (0, if k = 0) -/
def turnTo (l : Str) : Nat → Nat
  | 0 => 0
  | k + 1 => if slt up (rot l k) (rot l (turnTo l k)) = true then k else turnTo l k
def turn (l : Str) : Nat := turnTo l l.length
theorem turnTo_yes (l : Str) (k : Nat) (h : slt up (rot l k) (rot l (turnTo l k)) = true) : turnTo l (k + 1) = k := by rw [turnTo, if_pos h]
theorem turnTo_no (l : Str) (k : Nat) (h : slt up (rot l k) (rot l (turnTo l k)) = false) : turnTo l (k + 1) = turnTo l k := by rw [turnTo, if_neg (by rw [h]; decide)]
theorem turnTo_le (l : Str) : ∀ k, turnTo l k ≤ k - 1
  | 0 => Nat.le_refl _
  | k + 1 => by
    rw [turnTo]
    have := turnTo_le l k
    split <;> omega
theorem turnTo_one (l : Str) : turnTo l 1 = 0 := by
  have := turnTo_le l 1
  omega
end Go.Proofs.YtpoekblolicehaaDoor
