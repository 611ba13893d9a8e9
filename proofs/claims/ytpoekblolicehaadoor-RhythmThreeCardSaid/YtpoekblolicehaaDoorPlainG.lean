/-
  Plain: points on a circle and their distances.
-/
import Derived.Test.YtpoekblolicehaaDoorPlainB
namespace Go.Proofs.YtpoekblolicehaaDoor

def pt (s n i : Nat) : Nat := i * s % n
/-- is x one of the first k points? -/
def seen (s n k x : Nat) : Bool := (List.range k).any fun i => pt s n i == x
/-- do the first k points all differ? -/
def apart (s n k : Nat) : Bool := (List.range k).all fun i => !seen s n i (pt s n i)
theorem seen_zero (s n x : Nat) : seen s n 0 x = false := rfl
theorem seen_succ (s n k x : Nat) : seen s n (k + 1) x = if x = pt s n k then true else seen s n k x := by
  unfold seen
  rw [List.range_succ, List.any_append]
  by_cases h : x = pt s n k
  · simp [h]
  · rw [if_neg h]
    have : (pt s n k == x) = false := by simp; exact fun e => h e.symm
    simp [this]
theorem apart_zero (s n : Nat) : apart s n 0 = true := rfl
theorem apart_succ (s n k : Nat) : apart s n (k + 1) = (apart s n k && !seen s n k (pt s n k)) := by
  unfold apart
  rw [List.range_succ, List.all_append]
  simp
theorem apart_less {s n k m : Nat} (h : apart s n m = true) (hk : k ≤ m) : apart s n k = true := by
  simp only [apart, List.all_eq_true, List.mem_range] at *
  exact fun x hx => h x (by omega)
/-- the distances, and the last point, among the positions 1 to x -/
def gapTo (f : Nat → Bool) (n : Nat) : Nat → List Int × Nat
  | 0 => ([], 0)
  | x + 1 => if x + 1 == n || f (x + 1) then ((gapTo f n x).1 ++ [((x + 1 : Nat) : Int) - ((gapTo f n x).2 : Nat)], x + 1) else gapTo f n x
def gaps (s c n : Nat) : List Int := (gapTo (seen s n c) n n).1
theorem gapTo_le (f : Nat → Bool) (n : Nat) : ∀ x, (gapTo f n x).2 ≤ x ∧ (gapTo f n x).1.length ≤ x
  | 0 => ⟨Nat.le_refl _, Nat.le_refl _⟩
  | x + 1 => by
    have := gapTo_le f n x
    rw [gapTo]
    split
    · exact ⟨Nat.le_refl _, by rw [List.length_append]; simp; omega⟩
    · exact ⟨by omega, by omega⟩
theorem gapTo_yes (f : Nat → Bool) (n x : Nat) (h : x + 1 = n ∨ f (x + 1) = true) : gapTo f n (x + 1) = ((gapTo f n x).1 ++ [((x + 1 : Nat) : Int) - ((gapTo f n x).2 : Nat)], x + 1) := by
  rw [gapTo, if_pos]
  simpa using h
theorem gapTo_no (f : Nat → Bool) (n x : Nat) (h : x + 1 ≠ n) (h2 : f (x + 1) = false) : gapTo f n (x + 1) = gapTo f n x := by
  rw [gapTo, if_neg]
  simp [h, h2]
end Go.Proofs.YtpoekblolicehaaDoor
