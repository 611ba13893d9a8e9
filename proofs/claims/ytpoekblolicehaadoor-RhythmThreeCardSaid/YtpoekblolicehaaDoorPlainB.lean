/-
  Plain definitions: the runs of a rhythm.
-/
import Derived.Test.YtpoekblolicehaaDoorPlainA
namespace Go.Proofs.YtpoekblolicehaaDoor

/-- the part of a rhythm from a up to, but not with, b -/
def part (l : Str) (a b : Nat) : Str := (l.drop a).take (b - a)
theorem part_length (l : Str) (a b : Nat) (h : b ≤ l.length) : (part l a b).length = b - a := by simp [part]; omega

/-- from, to, period -/
abbrev Rn := Nat × Nat × Nat
def lst (l : Str) (i j : Nat) : Nat := least (part l i j)
def lft (l : Str) (i j : Nat) : Bool := decide (0 < i) && period (part l (i - 1) j) (lst l i j)
def rgt (l : Str) (i j : Nat) : Bool := decide (j < l.length) && period (part l i (j + 1)) (lst l i j)
def isRun (l : Str) (i j : Nat) : Bool := decide (2 * lst l i j ≤ j - i) && !lft l i j && !rgt l i j
/-- the runs from i whose ends are the first d possible ones -/
def runsIn (l : Str) (i d : Nat) : List Rn := ((List.range d).filter fun k => isRun l i (i + 2 + k)).map fun k => (i, i + 2 + k, lst l i (i + 2 + k))
def runsAt (l : Str) (i : Nat) : List Rn := runsIn l i (l.length - 1 - i)
def runsTo (l : Str) (k : Nat) : List Rn := (List.range k).flatMap (runsAt l)
def runs (l : Str) : List Rn := runsTo l l.length
theorem runsIn_yes (l : Str) (i d : Nat) (h : isRun l i (i + 2 + d) = true) : runsIn l i (d + 1) = runsIn l i d ++ [(i, i + 2 + d, lst l i (i + 2 + d))] := by simp [runsIn, List.range_succ, h]
theorem runsIn_no (l : Str) (i d : Nat) (h : isRun l i (i + 2 + d) = false) : runsIn l i (d + 1) = runsIn l i d := by simp [runsIn, List.range_succ, h]
theorem runsIn_length (l : Str) (i d : Nat) : (runsIn l i d).length ≤ d := by
  simp only [runsIn, List.length_map]
  exact Nat.le_trans (List.length_filter_le _ _) (by simp)
theorem runsTo_succ (l : Str) (k : Nat) : runsTo l (k + 1) = runsTo l k ++ runsAt l k := by simp [runsTo, List.range_succ]
theorem runsTo_length (l : Str) (k : Nat) : (runsTo l k).length ≤ k * l.length := by
  induction k with
  | zero => simp [runsTo]
  | succ k ih =>
    rw [runsTo_succ, List.length_append, Nat.succ_mul]
    have := runsIn_length l k (l.length - 1 - k)
    unfold runsAt
    omega

/-- part k of a run -/
def rnat (r : Rn) : List Int := [(r.1 : Int), (r.2.1 : Int), (r.2.2 : Int)]
def rx (xs : List Rn) (k : Nat) : Rn := xs.getD k (0, 0, 0)
theorem rtake_succ {xs ys : List Rn} {k : Nat} (h : xs.take k = ys.take k) (hk : k < xs.length) (hk' : k < ys.length) (he : rx xs k = rx ys k) : xs.take (k+1) = ys.take (k+1) := by
  rw [List.take_succ_eq_append_getElem hk, List.take_succ_eq_append_getElem hk', h]
  simp [rx, hk, hk'] at he
  simp [he]
theorem rx_ne {xs ys : List Rn} {k : Nat} (he : rx xs k ≠ rx ys k) : xs ≠ ys := fun h => he (by rw [h])
end Go.Proofs.YtpoekblolicehaaDoor
