/-
  The braid of two strands in plain words.
-/
import Derived.Test.YtppkgilpmmhpoaaDoorBaseA
namespace Go.Proofs.YtppkgilpmmhpoaaDoor
open Go.RowKit
/-- the position to which a step leads; steps are counted from -2n on -/
def pl (n c : Nat) : Nat := if 2 * n ≤ c then (c - 2 * n + 1) % (2 * n) else 2 * n - 1 - c
/-- the step that follows at a position: sb the sign of its letter, cm: the curve comes in -/
def stp (n : Nat) (sb cm : Bool) (p : Nat) : Nat :=
  let e := (if n ≤ p then 2 else 0) + (if cm then 0 else 1)
  let t := if sb then (if e = 0 then 2 else if e = 2 then 1 else if e = 1 then 3 else 0) else (if e = 0 then 3 else if e = 3 then 1 else if e = 1 then 2 else 0)
  let away := if 2 ≤ t then n + p % n else p % n
  if t % 2 = 1 then away + 2 * n else 2 * n - 1 - (away + 2 * n - 1) % (2 * n)
def nxt (n sg c : Nat) : Nat := stp n (sg.testBit (pl n c % n)) (decide (2 * n ≤ c)) (pl n c)
/-- one face, from a step on: what has been seen, and its steps -/
def walkF (n sg : Nat) : Nat → Nat → Nat → Nat × List Nat
  | 0, seen, _ => (seen, [])
  | f + 1, seen, c => if seen.testBit c then (seen, []) else
    match walkF n sg f (seen ||| 2 ^ c) (nxt n sg c) with
    | (s, l) => (s, c :: l)
/-- the faces, from a step on -/
def facesF (n sg : Nat) : Nat → Nat → Nat → List (List Nat)
  | 0, _, _ => []
  | k + 1, b, seen => if seen.testBit b then facesF n sg k (b + 1) seen else
    match walkF n sg (4 * n) seen b with
    | (s, l) => l :: facesF n sg k (b + 1) s
def faces (n sg : Nat) : List (List Nat) := facesF n sg (4 * n) 0 0
/-- the signs as a number: bit x is the sign of the letter x -/
def sgOf (n number : Nat) : Nat := (List.range n).foldl (fun o i => if number.testBit (n - 1 - i) then o ||| 2 ^ i else o) 0
/-- the genus, as the program counts it -/
def gen (n sg : Nat) : Int := ((n : Int) + 2 - ((faces n sg).length : Int)).tdiv 2
/-- the least genus and the first signs that have it; the signs below k are not yet tried -/
def leastF (n : Nat) : Nat → Option (Int × Nat) → Option (Int × Nat)
  | 0, b => b
  | k + 1, b => leastF n k (match b with
    | none => some (gen n (sgOf n k), k)
    | some (g, j) => if gen n (sgOf n k) < g then some (gen n (sgOf n k), k) else some (g, j))
/-- what the law says of them -/
def okB (n : Nat) : Bool := match leastF n (2 ^ n) none with
  | none => false
  | some (g, k) => if n % 2 == 1 then g == 0 && (faces n (sgOf n k)).length == n + 2 && (n == 1 || ((faces n (sgOf n k)).filter fun l => l.length == n).length == 2 && ((faces n (sgOf n k)).filter fun l => l.length == 2).length == n) else g != 0
end Go.Proofs.YtppkgilpmmhpoaaDoor
