/-
  Plain: balanced rhythms.
-/
import Derived.Test.YtpoekblolicehaaDoorPlainB
namespace Go.Proofs.YtpoekblolicehaaDoor

/-- how many letters b the part of m letters from i has -/
def cb (l : Str) (m i : Nat) : Nat := (part l i (i + m)).count 98
def lowL (l : Str) (m : Nat) (ps : List Nat) : Nat := ps.foldl (fun a i => min a (cb l m i)) m
def highL (l : Str) (m : Nat) (ps : List Nat) : Nat := ps.foldl (fun a i => max a (cb l m i)) 0
theorem lowL_snoc (l : Str) (m : Nat) (ps : List Nat) (i : Nat) : lowL l m (ps ++ [i]) = min (lowL l m ps) (cb l m i) := by simp [lowL]
theorem highL_snoc (l : Str) (m : Nat) (ps : List Nat) (i : Nat) : highL l m (ps ++ [i]) = max (highL l m ps) (cb l m i) := by simp [highL]
theorem cb_le (l : Str) (m i : Nat) : cb l m i ≤ m := by
  unfold cb
  refine Nat.le_trans List.count_le_length ?_
  simp [part]; omega
theorem lowL_le (l : Str) (m : Nat) (ps : List Nat) : lowL l m ps ≤ m := by
  suffices ∀ (ps : List Nat) a, a ≤ m → ps.foldl (fun a i => min a (cb l m i)) a ≤ m from this ps m (Nat.le_refl _)
  intro ps
  induction ps with
  | nil => intro a h; exact h
  | cons i ps ih => intro a h; exact ih _ (by have := cb_le l m i; show min a _ ≤ m; omega)
theorem highL_le (l : Str) (m : Nat) (ps : List Nat) : highL l m ps ≤ m := by
  suffices ∀ (ps : List Nat) a, a ≤ m → ps.foldl (fun a i => max a (cb l m i)) a ≤ m from this ps 0 (Nat.zero_le _)
  intro ps
  induction ps with
  | nil => intro a h; exact h
  | cons i ps ih => intro a h; exact ih _ (by have := cb_le l m i; show max a _ ≤ m; omega)
/-- do the parts of m letters differ by at most one b? -/
def evenAt (l : Str) (m : Nat) : Bool := decide (highL l m (List.range (l.length + 1 - m)) ≤ lowL l m (List.range (l.length + 1 - m)) + 1)
def balTo (l : Str) (k : Nat) : Bool := (List.range k).all fun j => evenAt l (j + 1)
def ab (l : Str) : Bool := l.all fun c => decide (c.toNat ≤ 98)
def balanced (l : Str) : Bool := ab l && balTo l l.length
theorem balTo_no (l : Str) (k n : Nat) (hk : k < n) (h : evenAt l (k + 1) = false) : balTo l n = false := by
  unfold balTo
  rw [List.all_eq_false]
  exact ⟨k, by simpa using hk, by simp [h]⟩
theorem balTo_yes (l : Str) (n : Nat) (h : ∀ j, j < n → evenAt l (j + 1) = true) : balTo l n = true := by
  unfold balTo
  rw [List.all_eq_true]
  intro j hj
  exact h j (by simpa using hj)
end Go.Proofs.YtpoekblolicehaaDoor
