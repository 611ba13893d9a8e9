/-
  Plain: different squares and parts of a rhythm.
-/
import Derived.Test.YtpoekblolicehaaDoorPlainB
import Derived.Maps.Views
namespace Go.Proofs.YtpoekblolicehaaDoor

/-- the different ones of a list of strings, in the order of their first coming -/
def addW (acc : List Str) (x : Str) : List Str := if acc.contains x = true then acc else acc ++ [x]
def dif (xs : List Str) : List Str := xs.foldl addW []
theorem dif_snoc (xs : List Str) (x : Str) : dif (xs ++ [x]) = addW (dif xs) x := by simp [dif]
theorem addW_yes {acc : List Str} {x : Str} (h : acc.contains x = true) : addW acc x = acc := by unfold addW; rw [if_pos h]
theorem addW_no {acc : List Str} {x : Str} (h : acc.contains x = false) : addW acc x = acc ++ [x] := by unfold addW; rw [if_neg (by rw [h]; decide)]
theorem mem_addW (acc : List Str) (x y : Str) : y ∈ addW acc x ↔ y ∈ acc ∨ y = x := by
  unfold addW
  split
  · rename_i h
    rw [List.contains_iff_mem] at h
    constructor
    · exact .inl
    · rintro (h2 | rfl)
      · exact h2
      · exact h
  · simp
theorem nodup_addW {acc : List Str} (x : Str) (h : acc.Nodup) : (addW acc x).Nodup := by
  unfold addW
  split
  · exact h
  · rename_i hx
    rw [List.contains_iff_mem] at hx
    rw [List.nodup_append]
    refine ⟨h, by simp, fun a ha b hb => ?_⟩
    rw [List.mem_singleton] at hb
    subst hb
    rintro rfl
    exact hx ha
theorem dif_fold (xs : List Str) : ∀ acc : List Str, acc.Nodup → (xs.foldl addW acc).Nodup ∧ ∀ y, y ∈ xs.foldl addW acc ↔ y ∈ acc ∨ y ∈ xs := by
  induction xs with
  | nil => intro acc h; exact ⟨h, fun y => by simp⟩
  | cons x xs ih =>
    intro acc h
    obtain ⟨a, b⟩ := ih (addW acc x) (nodup_addW x h)
    refine ⟨a, fun y => ?_⟩
    rw [List.foldl_cons, b, mem_addW, List.mem_cons, or_assoc]
theorem nodup_dif (xs : List Str) : (dif xs).Nodup := (dif_fold xs [] List.nodup_nil).1
theorem mem_dif (xs : List Str) (y : Str) : y ∈ dif xs ↔ y ∈ xs := by
  have := (dif_fold xs [] List.nodup_nil).2 y
  unfold dif
  rw [this]; simp
theorem dif_le (xs : List Str) : (dif xs).length ≤ xs.length := by
  suffices ∀ (xs acc : List Str), (xs.foldl addW acc).length ≤ acc.length + xs.length by have := this xs []; unfold dif; simpa using this
  intro xs
  induction xs with
  | nil => intro acc; exact Nat.le_refl _
  | cons x xs ih =>
    intro acc
    refine Nat.le_trans (ih _) ?_
    have : (addW acc x).length ≤ acc.length + 1 := by unfold addW; split <;> simp
    simp; omega
/-- a list without repeats is no longer than one that has all its elements -/
theorem length_le_of_sub {α : Type} [DecidableEq α] : ∀ {xs ys : List α}, xs.Nodup → (∀ x ∈ xs, x ∈ ys) → xs.length ≤ ys.length
  | [], _, _, _ => Nat.zero_le _
  | x :: xs, ys, h, hs => by
    obtain ⟨h1, h2⟩ := List.nodup_cons.1 h
    have hx := hs x (by simp)
    have := length_le_of_sub (xs := xs) (ys := ys.erase x) h2 (fun y hy => by
      rw [List.mem_erase_of_ne (by rintro rfl; exact h1 hy)]
      exact hs y (by simp [hy]))
    rw [List.length_erase_of_mem hx] at this
    have : 0 < ys.length := List.length_pos_of_mem hx
    simp; omega
theorem dif_len (xs ys : List Str) (h : ∀ y, y ∈ xs ↔ y ∈ ys) : (dif xs).length = (dif ys).length := by
  apply Nat.le_antisymm
  · exact length_le_of_sub (nodup_dif xs) (fun y hy => (mem_dif ys y).2 ((h y).1 ((mem_dif xs y).1 hy)))
  · exact length_le_of_sub (nodup_dif ys) (fun y hy => (mem_dif xs y).2 ((h y).2 ((mem_dif ys y).1 hy)))

/-- the squares: is the part of 2h letters from i one? -/
def isSq (l : Str) (h i : Nat) : Bool := part l i (i + h) == part l (i + h) (i + 2 * h)
/-- the squares of 2h letters, among the first k positions -/
def sqHalf (l : Str) (h k : Nat) : List Str := ((List.range k).filter (isSq l h)).map fun i => part l i (i + 2 * h)
theorem sqHalf_yes (l : Str) (h k : Nat) (hs : isSq l h k = true) : sqHalf l h (k + 1) = sqHalf l h k ++ [part l k (k + 2 * h)] := by simp [sqHalf, List.range_succ, hs]
theorem sqHalf_no (l : Str) (h k : Nat) (hs : isSq l h k = false) : sqHalf l h (k + 1) = sqHalf l h k := by simp [sqHalf, List.range_succ, hs]
theorem sqHalf_le (l : Str) (h k : Nat) : (sqHalf l h k).length ≤ k := by
  simp only [sqHalf, List.length_map]
  exact Nat.le_trans (List.length_filter_le _ _) (by simp)
/-- the squares whose halves have at most m letters -/
def sqTo (l : Str) (m : Nat) : List Str := (List.range m).flatMap fun j => sqHalf l (j + 1) (l.length + 1 - 2 * (j + 1))
theorem sqTo_succ (l : Str) (m : Nat) : sqTo l (m + 1) = sqTo l m ++ sqHalf l (m + 1) (l.length + 1 - 2 * (m + 1)) := by simp [sqTo, List.range_succ]
theorem sqTo_le (l : Str) : ∀ m, (sqTo l m).length ≤ m * l.length
  | 0 => by simp [sqTo]
  | m + 1 => by
    rw [sqTo_succ, List.length_append]
    have := sqTo_le l m
    have : (m + 1) * l.length = m * l.length + l.length := Nat.succ_mul _ _
    have := sqHalf_le l (m + 1) (l.length + 1 - 2 * (m + 1))
    omega
def squares (l : Str) : Nat := (dif (sqTo l l.length)).length
theorem mem_sqHalf (l : Str) (h k : Nat) (y : Str) : y ∈ sqHalf l h k ↔ ∃ i, i < k ∧ isSq l h i = true ∧ y = part l i (i + 2 * h) := by
  unfold sqHalf
  simp only [List.mem_map, List.mem_filter, List.mem_range]
  constructor
  · rintro ⟨i, ⟨h1, h2⟩, rfl⟩; exact ⟨i, h1, h2, rfl⟩
  · rintro ⟨i, h1, h2, rfl⟩; exact ⟨i, ⟨h1, h2⟩, rfl⟩
theorem mem_sqTo (l : Str) (m : Nat) (y : Str) : y ∈ sqTo l m ↔ ∃ h i, 1 ≤ h ∧ h ≤ m ∧ i + 2 * h ≤ l.length ∧ isSq l h i = true ∧ y = part l i (i + 2 * h) := by
  unfold sqTo
  simp only [List.mem_flatMap, List.mem_range, mem_sqHalf]
  constructor
  · rintro ⟨j, hj, i, hi, hs, rfl⟩
    exact ⟨j + 1, i, by omega, by omega, by omega, hs, rfl⟩
  · rintro ⟨h, i, h1, h2, h3, hs, rfl⟩
    refine ⟨h - 1, by omega, i, by omega, ?_, ?_⟩ <;> rw [show h - 1 + 1 = h by omega]
    exact hs
/-- the squares from i whose halves have at most k letters -/
def sqRow (l : Str) (i k : Nat) : List Str := ((List.range k).filter fun j => isSq l (j + 1) i).map fun j => part l i (i + 2 * (j + 1))
theorem sqRow_yes (l : Str) (i k : Nat) (hs : isSq l (k + 1) i = true) : sqRow l i (k + 1) = sqRow l i k ++ [part l i (i + 2 * (k + 1))] := by simp [sqRow, List.range_succ, hs]
theorem sqRow_no (l : Str) (i k : Nat) (hs : isSq l (k + 1) i = false) : sqRow l i (k + 1) = sqRow l i k := by simp [sqRow, List.range_succ, hs]
def sqRows (l : Str) (m : Nat) : List Str := (List.range m).flatMap fun i => sqRow l i ((l.length - i) / 2)
theorem sqRows_succ (l : Str) (m : Nat) : sqRows l (m + 1) = sqRows l m ++ sqRow l m ((l.length - m) / 2) := by simp [sqRows, List.range_succ]
theorem mem_sqRows (l : Str) (y : Str) : y ∈ sqRows l l.length ↔ y ∈ sqTo l l.length := by
  rw [mem_sqTo]
  unfold sqRows sqRow
  simp only [List.mem_flatMap, List.mem_range, List.mem_map, List.mem_filter]
  constructor
  · rintro ⟨i, hi, j, ⟨hj, hs⟩, rfl⟩
    exact ⟨j + 1, i, by omega, by omega, by omega, hs, rfl⟩
  · rintro ⟨h, i, h1, h2, h3, hs, rfl⟩
    refine ⟨i, by omega, h - 1, ⟨by omega, ?_⟩, ?_⟩ <;> rw [show h - 1 + 1 = h by omega]
    exact hs
theorem squares_rows (l : Str) : (dif (sqRows l l.length)).length = squares l := dif_len _ _ (mem_sqRows l)
theorem dif_append (xs ys : List Str) : dif (xs ++ ys) = ys.foldl addW (dif xs) := by simp [dif]

/-- the parts of m letters from the first k positions -/
def allP (l : Str) (m k : Nat) : List Str := (List.range k).map fun i => part l i (i + m)
theorem allP_succ (l : Str) (m k : Nat) : allP l m (k + 1) = allP l m k ++ [part l k (k + m)] := by simp [allP, List.range_succ]
def partsTo (l : Str) (k : Nat) : List Int := (List.range k).map fun j => ((dif (allP l (j + 1) (l.length + 1 - (j + 1)))).length : Int)
def partsL (l : Str) : List Int := partsTo l l.length
theorem partsTo_succ (l : Str) (k : Nat) : partsTo l (k + 1) = partsTo l k ++ [((dif (allP l (k + 1) (l.length + 1 - (k + 1)))).length : Int)] := by simp [partsTo, List.range_succ]
theorem partsTo_length (l : Str) (k : Nat) : (partsTo l k).length = k := by simp [partsTo]
theorem allP_length (l : Str) (m k : Nat) : (allP l m k).length = k := by simp [allP]

/-- a set of strings as the kit's maps tell it -/
def skey (x : Str) : Lit := .string x
theorem skey_key (x : Str) : WideAt.IsKeyLit (skey x) := trivial
theorem skey_same (x y : Str) : (skey x).sameKey (skey y) = (x == y) := rfl
def setD {H : Type} (xs : List Str) : DataW H := Maps.setOf (.lit (.bool true)) (xs.map skey)
theorem setD_snoc {H : Type} (xs : List Str) (x : Str) : setD (H := H) (xs ++ [x]) = (setD xs).put (skey x) (.lit (.bool true)) := by
  unfold setD
  rw [List.map_append, List.map_singleton, Maps.setOf_snoc]
theorem addKey_map (acc : List Str) (x : Str) : Maps.addKey (acc.map skey) (skey x) = (addW acc x).map skey := by
  have e : (acc.map skey).any (fun y => y.sameKey (skey x)) = acc.contains x := by
    induction acc with
    | nil => rfl
    | cons a acc ih =>
      rw [List.map_cons, List.any_cons, ih, List.contains_cons, skey_same]
      congr 1
      rw [Bool.eq_iff_iff, beq_iff_eq, beq_iff_eq]; exact eq_comm
  unfold Maps.addKey addW
  rw [e]
  split
  · rfl
  · rw [List.map_append]; rfl
theorem size_setD {H : Type} (xs : List Str) : Maps.size (setD (H := H) xs) = (dif xs).length := by
  unfold setD
  rw [Maps.size_setOf _ _ (fun x hx => by obtain ⟨y, _, rfl⟩ := List.mem_map.1 hx; exact skey_key y)]
  suffices ∀ (xs acc : List Str), ((xs.map skey).foldl Maps.addKey (acc.map skey)) = (xs.foldl addW acc).map skey by
    have := this xs []
    rw [List.map_nil] at this
    rw [this, List.length_map]; rfl
  intro xs
  induction xs with
  | nil => intro acc; rfl
  | cons x xs ih => intro acc; rw [List.map_cons, List.foldl_cons, addKey_map, ih]; rfl
end Go.Proofs.YtpoekblolicehaaDoor
