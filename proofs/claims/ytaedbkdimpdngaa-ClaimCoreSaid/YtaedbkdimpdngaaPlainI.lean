/-
  Chapter 12 in plain words: lists of claims.
-/
import Derived.Test.YtaedbkdimpdngaaWalkS
namespace Go.Proofs.Ytaedbkdimpdngaa
open Go.RowKit
/-- whole numbers as values; lists of claims as lists of whole numbers -/
def zv (z : Int) : Value := .int .i64 z
def zl (x : List Nat) : List Int := x.map fun (i : Nat) => (i : Int)
theorem zl_zv (x : List Nat) : (zl x).map zv = x.map iv := by simp [zl, zv, iv, Function.comp_def]
def zAt (ys : List Int) (i : Nat) : Int := ys.getD i 0
/-- a list of claims as the functions want it -/
def okAt (n : Int) (ys : List Int) (i : Nat) : Bool := decide (0 ≤ zAt ys i) && decide (zAt ys i < n) && (i == 0 || decide (zAt ys (i - 1) < zAt ys i))
def okS (n : Int) (ys : List Int) : Bool := (List.range ys.length).all (okAt n ys)
def orT (ys : List Int) (k : Nat) : Nat := (ys.take k).foldl (fun o y => o ||| 2 ^ y.toNat) 0
def setS (ys : List Int) : Nat := orT ys ys.length
theorem or_bit (l : List Nat) : ∀ (o j : Nat), (l.foldl (fun o i => o ||| 2 ^ i) o).testBit j = (o.testBit j || l.contains j) := by
  induction l with
  | nil => intro o j; simp
  | cons a l ih =>
    intro o j
    rw [List.foldl_cons, ih, Nat.testBit_or, Nat.testBit_two_pow, List.contains_cons, Bool.or_assoc]
    have e : decide (a = j) = (j == a) := by
      rw [Bool.eq_iff_iff, decide_eq_true_iff, beq_iff_eq]
      exact ⟨fun h => h.symm, fun h => h.symm⟩
    rw [e]
theorem orT_zl (x : List Nat) : setS (zl x) = x.foldl (fun o i => o ||| 2 ^ i) 0 := by
  unfold setS orT zl
  rw [List.take_length, List.foldl_map]
  rfl
theorem setS_bit (x : List Nat) (j : Nat) : (setS (zl x)).testBit j = x.contains j := by
  rw [orT_zl, or_bit]; simp
theorem orT_succ (ys : List Int) (k : Nat) (h : k < ys.length) : orT ys (k + 1) = orT ys k ||| 2 ^ (zAt ys k).toNat := by
  unfold orT zAt
  rw [List.take_add_one, List.getElem?_eq_getElem h, Option.toList_some, List.foldl_append, List.getD_eq_getElem?_getD, List.getElem?_eq_getElem h]
  rfl
theorem okS_step {n : Int} {ys : List Int} (k : Nat) : (List.range (k + 1)).all (okAt n ys) = ((List.range k).all (okAt n ys) && okAt n ys k) := by
  rw [List.range_succ, List.all_append]; simp
theorem okS_no {n : Int} {ys : List Int} {k : Nat} (h : k < ys.length) (hk : okAt n ys k = false) : okS n ys = false := by
  unfold okS
  rw [List.all_eq_false]
  exact ⟨k, List.mem_range.2 h, by rw [hk]; decide⟩
theorem zl_at (x : List Nat) (i : Nat) : zAt (zl x) i = ((x.getD i 0 : Nat) : Int) := by
  unfold zAt zl
  rw [List.getD_eq_getElem?_getD, List.getD_eq_getElem?_getD, List.getElem?_map]
  cases x[i]? <;> rfl
theorem okS_zl {n : Nat} {x : List Nat} (hp : x.Pairwise (· < ·)) (hl : ∀ i, i ∈ x → i < n) : okS (n : Int) (zl x) = true := by
  unfold okS
  rw [List.all_eq_true]
  intro i hi
  rw [List.mem_range] at hi
  have hi2 : i < x.length := by simpa [zl] using hi
  have e0 : x.getD i 0 = x[i] := by rw [List.getD_eq_getElem?_getD, List.getElem?_eq_getElem hi2]; rfl
  have h1 := hl _ (List.getElem_mem hi2)
  unfold okAt
  rw [zl_at, zl_at, e0]
  simp only [Bool.and_eq_true, decide_eq_true_eq, Bool.or_eq_true, beq_iff_eq]
  refine ⟨⟨by omega, by omega⟩, ?_⟩
  by_cases h0 : i = 0
  · exact .inl h0
  · right
    have hj : i - 1 < x.length := by omega
    have e1 : x.getD (i - 1) 0 = x[i - 1] := by rw [List.getD_eq_getElem?_getD, List.getElem?_eq_getElem hj]; rfl
    rw [e1]
    have := List.pairwise_iff_getElem.1 hp (i - 1) i hj hi2 (by omega)
    omega
theorem elems_up (s : Nat) : (elems s).Pairwise (· < ·) := (List.pairwise_lt_range).sublist List.filter_sublist
theorem elems_lt {s n : Nat} (hs : s < 2 ^ n) : ∀ i, i ∈ elems s → i < n := fun i hi => bit_lt hs ((mem_elems s i).1 hi).2
theorem okS_elems {s n : Nat} (hs : s < 2 ^ n) : okS (n : Int) (zl (elems s)) = true := okS_zl (elems_up s) (elems_lt hs)
theorem setS_elems {s n : Nat} (hs : s < 2 ^ n) (hn : n ≤ 16) : setS (zl (elems s)) = s := by
  refine Nat.eq_of_testBit_eq fun j => ?_
  rw [setS_bit, Bool.eq_iff_iff, List.contains_iff_mem, mem_elems]
  exact ⟨fun h => h.2, fun h => ⟨by have := bit_lt hs h; omega, h⟩⟩
theorem orT_lt {n : Nat} {ys : List Int} : ∀ k, k ≤ ys.length → (List.range k).all (okAt (n : Int) ys) = true → orT ys k < 2 ^ n := by
  intro k
  induction k with
  | zero => intro _ _; exact Nat.two_pow_pos n
  | succ k ih =>
    intro hk ha
    rw [okS_step, Bool.and_eq_true] at ha
    have h2 := ha.2
    unfold okAt at h2
    simp only [Bool.and_eq_true, decide_eq_true_eq] at h2
    rw [orT_succ ys k (by omega)]
    exact Nat.or_lt_two_pow (ih (by omega) ha.1) (Nat.pow_lt_pow_right (by decide) (by omega))
theorem setS_lt {n : Int} {ys : List Int} (hn : 0 ≤ n) (h : okS n ys = true) : setS ys < 2 ^ n.toNat := by
  have : n = (n.toNat : Int) := by omega
  rw [this] at h
  exact orT_lt ys.length (Nat.le_refl _) h
end Go.Proofs.Ytaedbkdimpdngaa
