/-
  Chapter 12: a dispute that came in as a number and a list of attacks.
-/
import Derived.Test.YtaedbkdimpdngaaPlainG
namespace Go.Proofs.Ytaedbkdimpdngaa
abbrev Pr := Int × Int
/-- the dispute of n claims with some attacks -/
def dsp (n : Nat) (l : List Pr) : Dsp := ⟨n, fun a b => l.any fun p => p.1 == (a : Int) && p.2 == (b : Int)⟩
def inB (n : Int) (p : Pr) : Bool := decide (0 ≤ p.1 ∧ p.1 < n ∧ 0 ≤ p.2 ∧ p.2 < n)
def validP (n : Int) (l : List Pr) : Bool := decide (1 ≤ n ∧ n ≤ 12) && decide (l.length ≤ 40) && l.all (inB n)
theorem dsp_att (n : Nat) (l : List Pr) (a b : Nat) : (dsp n l).att a b = true ↔ ((a : Int), (b : Int)) ∈ l := by
  show (l.any _) = true ↔ _
  rw [List.any_eq_true]
  constructor
  · rintro ⟨⟨x, y⟩, h1, h2⟩
    simp only [Bool.and_eq_true, beq_iff_eq] at h2
    rw [← h2.1, ← h2.2]; exact h1
  · intro h
    exact ⟨_, h, by simp⟩
/-- whom each claim attacks, as numbers -/
def byL (d : Dsp) : List Nat := (List.range d.n).map fun a => mask (d.att a) d.n
/-- who attacks each claim -/
def fromL (d : Dsp) : List Nat := (List.range d.n).map fun b => mask (fun a => d.att a b) d.n
theorem byL_len (d : Dsp) : (byL d).length = d.n := by simp [byL]
theorem fromL_len (d : Dsp) : (fromL d).length = d.n := by simp [fromL]
theorem byL_at (d : Dsp) (a : Nat) (h : a < d.n) : (byL d).getD a 0 = mask (d.att a) d.n := by
  unfold byL
  rw [List.getD_eq_getElem?_getD, List.getElem?_map, List.getElem?_range h]; rfl
theorem fromL_at (d : Dsp) (b : Nat) (h : b < d.n) : (fromL d).getD b 0 = mask (fun a => d.att a b) d.n := by
  unfold fromL
  rw [List.getD_eq_getElem?_getD, List.getElem?_map, List.getElem?_range h]; rfl
theorem mask_or (f g : Nat → Bool) (n : Nat) : mask f n ||| mask g n = mask (fun i => f i || g i) n := by
  refine Nat.eq_of_testBit_eq fun i => ?_
  rw [Nat.testBit_or, mask_bit, mask_bit, mask_bit]
  cases decide (i < n) <;> simp
theorem mask_one {b n : Nat} (h : b < n) : mask (fun i => i == b) n = 2 ^ b := by
  refine Nat.eq_of_testBit_eq fun i => ?_
  rw [mask_bit]
  by_cases e : i = b
  · subst e; rw [Nat.testBit_two_pow_self, decide_eq_true h]; simp
  · rw [Nat.testBit_two_pow_of_ne (fun h => e h.symm)]; simp [e]
theorem mask_ext {f g : Nat → Bool} {n : Nat} (h : ∀ i, i < n → f i = g i) : mask f n = mask g n := by
  refine Nat.eq_of_testBit_eq fun i => ?_
  rw [mask_bit, mask_bit]
  by_cases hi : i < n
  · rw [h i hi]
  · rw [decide_eq_false hi]; rfl
theorem mask_none (n : Nat) : mask (fun _ => false) n = 0 := (zero_iff _).2 fun i => by rw [mask_bit, Bool.and_false]
theorem dsp_nil (n : Nat) : byL (dsp n []) = List.replicate n 0 ∧ fromL (dsp n []) = List.replicate n 0 := by
  have h : ∀ (f : Nat → Nat), (∀ a, f a = 0) → (List.range n).map f = List.replicate n 0 := fun f hf => by
    refine List.ext_getElem (by simp) fun i h1 h2 => ?_
    simp [hf]
  exact ⟨h _ fun a => mask_none n, h _ fun a => mask_none n⟩
theorem dsp_snoc_att (n : Nat) (l : List Pr) (A B a b : Nat) : (dsp n (l ++ [((A : Int), (B : Int))])).att a b = ((dsp n l).att a b || (a == A && b == B)) := by
  show (List.any (l ++ [_]) _) = (l.any _ || _)
  rw [List.any_append]
  congr 1
  simp only [List.any_cons, List.any_nil, Bool.or_false]
  rw [Bool.eq_iff_iff]
  simp only [Bool.and_eq_true, beq_iff_eq]
  omega
theorem byL_snoc (n : Nat) (l : List Pr) (A B : Nat) (hA : A < n) (hB : B < n) : byL (dsp n (l ++ [((A : Int), (B : Int))])) = (byL (dsp n l)).set A ((byL (dsp n l)).getD A 0 ||| 2 ^ B) := by
  refine List.ext_getElem (by simp [byL_len]; rfl) fun i h1 h2 => ?_
  have hi : i < n := by rw [byL_len] at h1; exact h1
  have e1 := byL_at (dsp n (l ++ [((A : Int), (B : Int))])) i hi
  have e2 := byL_at (dsp n l) i hi
  have e3 := byL_at (dsp n l) A hA
  rw [List.getD_eq_getElem?_getD, List.getElem?_eq_getElem h1] at e1
  have h3 : i < (byL (dsp n l)).length := by rw [byL_len]; exact hi
  rw [List.getD_eq_getElem?_getD, List.getElem?_eq_getElem h3] at e2
  simp only [Option.getD_some] at e1 e2
  rw [e1, List.getElem_set]
  by_cases e : A = i
  · subst e
    rw [if_pos rfl, e3, ← mask_one hB]
    rw [show (dsp n l).n = n from rfl, mask_or]
    exact mask_ext fun b _ => by rw [dsp_snoc_att]; simp
  · rw [if_neg e, e2]
    exact mask_ext fun b _ => by
      rw [dsp_snoc_att]
      have : (i == A) = false := by simp; omega
      rw [this]; simp
theorem fromL_snoc (n : Nat) (l : List Pr) (A B : Nat) (hA : A < n) (hB : B < n) : fromL (dsp n (l ++ [((A : Int), (B : Int))])) = (fromL (dsp n l)).set B ((fromL (dsp n l)).getD B 0 ||| 2 ^ A) := by
  refine List.ext_getElem (by simp [fromL_len]; rfl) fun i h1 h2 => ?_
  have hi : i < n := by rw [fromL_len] at h1; exact h1
  have e1 := fromL_at (dsp n (l ++ [((A : Int), (B : Int))])) i hi
  have e2 := fromL_at (dsp n l) i hi
  have e3 := fromL_at (dsp n l) B hB
  rw [List.getD_eq_getElem?_getD, List.getElem?_eq_getElem h1] at e1
  have h3 : i < (fromL (dsp n l)).length := by rw [fromL_len]; exact hi
  rw [List.getD_eq_getElem?_getD, List.getElem?_eq_getElem h3] at e2
  simp only [Option.getD_some] at e1 e2
  rw [e1, List.getElem_set]
  by_cases e : B = i
  · subst e
    rw [if_pos rfl, e3, ← mask_one hA]
    rw [show (dsp n l).n = n from rfl, mask_or]
    exact mask_ext fun a _ => by rw [dsp_snoc_att]; simp
  · rw [if_neg e, e2]
    exact mask_ext fun a _ => by
      rw [dsp_snoc_att]
      have : (i == B) = false := by simp; omega
      rw [this]; simp
/-- the sets that the members of a list attack, put together -/
theorem hit_fold (d : Dsp) (s : Nat) (k : Nat) : mask (fun b => (List.range (k + 1)).any fun a => s.testBit a && d.att a b) d.n = if s.testBit k then mask (fun b => (List.range k).any fun a => s.testBit a && d.att a b) d.n ||| mask (d.att k) d.n else mask (fun b => (List.range k).any fun a => s.testBit a && d.att a b) d.n := by
  cases h : s.testBit k with
  | true =>
    rw [if_pos rfl, mask_or]
    exact mask_ext fun b _ => by rw [List.range_succ, List.any_append]; simp [h]
  | false =>
    rw [if_neg (by decide)]
    exact mask_ext fun b _ => by rw [List.range_succ, List.any_append]; simp [h]
/-- .. as the program puts them together: along the list of the members -/
theorem hit_list (d : Dsp) (s : Nat) (hs : s < 2 ^ d.n) (hn : d.n ≤ 16) : (elems s).foldl (fun o i => o ||| (byL d).getD i 0) 0 = d.hit s := by
  refine Nat.eq_of_testBit_eq fun b => ?_
  have hf : ∀ (l : List Nat) (o : Nat), (l.foldl (fun o i => o ||| (byL d).getD i 0) o).testBit b = (o.testBit b || l.any fun i => ((byL d).getD i 0).testBit b) := by
    intro l
    induction l with
    | nil => intro o; simp
    | cons a l ih => intro o; rw [List.foldl_cons, ih, Nat.testBit_or, List.any_cons, Bool.or_assoc]
  rw [hf, Nat.zero_testBit, Bool.false_or, Bool.eq_iff_iff, List.any_eq_true, d.hit_iff]
  constructor
  · rintro ⟨a, h1, h2⟩
    have h3 := (mem_elems s a).1 h1
    have ha := bit_lt hs h3.2
    rw [byL_at d a ha, mask_bit, Bool.and_eq_true, decide_eq_true_eq] at h2
    exact ⟨h2.1, a, ha, h3.2, h2.2⟩
  · rintro ⟨h1, a, h2, h3, h4⟩
    exact ⟨a, (mem_elems s a).2 ⟨by omega, h3⟩, by rw [byL_at d a h2, mask_bit, decide_eq_true h1, h4]; rfl⟩
/-- the test for a claim that is defended -/
theorem dfd_test (d : Dsp) (s i : Nat) (hi : i < d.n) : (d.dfd s).testBit i = (diff ((fromL d).getD i 0) (d.hit s) == 0) := by
  rw [fromL_at d i hi]
  show _ = sub _ _
  rw [Bool.eq_iff_iff, d.dfd_iff, sub_iff]
  constructor
  · rintro ⟨_, h⟩ j hj
    rw [mask_bit, Bool.and_eq_true, decide_eq_true_eq] at hj
    exact h j hj.1 hj.2
  · intro h
    exact ⟨hi, fun j hj h2 => h j (by rw [mask_bit, decide_eq_true hj, h2]; rfl)⟩
theorem dfd_fold (d : Dsp) (s : Nat) : ∀ k, k ≤ d.n → mask (fun i => (d.dfd s).testBit i) k = (List.range k).foldl (fun o i => if diff ((fromL d).getD i 0) (d.hit s) == 0 then o ||| 2 ^ i else o) 0
  | 0, _ => rfl
  | k + 1, h => by
    rw [List.range_succ, List.foldl_append, ← dfd_fold d s k (by omega)]
    show (if (d.dfd s).testBit k = true then _ else _) = _
    rw [dfd_test d s k (by omega)]; rfl
theorem dfd_all (d : Dsp) (s : Nat) : mask (fun i => (d.dfd s).testBit i) d.n = d.dfd s := by
  refine Nat.eq_of_testBit_eq fun i => ?_
  rw [mask_bit]
  by_cases h : i < d.n
  · rw [decide_eq_true h]; rfl
  · rw [decide_eq_false h]
    cases e : (d.dfd s).testBit i with
    | false => rfl
    | true => exact absurd ((d.dfd_iff s i).1 e).1 h
theorem elems_fold (s : Nat) (f : Nat → Nat → Nat) (o : Nat) : (elems s).foldl f o = (List.range 16).foldl (fun o i => if s.testBit i then f o i else o) o := by
  unfold elems
  rw [List.foldl_filter]
end Go.Proofs.Ytaedbkdimpdngaa
