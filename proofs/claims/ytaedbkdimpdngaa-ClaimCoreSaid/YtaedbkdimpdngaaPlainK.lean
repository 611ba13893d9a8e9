/-
  Chapter 12 in plain words: how many rings there are.
-/
import Derived.Test.YtaedbkdimpdngaaPlainF
import Derived.Test.YtaedbkdimpdngaaPlainI
namespace Go.Proofs.Ytaedbkdimpdngaa
open Go.RowKit
/-- how many rings there are: a bound -/
def Tn : Nat → Nat
  | 0 => 1
  | j + 1 => 1 + (j + 1) * Tn j
theorem Tn_pos : ∀ j, 1 ≤ Tn j
  | 0 => Nat.le_refl _
  | j + 1 => by unfold Tn; omega
theorem Tn_step (j : Nat) : Tn j ≤ Tn (j + 1) := Nat.le_trans (Nat.le_mul_of_pos_left (Tn j) (Nat.succ_pos j)) (Nat.le_add_left _ 1)
theorem Tn_mono {a b : Nat} (h : a ≤ b) : Tn a ≤ Tn b := by
  induction b with
  | zero => have : a = 0 := by omega
            rw [this]; exact Nat.le_refl _
  | succ b ih =>
    by_cases e : a = b + 1
    · rw [e]; exact Nat.le_refl _
    · exact Nat.le_trans (ih (by omega)) (Tn_step b)
theorem flat_len {α β : Type} (p : α → Bool) (g : α → List β) (M : Nat) : ∀ (xs : List α), (∀ b, b ∈ xs → (p b = true → (g b).length ≤ M) ∧ (p b = false → g b = [])) → (xs.flatMap g).length ≤ (xs.filter p).length * M
  | [], _ => by simp
  | x :: xs, h => by
    have h1 := flat_len p g M xs fun b hb => h b (List.mem_cons_of_mem _ hb)
    have h2 := h x (List.mem_cons_self ..)
    rw [List.flatMap_cons, List.length_append]
    cases e : p x with
    | true =>
      rw [List.filter_cons, if_pos e, List.length_cons, Nat.add_mul, Nat.one_mul]
      have := h2.1 e
      omega
    | false =>
      rw [List.filter_cons, if_neg (by rw [e]; decide), h2.2 e]
      simpa using h1
theorem filter_le {α : Type} (p q : α → Bool) : ∀ (xs : List α), (∀ x, x ∈ xs → q x = true → p x = true) → (xs.filter q).length ≤ (xs.filter p).length
  | [], _ => by simp
  | x :: xs, h => by
    have h1 := filter_le p q xs fun y hy => h y (List.mem_cons_of_mem _ hy)
    have h2 := h x (List.mem_cons_self ..)
    cases e : q x with
    | true => rw [List.filter_cons, if_pos e, List.filter_cons, if_pos (h2 e)]; simpa using h1
    | false =>
      rw [List.filter_cons, if_neg (by rw [e]; decide), List.filter_cons]
      split <;> simp <;> omega
theorem filter_lt {α : Type} (p q : α → Bool) (b : α) (hp : p b = true) (hq : q b = false) : ∀ (xs : List α), b ∈ xs → (∀ x, x ∈ xs → q x = true → p x = true) → (xs.filter q).length < (xs.filter p).length
  | [], hb, _ => by simp at hb
  | x :: xs, hb, h => by
    have h0 := filter_le p q xs fun y hy => h y (List.mem_cons_of_mem _ hy)
    have h2 := h x (List.mem_cons_self ..)
    rcases List.mem_cons.1 hb with rfl | hb
    · rw [List.filter_cons, if_neg (by rw [hq]; decide), List.filter_cons, if_pos hp, List.length_cons]; omega
    · have h1 := filter_lt p q b hp hq xs hb fun y hy => h y (List.mem_cons_of_mem _ hy)
      cases e : q x with
      | true => rw [List.filter_cons, if_pos e, List.filter_cons, if_pos (h2 e)]; simpa using h1
      | false =>
        rw [List.filter_cons, if_neg (by rw [e]; decide), List.filter_cons]
        split <;> simp <;> omega
def free (d : Dsp) (h : Nat) (l : List Nat) : Nat := ((List.range d.n).filter fun b => decide (h < b) && !l.contains b).length
theorem free_less (d : Dsp) (h b : Nat) (l : List Nat) (hb : b < d.n) (h1 : h < b) (h2 : l.contains b = false) : free d h (l ++ [b]) < free d h l := by
  refine filter_lt _ _ b ?_ ?_ _ (List.mem_range.2 hb) fun x _ hx => ?_
  · rw [decide_eq_true h1, h2]; rfl
  · simp
  · rw [Bool.and_eq_true] at hx ⊢
    refine ⟨hx.1, ?_⟩
    have h3 := hx.2
    simp at h3 ⊢
    exact h3.1
theorem rgs_len (d : Dsp) (h : Nat) : ∀ (k : Nat) (l : List Nat), (d.rgs h k l).length ≤ Tn (free d h l)
  | 0, l => Nat.zero_le _
  | k + 1, l => by
    unfold Dsp.rgs
    rw [List.length_append]
    have h1 : (if d.att (lastN h l) h = true then [h :: l] else []).length ≤ 1 := by split <;> simp
    cases hf : free d h l with
    | zero =>
      have h2 := flat_len (fun b => decide (h < b) && !l.contains b) (fun b => if decide (h < b) && d.att (lastN h l) b && !l.contains b then d.rgs h k (l ++ [b]) else []) 0 (List.range d.n) fun b hb => ⟨fun e => by
        have : 0 < free d h l := by
          unfold free
          exact List.length_pos_of_mem (List.mem_filter.2 ⟨hb, e⟩)
        omega, fun e => by
        refine if_neg fun e2 => ?_
        simp only [Bool.and_eq_true] at e2
        rw [e2.1.1, e2.2] at e
        cases e⟩
      show _ ≤ 1
      omega
    | succ j =>
      have h2 := flat_len (fun b => decide (h < b) && !l.contains b) (fun b => if decide (h < b) && d.att (lastN h l) b && !l.contains b then d.rgs h k (l ++ [b]) else []) (Tn j) (List.range d.n) fun b hb => ⟨fun e => by
        rw [Bool.and_eq_true, decide_eq_true_eq, Bool.not_eq_true'] at e
        have h3 := free_less d h b l (List.mem_range.1 hb) e.1 e.2
        split
        · exact Nat.le_trans (rgs_len d h k (l ++ [b])) (Tn_mono (by omega))
        · exact Nat.zero_le _, fun e => by
        refine if_neg fun e2 => ?_
        simp only [Bool.and_eq_true] at e2
        rw [e2.1.1, e2.2] at e
        cases e⟩
      have h4 : ((List.range d.n).filter fun b => decide (h < b) && !l.contains b).length = j + 1 := hf
      rw [h4] at h2
      show _ ≤ 1 + (j + 1) * Tn j
      omega
theorem rings_len (d : Dsp) (hn : d.n ≤ 8) : d.rings.length ≤ 200000 := by
  have h1 := flat_len (fun _ => true) (fun a => d.rgs a d.n []) (Tn 7) (List.range d.n) fun a ha => ⟨fun _ => by
    refine Nat.le_trans (rgs_len d a d.n []) (Tn_mono ?_)
    have h2 := filter_lt (fun _ => true) (fun b => decide (a < b) && !([] : List Nat).contains b) a rfl (by simp) (List.range d.n) ha fun _ _ _ => rfl
    have h3 : ((List.range d.n).filter fun _ => true).length ≤ d.n := Nat.le_trans (List.length_filter_le _ _) (by rw [List.length_range]; exact Nat.le_refl _)
    show ((List.range d.n).filter fun b => decide (a < b) && !([] : List Nat).contains b).length ≤ 7
    omega, fun e => by cases e⟩
  have h4 : ((List.range d.n).filter fun _ => true).length ≤ 8 := Nat.le_trans (List.length_filter_le _ _) (by rw [List.length_range]; exact hn)
  have h5 : Tn 7 = 13700 := by decide
  have h6 := Nat.mul_le_mul h4 (Nat.le_refl (Tn 7))
  rw [h5] at h1 h6
  unfold Dsp.rings
  omega
theorem flat_prefix {β : Type} (f : Nat → List β) {b n : Nat} (h : b ≤ n) : ((List.range b).flatMap f).length ≤ ((List.range n).flatMap f).length := by
  induction n with
  | zero => have : b = 0 := by omega
            rw [this]; exact Nat.le_refl _
  | succ n ih =>
    by_cases e : b = n + 1
    · rw [e]; exact Nat.le_refl _
    · rw [List.range_succ, List.flatMap_append, List.length_append]
      have := ih (by omega)
      omega
theorem flat_succ {β : Type} (f : Nat → List β) (b : Nat) : (List.range (b + 1)).flatMap f = (List.range b).flatMap f ++ f b := by
  rw [List.range_succ, List.flatMap_append]; simp
theorem flat_none {β : Type} (f : Nat → List β) (b : Nat) (h : ∀ i, i < b → f i = []) : (List.range b).flatMap f = [] := by
  induction b with
  | zero => rfl
  | succ b ih => rw [flat_succ, ih fun i hi => h i (by omega), h b (by omega)]; rfl
/-- the set of the claims of a way -/
def usd (x : List Nat) : Nat := x.foldl (fun o i => o ||| 2 ^ i) 0
theorem usd_bit (x : List Nat) (j : Nat) : (usd x).testBit j = x.contains j := by
  unfold usd
  rw [or_bit, Nat.zero_testBit, Bool.false_or]
theorem usd_snoc (x : List Nat) (b : Nat) : usd (x ++ [b]) = usd x ||| 2 ^ b := by
  unfold usd
  rw [List.foldl_append]; rfl
theorem usd_lt {n : Nat} {x : List Nat} (h : ∀ a, a ∈ x → a < n) : usd x < 2 ^ n := by
  refine Nat.lt_pow_two_of_testBit _ fun i hi => ?_
  rw [usd_bit]
  refine Bool.eq_false_iff.2 fun e => ?_
  have := h i (by simpa using e)
  omega
end Go.Proofs.Ytaedbkdimpdngaa
