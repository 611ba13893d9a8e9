/-
  Plain: a balanced Lyndon word with both letters is an even rhythm.
-/
import Derived.Test.YtpoekblolicehaaDoorPlainL
namespace Go.Proofs.YtpoekblolicehaaDoor

/-- B counts in a word of n letters: each step adds at most one; the word is balanced, and less than each of its ends -/
structure Chr (B : Nat → Nat) (n : Nat) : Prop where
  zero : B 0 = 0
  mono : ∀ i j, i ≤ j → B i ≤ B j
  bal : ∀ i j m, i + m ≤ n → j + m ≤ n → B (i + m) + B j ≤ B (j + m) + B i + 1
  lyn : ∀ r, 1 ≤ r → r < n → ∃ k, r + k < n ∧ B (r + k + 1) = B r + B (k + 1) + 1 ∧ ∀ t, t ≤ k → B (r + t) = B r + B t

theorem Chr.low {B : Nat → Nat} {n : Nat} (c : Chr B n) (i m : Nat) (h : i + m ≤ n) : B i + B m ≤ B (i + m) := by
  by_cases hi : i = 0
  · subst hi; rw [Nat.zero_add, c.zero]; omega
  · by_cases hin : i < n
    · obtain ⟨k, k1, k2, k3⟩ := c.lyn i (by omega) hin
      by_cases hm : m ≤ k
      · rw [k3 m hm]; exact Nat.le_refl _
      · have := c.bal (k + 1) (i + k + 1) (m - (k + 1)) (by omega) (by omega)
        rw [show k + 1 + (m - (k + 1)) = m by omega, show i + k + 1 + (m - (k + 1)) = i + m by omega] at this
        omega
    · have : m = 0 := by omega
      subst this; rw [c.zero]; simp
theorem Chr.top {B : Nat → Nat} {n : Nat} (c : Chr B n) : ∀ m j, j + m ≤ n → B (j + m) + B (n - m) ≤ B n + B j := by
  intro m
  induction m using Nat.strongRecOn with
  | ind m ih =>
    intro j h
    by_cases h0 : m = 0
    · subst h0; simp; omega
    by_cases hn : m = n
    · subst hn
      have : j = 0 := by omega
      subst this; simp [c.zero]
    apply Nat.le_of_not_lt
    intro hlt
    have l1 := c.low (n - m) m (by omega)
    rw [show n - m + m = n by omega] at l1
    have b1 := c.bal j 0 m h (by omega)
    rw [Nat.zero_add, c.zero] at b1
    have b0 := c.mono (n - m) n (by omega)
    obtain ⟨k, k1, k2, k3⟩ := c.lyn (n - m) (by omega) (by omega)
    have := ih (m - (k + 1)) (by omega) (k + 1) (by omega)
    rw [show k + 1 + (m - (k + 1)) = m by omega, show n - (m - (k + 1)) = n - m + k + 1 by omega] at this
    omega
theorem Chr.rest {B : Nat → Nat} {n : Nat} (c : Chr B n) (m : Nat) (h1 : 1 ≤ m) (h2 : m < n) : B n = B m + B (n - m) + 1 := by
  have l1 := c.low (n - m) m (by omega)
  rw [show n - m + m = n by omega] at l1
  have b1 := c.bal (n - m) 0 m (by omega) (by omega)
  rw [Nat.zero_add, c.zero, show n - m + m = n by omega] at b1
  have hne : B n ≠ B m + B (n - m) := by
    intro he
    obtain ⟨k, k1, k2, k3⟩ := c.lyn (n - m) (by omega) (by omega)
    have := c.top (m - (k + 1)) (k + 1) (by omega)
    rw [show k + 1 + (m - (k + 1)) = m by omega, show n - (m - (k + 1)) = n - m + k + 1 by omega] at this
    omega
  omega
/-- the count, the word being repeated for ever -/
def Ext (B : Nat → Nat) (n i : Nat) : Nat := (i / n) * B n + B (i % n)
theorem extn_at (B : Nat → Nat) (n d r : Nat) (h : r < n) : Ext B n (n * d + r) = d * B n + B r := by
  unfold Ext
  rw [Nat.mul_add_div (by omega), Nat.mul_add_mod, Nat.div_eq_of_lt h, Nat.mod_eq_of_lt h, Nat.add_zero]
theorem Chr.step {B : Nat → Nat} {n : Nat} (c : Chr B n) (i m : Nat) (hm1 : 1 ≤ m) (hm : m < n) : Ext B n i + B m ≤ Ext B n (i + m) ∧ Ext B n (i + m) ≤ Ext B n i + B m + 1 := by
  have hi := Nat.div_add_mod i n
  have hr := Nat.mod_lt i (show n > 0 by omega)
  generalize i / n = d at *
  generalize i % n = r at *
  subst hi
  rw [extn_at B n d r hr]
  by_cases h : r + m < n
  · rw [Nat.add_assoc (n * d) r m, extn_at B n d _ h]
    have a := c.low r m (by omega)
    have b := c.bal r 0 m (by omega) (by omega)
    rw [Nat.zero_add, c.zero] at b
    omega
  · rw [show n * d + r + m = n * (d + 1) + (r + m - n) by rw [Nat.mul_add]; omega, extn_at B n _ _ (by omega), Nat.add_mul, Nat.one_mul]
    have hq := c.rest (n - r) (by omega) (by omega)
    rw [show n - (n - r) = r by omega] at hq
    have a := c.low (n - r) (r + m - n) (by omega)
    have b := c.bal (n - r) 0 (r + m - n) (by omega) (by omega)
    rw [Nat.zero_add, c.zero, show n - r + (r + m - n) = m by omega] at b
    rw [show n - r + (r + m - n) = m by omega] at a
    omega
theorem Chr.times {B : Nat → Nat} {n : Nat} (c : Chr B n) (m : Nat) (hm1 : 1 ≤ m) (hm : m < n) : ∀ k, (k + 1) * B m ≤ Ext B n ((k + 1) * m) ∧ Ext B n ((k + 1) * m) ≤ (k + 1) * B m + k
  | 0 => by
    have := c.step 0 m hm1 hm
    rw [show Ext B n 0 = 0 by simp [Ext, c.zero], Nat.zero_add] at this
    have e : Ext B n m = B m := by have := extn_at B n 0 m hm; simpa using this
    rw [Nat.zero_add, Nat.one_mul, Nat.one_mul, e]
    omega
  | k + 1 => by
    have ih := c.times m hm1 hm k
    have := c.step ((k + 1) * m) m hm1 hm
    rw [Nat.add_mul (k + 1) 1 m, Nat.add_mul (k + 1) 1 (B m), Nat.one_mul, Nat.one_mul]
    omega
theorem Chr.count {B : Nat → Nat} {n : Nat} (c : Chr B n) (m : Nat) (hm : m ≤ n) (hn : 1 ≤ n) : B m = fl (B n) n m := by
  by_cases h0 : m = 0
  · subst h0; rw [c.zero, fl_zero]
  by_cases h1 : m = n
  · subst h1; rw [fl_full _ _ hn]
  have h := c.times m (by omega) (by omega) (n - 1)
  rw [show n - 1 + 1 = n by omega] at h
  have e : Ext B n (n * m) = m * B n := by
    have := extn_at B n m 0 (by omega)
    rw [Nat.add_zero, c.zero, Nat.add_zero] at this
    exact this
  rw [e] at h
  unfold fl
  symm
  rw [Nat.div_eq_iff (by omega)]
  have : B m * n = n * B m := Nat.mul_comm _ _
  omega
theorem Chr.coprime {B : Nat → Nat} {n : Nat} (c : Chr B n) (hn : 1 ≤ n) : Nat.gcd (B n) n = 1 := by
  apply Classical.byContradiction
  intro hg
  have hg0 : 0 < Nat.gcd (B n) n := Nat.gcd_pos_of_pos_right _ (by omega)
  obtain ⟨x, hx⟩ := Nat.gcd_dvd_left (B n) n
  obtain ⟨y, hy⟩ := Nat.gcd_dvd_right (B n) n
  generalize hgg : Nat.gcd (B n) n = g at *
  have hy1 : 1 ≤ y := by
    cases y with
    | zero => rw [Nat.mul_zero] at hy; omega
    | succ y => omega
  have hyn : y < n := by
    rw [hy]
    have := Nat.mul_le_mul_right y (show 2 ≤ g by omega)
    omega
  have r := c.rest y hy1 hyn
  have c1 := c.count y (by omega) hn
  have c2 := c.count (n - y) (by omega) hn
  have e1 : y * B n = n * x := by
    conv => lhs; rw [hx]
    conv => rhs; rw [hy]
    rw [Nat.mul_comm g x, ← Nat.mul_assoc, Nat.mul_comm, Nat.mul_comm y x, ← Nat.mul_assoc, Nat.mul_assoc g x y, Nat.mul_comm x y, Nat.mul_assoc]
  have e2 : fl (B n) n y = x := by
    unfold fl; rw [e1]; exact Nat.mul_div_cancel_left x (by omega)
  have hxq : x ≤ B n := by
    have := Nat.mul_le_mul_right x (show 1 ≤ g by omega)
    rw [Nat.one_mul] at this
    omega
  have e3 : fl (B n) n (n - y) = B n - x := by
    unfold fl
    rw [Nat.sub_mul, e1, ← Nat.mul_sub]
    exact Nat.mul_div_cancel_left _ (by omega)
  omega

/-- the letters b among the first i -/
def bc (l : Str) (i : Nat) : Nat := (l.take i).count 98
theorem bc_succ (l : Str) (i : Nat) (h : i < l.length) : bc l (i + 1) = bc l i + if l[i] = 98 then 1 else 0 := by
  unfold bc
  rw [List.take_succ_eq_append_getElem h, List.count_append]
  congr 1
  by_cases hc : l[i] = 98 <;> simp [hc]
theorem bc_over (l : Str) (i : Nat) (h : l.length ≤ i) : bc l i = l.count 98 := by unfold bc; rw [List.take_of_length_le h]
theorem bc_mono1 (l : Str) (i : Nat) : bc l i ≤ bc l (i + 1) := by
  by_cases h : i < l.length
  · rw [bc_succ l i h]; omega
  · rw [bc_over l i (by omega), bc_over l (i + 1) (by omega)]; exact Nat.le_refl _
theorem bc_mono (l : Str) (i j : Nat) (h : i ≤ j) : bc l i ≤ bc l j := by
  obtain ⟨k, rfl⟩ := Nat.le.dest h
  clear h
  induction k with
  | zero => exact Nat.le_refl _
  | succ k ih => exact Nat.le_trans ih (bc_mono1 l (i + k))
theorem bc_cb (l : Str) (i m : Nat) : bc l (i + m) = bc l i + cb l m i := by
  unfold bc cb part
  rw [List.take_add, List.count_append, show i + m - i = m by omega]
theorem low_le_at (l : Str) (m : Nat) (ps : List Nat) (i : Nat) (h : i ∈ ps) : lowL l m ps ≤ cb l m i := by
  suffices ∀ (ps : List Nat) a, i ∈ ps → ps.foldl (fun a i => min a (cb l m i)) a ≤ cb l m i from this ps m h
  have aux : ∀ (ps : List Nat) a, ps.foldl (fun a i => min a (cb l m i)) a ≤ a := by
    intro ps
    induction ps with
    | nil => intro a; exact Nat.le_refl _
    | cons j ps ih => intro a; exact Nat.le_trans (ih _) (Nat.min_le_left _ _)
  intro ps
  induction ps with
  | nil => intro a h; cases h
  | cons j ps ih =>
    intro a h
    rcases List.mem_cons.1 h with rfl | h
    · exact Nat.le_trans (aux ps _) (Nat.min_le_right _ _)
    · exact ih _ h
theorem at_le_high (l : Str) (m : Nat) (ps : List Nat) (i : Nat) (h : i ∈ ps) : cb l m i ≤ highL l m ps := by
  suffices ∀ (ps : List Nat) a, i ∈ ps → cb l m i ≤ ps.foldl (fun a i => max a (cb l m i)) a from this ps 0 h
  have aux : ∀ (ps : List Nat) a, a ≤ ps.foldl (fun a i => max a (cb l m i)) a := by
    intro ps
    induction ps with
    | nil => intro a; exact Nat.le_refl _
    | cons j ps ih => intro a; exact Nat.le_trans (Nat.le_max_left _ _) (ih _)
  intro ps
  induction ps with
  | nil => intro a h; cases h
  | cons j ps ih =>
    intro a h
    rcases List.mem_cons.1 h with rfl | h
    · exact Nat.le_trans (Nat.le_max_right _ _) (aux ps _)
    · exact ih _ h
theorem bal_cb {l : Str} (h : balanced l = true) (i j m : Nat) (hi : i + m ≤ l.length) (hj : j + m ≤ l.length) : cb l m i ≤ cb l m j + 1 := by
  by_cases h0 : m = 0
  · subst h0; simp [cb, part]
  unfold balanced balTo at h
  rw [Bool.and_eq_true, List.all_eq_true] at h
  have := h.2 (m - 1) (by simp; omega)
  rw [show m - 1 + 1 = m by omega] at this
  unfold evenAt at this
  rw [decide_eq_true_eq] at this
  have a := at_le_high l m (List.range (l.length + 1 - m)) i (by simp; omega)
  have b := low_le_at l m (List.range (l.length + 1 - m)) j (by simp; omega)
  omega
theorem bc_letter {l : Str} (hab : l.all (fun c => c == 97 || c == 98) = true) (i : Nat) (h : i < l.length) : (at' l i = 97 ∧ bc l (i + 1) = bc l i) ∨ (at' l i = 98 ∧ bc l (i + 1) = bc l i + 1) := by
  rw [List.all_eq_true] at hab
  have := hab l[i] (List.getElem_mem h)
  simp only [Bool.or_eq_true, beq_iff_eq] at this
  have e : at' l i = l[i].toNat := by unfold at' up; simp [h]
  rw [bc_succ l i h, e]
  rcases this with h | h <;> rw [h] <;> simp
theorem slt_first : ∀ (a b : Str), slt up a b = true → b.length ≤ a.length → ∃ k, k < b.length ∧ (∀ t, t < k → at' a t = at' b t) ∧ at' a k < at' b k
  | _, [], h, _ => by simp [slt] at h
  | [], _ :: _, _, h => by simp at h
  | x :: a, y :: b, h, hl => by
    simp only [slt] at h
    by_cases h1 : up x < up y
    · exact ⟨0, by simp, fun t ht => absurd ht (by omega), by simpa [at'] using h1⟩
    · rw [if_neg h1] at h
      by_cases h2 : up y < up x
      · rw [if_pos h2] at h; cases h
      · rw [if_neg h2] at h
        obtain ⟨k, k1, k2, k3⟩ := slt_first a b h (by simpa using hl)
        refine ⟨k + 1, by simpa using k1, fun t ht => ?_, by simpa [at'] using k3⟩
        cases t with
        | zero => simp [at']; omega
        | succ t => simpa [at'] using k2 t (by omega)
theorem chr_of {l : Str} (hab : l.all (fun c => c == 97 || c == 98) = true) (hl : isLyn l = true) (hb : balanced l = true) : Chr (bc l) l.length := by
  refine ⟨rfl, bc_mono l, fun i j m hi hj => ?_, fun r r1 r2 => ?_⟩
  · have := bal_cb hb i j m hi hj
    rw [bc_cb, bc_cb]; omega
  · obtain ⟨k, k1, k2, k3⟩ := slt_first _ _ (((isLyn_iff l).1 hl).2 r r1 r2) (by rw [List.length_drop]; omega)
    rw [List.length_drop] at k1
    have hs : ∀ t, t ≤ k → bc l (r + t) = bc l r + bc l t := by
      intro t
      induction t with
      | zero => intro _; simp [bc]
      | succ t ih =>
        intro ht
        have ih := ih (by omega)
        have e := k2 t (by omega)
        rw [at_drop] at e
        have a := bc_letter hab t (by omega)
        have b := bc_letter hab (r + t) (by omega)
        rw [← Nat.add_assoc]
        omega
    refine ⟨k, by omega, ?_, hs⟩
    rw [at_drop] at k3
    have a := bc_letter hab k (by omega)
    have b := bc_letter hab (r + k) (by omega)
    have := hs k (Nat.le_refl _)
    omega
/-- the converse of F6 -/
theorem even_conv {l : Str} (hab : l.all (fun c => c == 97 || c == 98) = true) (hl : isLyn l = true) (hb : balanced l = true) (h1 : 1 ≤ l.count 98) (h2 : l.count 98 < l.length) :
    Nat.gcd (l.length - l.count 98) (l.count 98) = 1 ∧ even (l.length - l.count 98) (l.count 98) = l := by
  have c := chr_of hab hl hb
  have hq : bc l l.length = l.count 98 := bc_over l _ (Nat.le_refl _)
  have hn : 1 ≤ l.length := by omega
  have hg := c.coprime hn
  have hcnt := fun m hm => c.count m hm hn
  rw [hq] at hg hcnt
  constructor
  · rw [← hg]
    rw [Nat.gcd_comm (l.count 98)]
    have := gcd_sub_right (l.count 98) l.length (by omega)
    rw [Nat.gcd_comm, this, Nat.gcd_comm]
  · refine ext_at _ _ (by rw [even_length]; omega) fun i hi => ?_
    rw [even_length] at hi
    rw [even_at' _ _ _ hi]
    have f := fl_step (l.length - l.count 98) (l.count 98) i (by omega)
    rw [show l.length - l.count 98 + l.count 98 = l.length by omega] at f
    have a := bc_letter hab i (by omega)
    have c1 := hcnt i (by omega)
    have c2 := hcnt (i + 1) (by omega)
    rcases f with ⟨f1, f2⟩ | ⟨f1, f2⟩ <;> rw [f1] <;> rcases a with ⟨a1, a2⟩ | ⟨a1, a2⟩ <;> first | omega | (rw [a1]; rfl)
end Go.Proofs.YtpoekblolicehaaDoor
