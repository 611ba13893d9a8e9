/-
  Plain: the theorem of Fine and Wilf.
-/
import Derived.Test.YtpoekblolicehaaDoorPlainB
namespace Go.Proofs.YtpoekblolicehaaDoor

/-- p is a period of the first n values of f -/
def Pf {α : Type} (f : Nat → α) (p n : Nat) : Prop := ∀ i, i + p < n → f i = f (i + p)
theorem Pf.mod {α : Type} {f : Nat → α} {p n : Nat} (h : Pf f p n) (hp : 1 ≤ p) : ∀ i, i < n → f i = f (i % p) := by
  intro i
  induction i using Nat.strongRecOn with
  | ind i ih =>
    intro hi
    by_cases hlt : i < p
    · rw [Nat.mod_eq_of_lt hlt]
    · have h1 := h (i - p) (by omega)
      rw [show i - p + p = i by omega] at h1
      rw [← h1, ih (i - p) (by omega) (by omega), Nat.mod_eq_sub_mod (by omega : i ≥ p)]
theorem gcd_sub_right (p q : Nat) (h : p ≤ q) : Nat.gcd p (q - p) = Nat.gcd p q := by
  obtain ⟨d, rfl⟩ : ∃ d, q = d + p := ⟨q - p, by omega⟩
  simp
theorem fineWilf {α : Type} (f : Nat → α) : ∀ (s p q n : Nat), p + q ≤ s → 1 ≤ p → 1 ≤ q → Pf f p n → Pf f q n → p + q ≤ n + Nat.gcd p q → Pf f (Nat.gcd p q) n := by
  intro s
  induction s with
  | zero => intro p q n h h1; omega
  | succ s ih =>
    intro p q n hs hp hq hP hQ hn
    -- the case p < q
    have lt : ∀ p q : Nat, p + q ≤ s + 1 → 1 ≤ p → p < q → Pf f p n → Pf f q n → p + q ≤ n + Nat.gcd p q → Pf f (Nat.gcd p q) n := by
      intro p q hs hp hpq hP hQ hn
      have hg := gcd_sub_right p q (by omega)
      have hdvd : Nat.gcd p q ∣ q - p := by rw [← hg]; exact Nat.gcd_dvd_right _ _
      have hgl : Nat.gcd p q ≤ q - p := Nat.le_of_dvd (by omega) hdvd
      have h1 : Pf f p (n - p) := fun i hi => hP i (by omega)
      have h2 : Pf f (q - p) (n - p) := by
        intro i hi
        rw [hQ i (by omega), show i + q = i + (q - p) + p by omega]
        exact (hP (i + (q - p)) (by omega)).symm
      have h3 := ih p (q - p) (n - p) (by omega) hp (by omega) h1 h2 (by rw [hg]; omega)
      rw [hg] at h3
      have hgp : 1 ≤ Nat.gcd p q := Nat.gcd_pos_of_pos_left _ hp
      have hd : Nat.gcd p q ∣ p := Nat.gcd_dvd_left _ _
      have all : ∀ i, i < n → f i = f (i % Nat.gcd p q) := by
        intro i hi
        have hm := Nat.mod_lt i (show p > 0 by omega)
        rw [hP.mod hp i hi, h3.mod hgp (i % p) (by omega), Nat.mod_mod_of_dvd _ hd]
      intro i hi
      rw [all i (by omega), all (i + Nat.gcd p q) hi, Nat.add_mod_right]
    rcases Nat.lt_trichotomy p q with h | h | h
    · exact lt p q hs hp h hP hQ hn
    · subst h; rw [Nat.gcd_self]; exact hP
    · rw [Nat.gcd_comm]
      exact lt q p (by omega) hq h hQ hP (by rw [Nat.gcd_comm]; omega)

/-- what period says, letter by letter -/
theorem period_iff (l : Str) (p : Nat) (hp : p ≤ l.length) : period l p = true ↔ Pf (fun i => l[i]?) p l.length := by
  unfold period
  rw [beq_iff_eq]
  constructor
  · intro h i hi
    have := congrArg (fun x : Str => x[i]?) h
    simp only [List.getElem?_drop, List.getElem?_take] at this
    rw [if_pos (by omega)] at this
    show l[i]? = l[i + p]?
    rw [← this, Nat.add_comm]
  · intro h
    apply List.ext_getElem?
    intro i
    simp only [List.getElem?_drop, List.getElem?_take]
    by_cases hi : i + p < l.length
    · rw [if_pos (by omega), Nat.add_comm]
      exact (h i hi).symm
    · rw [if_neg (by omega), List.getElem?_eq_none (by omega)]

theorem period_gcd (l : Str) (p q : Nat) (hp : 1 ≤ p) (hq : 1 ≤ q) (hpl : p ≤ l.length) (hql : q ≤ l.length) (h1 : period l p = true) (h2 : period l q = true) (hn : p + q ≤ l.length + Nat.gcd p q) : period l (Nat.gcd p q) = true := by
  have hg : Nat.gcd p q ≤ p := Nat.gcd_le_left _ hp
  rw [period_iff _ _ hpl] at h1
  rw [period_iff _ _ hql] at h2
  rw [period_iff _ _ (by omega)]
  exact fineWilf _ _ p q _ (Nat.le_refl _) hp hq h1 h2 hn
end Go.Proofs.YtpoekblolicehaaDoor
