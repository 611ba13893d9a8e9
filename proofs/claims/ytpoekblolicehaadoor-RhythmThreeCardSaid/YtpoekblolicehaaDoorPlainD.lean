/-
  Plain: the periods of a rhythm as a set; a word that is repeated.
-/
import Derived.Test.YtpoekblolicehaaDoorPlainC
namespace Go.Proofs.YtpoekblolicehaaDoor

theorem mem_periods (l : Str) (v : Int) : v ∈ periods l ↔ ∃ p : Nat, v = p ∧ 1 ≤ p ∧ p ≤ l.length ∧ period l p = true := by
  simp only [periods, perTo, List.mem_map, List.mem_filter, List.mem_range]
  constructor
  · rintro ⟨i, ⟨hi, hp⟩, rfl⟩
    exact ⟨i + 1, rfl, by omega, by omega, hp⟩
  · rintro ⟨p, rfl, h1, h2, h3⟩
    exact ⟨p - 1, ⟨by omega, by rw [show p - 1 + 1 = p by omega]; exact h3⟩, by rw [show p - 1 + 1 = p by omega]⟩
theorem periods_mem_ix (l : Str) (i : Nat) (hi : i < (periods l).length) : ∃ p : Nat, ix (periods l) i = p ∧ 1 ≤ p ∧ p ≤ l.length ∧ period l p = true := by
  have : ix (periods l) i ∈ periods l := by
    unfold ix
    rw [List.getD_eq_getElem?_getD, List.getElem?_eq_getElem hi]
    simp
  obtain ⟨p, h1, h2⟩ := (mem_periods l _).1 this
  exact ⟨p, h1, h2⟩
theorem periods_last (l : Str) (h : 1 ≤ l.length) : ix (periods l) ((periods l).length - 1) = l.length := by
  obtain ⟨n, hn⟩ : ∃ n, l.length = n + 1 := ⟨l.length - 1, by omega⟩
  have : periods l = perTo l n ++ [((n + 1 : Nat) : Int)] := by
    unfold periods
    rw [hn]
    exact perTo_yes l n (by rw [← hn]; exact period_all l)
  rw [this, hn]
  simp [ix]

/-- a word k times -/
def rep (one : Str) : Nat → Str
  | 0 => []
  | k + 1 => rep one k ++ one
theorem rep_front (one : Str) (k : Nat) : rep one (k + 1) = one ++ rep one k := by
  induction k with
  | zero => simp [rep]
  | succ k ih => rw [rep, ih, List.append_assoc, ← rep, ih]
theorem rep_length (one : Str) (k : Nat) : (rep one k).length = k * one.length := by
  induction k with
  | zero => simp [rep]
  | succ k ih => rw [rep, List.length_append, ih, Nat.succ_mul]
theorem rep_all (one : Str) (k : Nat) (p : UInt8 → Bool) (h : one.all p = true) : (rep one k).all p = true := by
  induction k with
  | zero => rfl
  | succ k ih => rw [rep, List.all_append, ih, h]; rfl
theorem rep_period (one : Str) (k r : Nat) : period (rep one (k + 1) ++ one.take r) one.length = true := by
  unfold period
  rw [beq_iff_eq]
  have e1 : rep one (k + 1) ++ one.take r = one ++ (rep one k ++ one.take r) := by rw [rep_front, List.append_assoc]
  have e2 : rep one (k + 1) ++ one.take r = (rep one k ++ one.take r) ++ (one.drop r ++ one.take r) := by
    rw [rep, List.append_assoc, List.append_assoc, ← List.append_assoc (one.take r), List.take_append_drop]
  have hl : (rep one (k + 1) ++ one.take r).length - one.length = (rep one k ++ one.take r).length := by rw [e1, List.length_append]; omega
  rw [hl]
  conv => lhs; rw [e1]
  conv => rhs; rw [e2]
  rw [List.drop_left, List.take_left]

/-- F1 as the statement asks it -/
theorem two_ok (l : Str) (i k : Nat) (hi : i < (periods l).length) (hk : k < (periods l).length) :
    1 ≤ ix (periods l) k ∧ ix (periods l) k ≤ l.length ∧ 1 ≤ ix (periods l) i ∧ ix (periods l) i ≤ l.length ∧
    (ix (periods l) k + ix (periods l) i - (Nat.gcd (ix (periods l) k).toNat (ix (periods l) i).toNat : Int) ≤ l.length → ((Nat.gcd (ix (periods l) k).toNat (ix (periods l) i).toNat : Nat) : Int) ∈ periods l) := by
  obtain ⟨p, hp, hp1, hp2, hp3⟩ := periods_mem_ix l k hk
  obtain ⟨q, hq, hq1, hq2, hq3⟩ := periods_mem_ix l i hi
  rw [hp, hq, Int.toNat_natCast, Int.toNat_natCast]
  refine ⟨by omega, by omega, by omega, by omega, fun h => ?_⟩
  have hg : Nat.gcd p q ≤ p := Nat.gcd_le_left _ hp1
  exact (mem_periods l _).2 ⟨_, rfl, Nat.gcd_pos_of_pos_left _ hp1, by omega, period_gcd l p q hp1 hq1 hp2 hq2 hp3 hq3 (by omega)⟩
end Go.Proofs.YtpoekblolicehaaDoor
