/-
  Plain: an even rhythm is balanced and a Lyndon word, and reads the same backwards without its ends.
-/
import Derived.Test.YtpoekblolicehaaDoorWalkF
import Derived.Test.YtpoekblolicehaaDoorPlainK
import Derived.Test.YtpoekblolicehaaDoorPlainI
namespace Go.Proofs.YtpoekblolicehaaDoor

/-- how many letters b stand ahead of the position i -/
def fl (q n i : Nat) : Nat := i * q / n
theorem fl_step (p q i : Nat) (hp : 1 ≤ p) : (evl p q i = 97 ∧ fl q (p + q) (i + 1) = fl q (p + q) i) ∨ (evl p q i = 98 ∧ fl q (p + q) (i + 1) = fl q (p + q) i + 1) := by
  unfold evl fl
  have hdm := Nat.div_add_mod (i * q) (p + q)
  have hml := Nat.mod_lt (i * q) (show p + q > 0 by omega)
  rw [Nat.add_mul, Nat.one_mul]
  generalize i * q = x at *
  generalize hd : x / (p + q) = d at *
  generalize x % (p + q) = r at *
  by_cases h : r + q < p + q
  · left
    rw [if_pos h]
    refine ⟨rfl, ?_⟩
    rw [show x + q = (r + q) + (p + q) * d by omega, Nat.add_mul_div_left _ _ (by omega), Nat.div_eq_of_lt h, Nat.zero_add]
  · right
    rw [if_neg h]
    refine ⟨rfl, ?_⟩
    rw [show x + q = (r + q - (p + q)) + (p + q) * (d + 1) by rw [Nat.mul_add]; omega, Nat.add_mul_div_left _ _ (by omega), Nat.div_eq_of_lt (by omega), Nat.zero_add]
theorem fl_add (q n i j : Nat) (hn : 1 ≤ n) : fl q n i + fl q n j ≤ fl q n (i + j) ∧ fl q n (i + j) ≤ fl q n i + fl q n j + 1 := by
  unfold fl
  rw [Nat.add_mul]
  have h1 := Nat.div_add_mod (i * q) n
  have h2 := Nat.div_add_mod (j * q) n
  have m1 := Nat.mod_lt (i * q) (show n > 0 by omega)
  have m2 := Nat.mod_lt (j * q) (show n > 0 by omega)
  generalize i * q = x at *
  generalize j * q = y at *
  generalize x / n = a at *
  generalize y / n = b at *
  generalize x % n = r at *
  generalize y % n = t at *
  have e : x + y = (r + t) + n * (a + b) := by rw [Nat.mul_add]; omega
  rw [e, Nat.add_mul_div_left _ _ (by omega)]
  have hk := Nat.div_lt_of_lt_mul (show r + t < n * 2 by omega)
  generalize (r + t) / n = c at *
  clear h1 h2 e m1 m2
  omega
theorem fl_full (q n : Nat) (hn : 1 ≤ n) : fl q n n = q := by unfold fl; exact Nat.mul_div_cancel_left q (by omega)
theorem fl_zero (q n : Nat) : fl q n 0 = 0 := by simp [fl]
/-- from the end -/
theorem fl_rest (q n x : Nat) (hx : 1 ≤ x) (hxn : x < n) (hg : Nat.gcd q n = 1) : fl q n (n - x) + fl q n x + 1 = q := by
  have hn : 1 ≤ n := by omega
  have h := fl_add q n (n - x) x hn
  rw [show n - x + x = n by omega, fl_full q n hn] at h
  have hne : fl q n (n - x) + fl q n x ≠ q := by
    intro he
    unfold fl at he
    have h1 := Nat.div_add_mod ((n - x) * q) n
    have h2 := Nat.div_add_mod (x * q) n
    have h3 : (n - x) * q + x * q = n * q := by rw [← Nat.add_mul, show n - x + x = n by omega]
    have h4 : n * ((n - x) * q / n) + n * (x * q / n) = n * q := by rw [← Nat.mul_add, he]
    have h5 : x * q % n = 0 := by omega
    have hdv : n ∣ x * q := Nat.dvd_of_mod_eq_zero h5
    have hco : Nat.Coprime n q := by rw [Nat.coprime_comm]; exact hg
    have := hco.dvd_of_dvd_mul_right hdv
    have := Nat.le_of_dvd hx this
    omega
  omega

theorem even_length (p q : Nat) : (even p q).length = p + q := evenTo_length p q _
theorem even_at (p q i : Nat) (hi : i < p + q) : (even p q)[i]? = some (evl p q i) := by
  unfold even evenTo
  rw [List.getElem?_map, List.getElem?_range hi]
  rfl
theorem even_at' (p q i : Nat) (hi : i < p + q) : at' (even p q) i = (evl p q i).toNat := by
  unfold at'
  rw [List.getD_eq_getElem?_getD, even_at p q i hi]
  rfl
theorem fl_mono1 (p q i : Nat) (hp : 1 ≤ p) : fl q (p + q) i ≤ fl q (p + q) (i + 1) := by
  rcases fl_step p q i hp with h | h <;> omega
theorem even_cb (p q : Nat) (hp : 1 ≤ p) (i : Nat) : ∀ m, i + m ≤ p + q → cb (even p q) m i + fl q (p + q) i = fl q (p + q) (i + m) := by
  intro m
  induction m with
  | zero => intro _; simp [cb, part]
  | succ m ih =>
    intro h
    have ih := ih (by omega)
    have e : part (even p q) i (i + (m + 1)) = part (even p q) i (i + m) ++ [evl p q (i + m)] := by
      unfold part
      rw [show i + (m + 1) - i = m + 1 by omega, show i + m - i = m by omega]
      have hl : m < ((even p q).drop i).length := by rw [List.length_drop, even_length]; omega
      rw [List.take_succ_eq_append_getElem hl]
      congr 2
      have := even_at p q (i + m) (by omega)
      rw [← List.getElem?_drop, List.getElem?_eq_getElem hl] at this
      exact Option.some.inj this
    unfold cb at *
    rw [e, List.count_append, ← Nat.add_assoc i m 1]
    rcases fl_step p q (i + m) hp with ⟨h1, h2⟩ | ⟨h1, h2⟩
    · rw [h1, h2]
      have : List.count (98 : UInt8) [97] = 0 := by decide
      omega
    · rw [h1, h2]
      have : List.count (98 : UInt8) [98] = 1 := by decide
      omega
theorem fl_self (p q m : Nat) (hp : 1 ≤ p) : fl q (p + q) m ≤ m := by
  unfold fl
  refine Nat.div_le_of_le_mul ?_
  rw [Nat.mul_comm]
  exact Nat.mul_le_mul_right m (by omega)
theorem low_of (l : Str) (m c : Nat) (ps : List Nat) (hc : c ≤ m) (h : ∀ i ∈ ps, c ≤ cb l m i) : c ≤ lowL l m ps := by
  suffices ∀ (ps : List Nat) a, c ≤ a → (∀ i ∈ ps, c ≤ cb l m i) → c ≤ ps.foldl (fun a i => min a (cb l m i)) a from this ps m hc h
  intro ps
  induction ps with
  | nil => intro a h _; exact h
  | cons i ps ih => intro a h hi; exact ih _ (by have := hi i (by simp); show c ≤ min a _; omega) (fun j hj => hi j (by simp [hj]))
theorem high_of (l : Str) (m c : Nat) (ps : List Nat) (h : ∀ i ∈ ps, cb l m i ≤ c) : highL l m ps ≤ c := by
  suffices ∀ (ps : List Nat) a, a ≤ c → (∀ i ∈ ps, cb l m i ≤ c) → ps.foldl (fun a i => max a (cb l m i)) a ≤ c from this ps 0 (Nat.zero_le _) h
  intro ps
  induction ps with
  | nil => intro a h _; exact h
  | cons i ps ih => intro a h hi; exact ih _ (by have := hi i (by simp); show max a _ ≤ c; omega) (fun j hj => hi j (by simp [hj]))
theorem even_balanced (p q : Nat) (hp : 1 ≤ p) : balanced (even p q) = true := by
  unfold balanced
  rw [Bool.and_eq_true]
  constructor
  · unfold ab
    rw [List.all_eq_true]
    intro c hc
    unfold even evenTo at hc
    obtain ⟨i, _, rfl⟩ := List.mem_map.1 hc
    rcases fl_step p q i hp with h | h <;> rw [h.1] <;> decide
  · refine balTo_yes _ _ fun j hj => ?_
    rw [even_length] at hj
    unfold evenAt
    rw [even_length]
    refine decide_eq_true ?_
    have hcb : ∀ i ∈ List.range (p + q + 1 - (j + 1)), fl q (p + q) (j + 1) ≤ cb (even p q) (j + 1) i ∧ cb (even p q) (j + 1) i ≤ fl q (p + q) (j + 1) + 1 := by
      intro i hi
      rw [List.mem_range] at hi
      have h1 := even_cb p q hp i (j + 1) (by omega)
      have h2 := fl_add q (p + q) i (j + 1) (by omega)
      omega
    have a := low_of (even p q) (j + 1) _ _ (fl_self p q (j + 1) hp) (fun i hi => (hcb i hi).1)
    have b := high_of (even p q) (j + 1) _ _ (fun i hi => (hcb i hi).2)
    omega
/-- the first position at which two counts that rise by at most one part -/
theorem first_part (f g : Nat → Nat) (hf : ∀ t, g t ≤ f t) : ∀ k, g k < f k → f 0 = g 0 → ∃ m, m < k ∧ (∀ t, t ≤ m → f t = g t) ∧ g (m + 1) < f (m + 1)
  | 0, h, h0 => by omega
  | k + 1, h, h0 => by
    by_cases hk : g k < f k
    · obtain ⟨m, m1, m2, m3⟩ := first_part f g hf k hk h0
      exact ⟨m, by omega, m2, m3⟩
    · by_cases hall : ∀ t, t ≤ k → f t = g t
      · exact ⟨k, by omega, hall, h⟩
      · obtain ⟨t, ht⟩ := Classical.not_forall.1 hall
        obtain ⟨t1, ht⟩ := Classical.not_imp.1 ht
        have htk : t < k := by
          apply Nat.lt_of_le_of_ne t1
          rintro rfl
          have := hf t; omega
        obtain ⟨m, m1, m2, m3⟩ := first_part f g hf t (by have := hf t; omega) h0
        exact ⟨m, by omega, m2, m3⟩
termination_by k => k
theorem even_lyn (p q : Nat) (hp : 1 ≤ p) (hq : 1 ≤ q) (hg : Nat.gcd q (p + q) = 1) : isLyn (even p q) = true := by
  rw [isLyn_iff, even_length]
  refine ⟨by omega, fun r r1 r2 => ?_⟩
  have hn : 1 ≤ p + q := by omega
  obtain ⟨m, m1, m2, m3⟩ := first_part (fun t => fl q (p + q) (r + t) - fl q (p + q) r) (fun t => fl q (p + q) t) (fun t => by
    have := fl_add q (p + q) r t hn
    show fl q (p + q) t ≤ fl q (p + q) (r + t) - fl q (p + q) r
    omega) (p + q - r) (by
    have h1 := fl_rest q (p + q) r r1 r2 hg
    show fl q (p + q) (p + q - r) < fl q (p + q) (r + (p + q - r)) - fl q (p + q) r
    rw [show r + (p + q - r) = p + q by omega, fl_full q (p + q) hn]
    omega) (by show fl q (p + q) (r + 0) - fl q (p + q) r = fl q (p + q) 0; rw [fl_zero, Nat.add_zero, Nat.sub_self])
  have hs : ∀ t, fl q (p + q) r ≤ fl q (p + q) (r + t) := fun t => by have := fl_add q (p + q) r t hn; omega
  refine slt_at _ _ m (fun i hi => ?_) (by rw [even_length]; omega) (by rw [List.length_drop, even_length]; omega) ?_
  · rw [at_drop, even_at' _ _ _ (by omega), even_at' _ _ _ (by omega)]
    have e1 : fl q (p + q) (r + i) - fl q (p + q) r = fl q (p + q) i := m2 i (by omega)
    have e2 : fl q (p + q) (r + (i + 1)) - fl q (p + q) r = fl q (p + q) (i + 1) := m2 (i + 1) (by omega)
    have s1 := hs i
    have s2 := hs (i + 1)
    have f1 := fl_step p q i hp
    have f2 := fl_step p q (r + i) hp
    rw [← Nat.add_assoc] at e2 s2
    rcases f1 with ⟨a1, b1⟩ | ⟨a1, b1⟩ <;> rcases f2 with ⟨a2, b2⟩ | ⟨a2, b2⟩ <;> first | omega | rw [a1, a2]
  · rw [at_drop, even_at' _ _ _ (by omega), even_at' _ _ _ (by omega)]
    have e1 : fl q (p + q) (r + m) - fl q (p + q) r = fl q (p + q) m := m2 m (Nat.le_refl _)
    have m3 : fl q (p + q) (m + 1) < fl q (p + q) (r + (m + 1)) - fl q (p + q) r := m3
    have s1 := hs m
    have s2 := hs (m + 1)
    have f1 := fl_step p q m hp
    have f2 := fl_step p q (r + m) hp
    rw [← Nat.add_assoc] at m3 s2
    rcases f1 with ⟨a1, b1⟩ | ⟨a1, b1⟩ <;> rcases f2 with ⟨a2, b2⟩ | ⟨a2, b2⟩ <;> first | omega | (rw [a1, a2]; decide)
theorem even_pal (p q i : Nat) (hp : 1 ≤ p) (hg : Nat.gcd q (p + q) = 1) (h1 : 1 ≤ i) (h2 : i + 1 < p + q) : evl p q i = evl p q (p + q - 1 - i) := by
  have a := fl_rest q (p + q) i h1 (by omega) hg
  have b := fl_rest q (p + q) (i + 1) (by omega) h2 hg
  have f1 := fl_step p q i hp
  have f2 := fl_step p q (p + q - 1 - i) hp
  rw [show p + q - 1 - i + 1 = p + q - i by omega] at f2
  rw [show p + q - (i + 1) = p + q - 1 - i by omega] at b
  rcases f1 with ⟨a1, b1⟩ | ⟨a1, b1⟩ <;> rcases f2 with ⟨a2, b2⟩ | ⟨a2, b2⟩ <;> first | omega | rw [a1, a2]
theorem even_bs (p q : Nat) (hp : 1 ≤ p) : (even p q).count 98 = q := by
  have h := even_cb p q hp 0 (p + q) (by omega)
  rw [Nat.zero_add, fl_zero, fl_full q (p + q) (by omega)] at h
  unfold cb part at h
  rw [List.drop_zero, List.take_of_length_le (by rw [even_length]; omega)] at h
  exact h
end Go.Proofs.YtpoekblolicehaaDoor
