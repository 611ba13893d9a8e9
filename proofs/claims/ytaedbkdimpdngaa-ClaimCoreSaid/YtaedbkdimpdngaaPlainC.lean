/-
  Chapter 12 in plain words: rings of attacks (A5).
-/
import Derived.Test.YtaedbkdimpdngaaPlainB
namespace Go.Proofs.Ytaedbkdimpdngaa
section
variable (r : Nat → Nat → Bool)
/-- each attacks the next one -/
def path : List Nat → Bool
  | a :: b :: l => r a b && path (b :: l)
  | _ => true
theorem path_cons (a b : Nat) (l : List Nat) : path r (a :: b :: l) = (r a b && path r (b :: l)) := rfl
theorem path_app (v : Nat) (ys : List Nat) : ∀ xs : List Nat, path r (xs ++ v :: ys) = (path r (xs ++ [v]) && path r (v :: ys))
  | [] => by simp [path]
  | [a] => by simp [path]
  | a :: b :: xs => by
    show (r a b && path r (b :: xs ++ v :: ys)) = (r a b && path r (b :: xs ++ [v]) && path r (v :: ys))
    rw [path_app v ys (b :: xs), Bool.and_assoc]
/-- a walk that ends where it began -/
def Closed (h : Nat) (l : List Nat) : Prop := path r (h :: l ++ [h]) = true
/-- a ring: from its least claim on -/
structure Ring (n : Nat) (h : Nat) (l : List Nat) : Prop where
  closed : Closed r h l
  nodup : (h :: l).Nodup
  least : ∀ x, x ∈ l → h < x
  lt : ∀ x, x ∈ h :: l → x < n
theorem dup_split : ∀ {l : List Nat}, ¬ l.Nodup → ∃ v l1 l2 l3, l = l1 ++ v :: l2 ++ v :: l3
  | [], h => absurd List.nodup_nil h
  | a :: l, h => by
    by_cases ha : a ∈ l
    · obtain ⟨l2, l3, rfl⟩ := List.append_of_mem ha
      exact ⟨a, [], l2, l3, rfl⟩
    · have : ¬ l.Nodup := fun hn => h (List.nodup_cons.2 ⟨ha, hn⟩)
      obtain ⟨v, l1, l2, l3, rfl⟩ := dup_split this
      exact ⟨v, a :: l1, l2, l3, rfl⟩
/-- an odd closed walk that is not a simple one has a shorter odd one within it -/
theorem closed_less {h : Nat} {l : List Nat} (hc : Closed r h l) (ho : l.length % 2 = 0) (hd : ¬ (h :: l).Nodup) :
    ∃ h' l', Closed r h' l' ∧ l'.length % 2 = 0 ∧ l'.length < l.length ∧ ∀ x, x ∈ h' :: l' → x ∈ h :: l := by
  obtain ⟨v, l1, l2, l3, e⟩ := dup_split hd
  unfold Closed at hc
  have e1 : h :: l ++ [h] = l1 ++ v :: (l2 ++ v :: (l3 ++ [h])) := by rw [e]; simp
  rw [e1, path_app, Bool.and_eq_true] at hc
  obtain ⟨p1, p2⟩ := hc
  rw [show v :: (l2 ++ v :: (l3 ++ [h])) = (v :: l2) ++ v :: (l3 ++ [h]) from rfl, path_app, Bool.and_eq_true] at p2
  obtain ⟨p2, p3⟩ := p2
  have hlen : l.length + 1 = l1.length + l2.length + l3.length + 2 := by
    have := congrArg List.length e
    simp at this
    omega
  by_cases h2 : l2.length % 2 = 0
  · refine ⟨v, l2, p2, h2, by omega, fun x hx => ?_⟩
    rw [e]
    rw [List.mem_cons] at hx
    simp only [List.mem_append, List.mem_cons]
    rcases hx with rfl | hx
    · exact .inl (.inr (.inl rfl))
    · exact .inl (.inr (.inr hx))
  · cases l1 with
    | nil =>
      have e2 : h = v := by
        have := congrArg List.head? e
        simpa using this
      subst e2
      refine ⟨h, l3, p3, by simp at hlen; omega, by simp at hlen; omega, fun x hx => ?_⟩
      rw [e]
      rw [List.mem_cons] at hx
      simp only [List.mem_append, List.mem_cons]
      rcases hx with rfl | hx
      · exact .inr (.inl rfl)
      · exact .inr (.inr hx)
    | cons a l1 =>
      have e2 : h = a := by
        have := congrArg List.head? e
        simpa using this
      subst e2
      refine ⟨h, l1 ++ v :: l3, ?_, by simp at hlen ⊢; omega, by simp at hlen ⊢; omega, fun x hx => ?_⟩
      · unfold Closed
        rw [show h :: (l1 ++ v :: l3) ++ [h] = (h :: l1) ++ v :: (l3 ++ [h]) by simp, path_app, Bool.and_eq_true]
        exact ⟨p1, p3⟩
      · rw [e]
        simp only [List.mem_append, List.mem_cons] at hx ⊢
        rcases hx with hx | hx | hx | hx
        · exact .inl (.inl (.inl hx))
        · exact .inl (.inl (.inr hx))
        · exact .inr (.inl hx)
        · exact .inr (.inr hx)
theorem closed_simple : ∀ (k : Nat) {h : Nat} {l : List Nat}, l.length < k → Closed r h l → l.length % 2 = 0 →
    ∃ h' l', Closed r h' l' ∧ l'.length % 2 = 0 ∧ (h' :: l').Nodup ∧ ∀ x, x ∈ h' :: l' → x ∈ h :: l
  | 0, h, l, hk, _, _ => absurd hk (Nat.not_lt_zero _)
  | k + 1, h, l, hk, hc, ho => by
    by_cases hd : (h :: l).Nodup
    · exact ⟨h, l, hc, ho, hd, fun x hx => hx⟩
    · obtain ⟨h', l', c1, c2, c3, c4⟩ := closed_less r hc ho hd
      obtain ⟨h2, l2, d1, d2, d3, d4⟩ := closed_simple k (by omega) c1 c2
      exact ⟨h2, l2, d1, d2, d3, fun x hx => c4 x (d4 x hx)⟩
theorem least_mem : ∀ (l : List Nat), l ≠ [] → ∃ m, m ∈ l ∧ ∀ x, x ∈ l → m ≤ x
  | [], h => absurd rfl h
  | [a], _ => ⟨a, by simp, fun x hx => by simp at hx; omega⟩
  | a :: b :: l, _ => by
    obtain ⟨m, h1, h2⟩ := least_mem (b :: l) (by simp)
    by_cases h : a ≤ m
    · refine ⟨a, by simp, fun x hx => ?_⟩
      rw [List.mem_cons] at hx
      rcases hx with rfl | hx
      · omega
      · have := h2 x hx; omega
    · refine ⟨m, List.mem_cons_of_mem _ h1, fun x hx => ?_⟩
      rw [List.mem_cons] at hx
      rcases hx with rfl | hx
      · omega
      · exact h2 x hx
/-- an odd closed walk: there is an odd ring -/
theorem odd_ring {n h : Nat} {l : List Nat} (hc : Closed r h l) (ho : l.length % 2 = 0) (hl : ∀ x, x ∈ h :: l → x < n) :
    ∃ h' l', Ring r n h' l' ∧ l'.length % 2 = 0 := by
  obtain ⟨a, l1, c1, c2, c3, c4⟩ := closed_simple r _ (Nat.lt_succ_self _) hc ho
  obtain ⟨m, h1, h2⟩ := least_mem (a :: l1) (by simp)
  obtain ⟨xs, ys, e⟩ := List.append_of_mem h1
  unfold Closed at c1
  have e1 : a :: l1 ++ [a] = xs ++ m :: (ys ++ [a]) := by rw [e]; simp
  rw [e1, path_app, Bool.and_eq_true] at c1
  obtain ⟨p1, p2⟩ := c1
  have hlen : l1.length = xs.length + ys.length := by
    have := congrArg List.length e
    simp at this
    omega
  have hperm : (m :: (ys ++ xs)).Perm (a :: l1) := by
    rw [e]
    exact (List.perm_append_comm (l₁ := xs) (l₂ := m :: ys)).symm
  have hn2 : (m :: (ys ++ xs)).Nodup := hperm.nodup_iff.2 c3
  refine ⟨m, ys ++ xs, ⟨?_, hn2, fun x hx => ?_, fun x hx => hl x (c4 x (hperm.mem_iff.1 hx))⟩, by rw [List.length_append]; omega⟩
  · unfold Closed
    cases xs with
    | nil =>
      have e2 : a = m := by
        have := congrArg List.head? e
        simpa using this
      subst e2
      rw [List.append_nil]; exact p2
    | cons b xs =>
      have e2 : a = b := by
        have := congrArg List.head? e
        simpa using this
      subst e2
      rw [show m :: (ys ++ a :: xs) ++ [m] = (m :: ys) ++ a :: (xs ++ [m]) by simp, path_app, Bool.and_eq_true]
      exact ⟨p2, p1⟩
  · have h3 := h2 x (hperm.mem_iff.1 (List.mem_cons_of_mem _ hx))
    have h4 := (List.nodup_cons.1 hn2).1
    by_cases e3 : m = x
    · rw [e3] at h4; exact absurd hx h4
    · omega
end
/-- walks of some length -/
inductive Wk (r : Nat → Nat → Prop) : Nat → Nat → Nat → Prop
  | refl (x : Nat) : Wk r 0 x x
  | head {k a b c : Nat} : r a b → Wk r k b c → Wk r (k + 1) a c
section
variable {r : Nat → Nat → Prop}
theorem Wk.trans {k m a b c : Nat} (h1 : Wk r k a b) (h2 : Wk r m b c) : Wk r (k + m) a c := by
  induction h1 with
  | refl x => rw [Nat.zero_add]; exact h2
  | @head k a b c h _ ih => rw [show k + 1 + m = (k + m) + 1 by omega]; exact .head h (ih h2)
theorem Wk.last {k a c : Nat} (h : Wk r (k + 1) a c) : ∃ b, Wk r k a b ∧ r b c := by
  induction k generalizing a with
  | zero =>
    cases h with
    | head h1 h2 =>
      cases h2
      exact ⟨a, .refl a, h1⟩
  | succ k ih =>
    cases h with
    | head h1 h2 =>
      obtain ⟨b, h3, h4⟩ := ih h2
      exact ⟨b, .head h1 h3, h4⟩
theorem Wk.list {att : Nat → Nat → Bool} {n k a c : Nat} (h : Wk (fun x y => att x y = true ∧ x < n ∧ y < n) (k + 1) a c) : ∃ l, l.length = k ∧ path att (a :: l ++ [c]) = true ∧ ∀ x, x ∈ a :: l → x < n := by
  induction k generalizing a with
  | zero =>
    cases h with
    | head h1 h2 =>
      cases h2
      refine ⟨[], rfl, by simp [path, h1.1], fun x hx => ?_⟩
      simp at hx; rw [hx]; exact h1.2.1
  | succ k ih =>
    cases h with
    | @head _ _ b _ h1 h2 =>
      obtain ⟨l, h3, h4, h5⟩ := ih h2
      refine ⟨b :: l, by simp [h3], ?_, fun x hx => ?_⟩
      · show path att (a :: b :: (l ++ [c])) = true
        rw [path_cons, h1.1, Bool.true_and]
        exact h4
      · rw [List.mem_cons] at hx
        rcases hx with rfl | hx
        · exact h1.2.1
        · exact h5 x hx
/-- some element of a list is reached only from those that it reaches -/
theorem first_of (R : Nat → Nat → Prop) (hr : ∀ x, R x x) (ht : ∀ {x y z}, R x y → R y z → R x z) : ∀ (l : List Nat), l ≠ [] → ∃ x, x ∈ l ∧ ∀ y, y ∈ l → R y x → R x y
  | [], h => absurd rfl h
  | [a], _ => ⟨a, by simp, fun y hy h => by
      have : y = a := by simpa using hy
      subst this; exact hr _⟩
  | a :: b :: l, _ => by
    obtain ⟨x, h1, h2⟩ := first_of R hr ht (b :: l) (by simp)
    by_cases h : R a x
    · refine ⟨a, by simp, fun y hy h3 => ?_⟩
      rw [List.mem_cons] at hy
      rcases hy with rfl | hy
      · exact hr _
      · exact ht h (h2 y hy (ht h3 h))
    · refine ⟨x, List.mem_cons_of_mem _ h1, fun y hy h3 => ?_⟩
      rw [List.mem_cons] at hy
      rcases hy with rfl | hy
      · exact absurd h3 h
      · exact h2 y hy h3
end
section
variable (d : Dsp)
open Classical in
/-- A5: without an odd ring the preferred sets are stable -/
theorem Dsp.no_odd (ho : ∀ h l, Ring d.att d.n h l → l.length % 2 = 0 → False) {p : Nat} (hp : p ∈ d.pref) : p ∈ d.stabs := by
  obtain ⟨hadm, hmax⟩ := (d.mem_pref p).1 hp
  have hcomp := d.pref_comp hp
  have hcf := (d.cf_iff p).1 ((d.comp_iff p).1 hcomp).1
  have hfix := ((d.comp_iff p).1 hcomp).2
  have hpl := d.adm_lt hadm
  have hpart : ∀ i, i < d.n → p.testBit i = true ∨ (d.hit p).testBit i = true := by
    refine Classical.byContradiction fun hne => ?_
    have hU : ∃ u, u < d.n ∧ p.testBit u = false ∧ (d.hit p).testBit u = false := by
      refine Classical.byContradiction fun h2 => hne fun i hi => ?_
      cases e1 : p.testBit i
      · cases e2 : (d.hit p).testBit i
        · exact absurd ⟨i, hi, e1, e2⟩ h2
        · exact .inr rfl
      · exact .inl rfl
    obtain ⟨u0, hu0⟩ := hU
    let U : Nat → Prop := fun u => u < d.n ∧ p.testBit u = false ∧ (d.hit p).testBit u = false
    let r : Nat → Nat → Prop := fun x y => d.att x y = true ∧ U x ∧ U y
    obtain ⟨x0, hx0, hfirst⟩ := first_of (fun x y => ∃ k, Wk r k x y) (fun x => ⟨0, .refl x⟩) (fun ⟨k, hk⟩ ⟨m, hm⟩ => ⟨k + m, hk.trans hm⟩) ((List.range d.n).filter fun u => decide (U u)) (fun h => by
      have : u0 ∈ (List.range d.n).filter fun u => decide (U u) := List.mem_filter.2 ⟨List.mem_range.2 hu0.1, decide_eq_true hu0⟩
      rw [h] at this; simp at this)
    have hUx : U x0 := of_decide_eq_true (List.mem_filter.1 hx0).2
    have hback : ∀ y k, U y → Wk r k y x0 → ∃ m, Wk r m x0 y := fun y k hy hk =>
      hfirst y (List.mem_filter.2 ⟨List.mem_range.2 hy.1, decide_eq_true hy⟩) ⟨k, hk⟩
    have hwk : ∀ {k a c}, Wk r k a c → Wk (fun x y => d.att x y = true ∧ x < d.n ∧ y < d.n) k a c := by
      intro k a c h
      induction h with
      | refl x => exact .refl x
      | head h _ ih => exact .head ⟨h.1, h.2.1.1, h.2.2.1⟩ ih
    have hodd : ∀ k, k % 2 = 1 → ¬ Wk r k x0 x0 := by
      intro k hk h
      obtain ⟨m, rfl⟩ : ∃ m, k = m + 1 := ⟨k - 1, by omega⟩
      obtain ⟨l, h1, h2, h3⟩ := (hwk h).list
      obtain ⟨h', l', h4, h5⟩ := odd_ring d.att h2 (by omega) h3
      exact ho h' l' h4 h5
    let E : Nat → Prop := fun y => U y ∧ ∃ k, Wk r (2 * k) y x0
    let e := mask (fun y => decide (E y)) d.n
    have he : ∀ i, e.testBit i = true ↔ E i := by
      intro i
      show (mask _ _).testBit i = true ↔ _
      rw [mask_bit, Bool.and_eq_true, decide_eq_true_eq, decide_eq_true_eq]
      exact ⟨fun h => h.2, fun h => ⟨h.1.1, h⟩⟩
    have ht : ∀ i, (p ||| e).testBit i = true ↔ p.testBit i = true ∨ E i := by
      intro i
      rw [Nat.testBit_or, Bool.or_eq_true, he]
    have hpt : sub p (p ||| e) = true := (sub_iff _ _).2 fun i hi => (ht i).2 (.inl hi)
    have hta : d.adm (p ||| e) = true := by
      rw [d.adm_iff]
      constructor
      · rw [d.cf_iff]
        intro i hi
        cases hh : (d.hit (p ||| e)).testBit i with
        | false => rfl
        | true =>
          exfalso
          obtain ⟨hin, a, ha, hta, hai⟩ := (d.hit_iff _ i).1 hh
          rcases (ht i).1 hi with hi | hi <;> rcases (ht a).1 hta with hta | hta
          · have h1 := (d.hit_iff p i).2 ⟨hin, a, ha, hta, hai⟩
            have h2 := hcf i hi
            rw [h1] at h2; cases h2
          · have h1 : (d.dfd p).testBit i = true := by rw [hfix]; exact hi
            have h2 := ((d.dfd_iff p i).1 h1).2 a ha hai
            have h3 := hta.1.2.2
            rw [h2] at h3; cases h3
          · have h1 := (d.hit_iff p i).2 ⟨hin, a, ha, hta, hai⟩
            have h2 := hi.1.2.2
            rw [h1] at h2; cases h2
          · obtain ⟨hUi, k, hk⟩ := hi
            obtain ⟨hUa, k', hk'⟩ := hta
            obtain ⟨m, hm⟩ := hback a _ hUa hk'
            have w1 := hm.trans hk'
            have w2 := hm.trans (Wk.head (r := r) ⟨hai, hUa, hUi⟩ hk)
            by_cases hpar : (m + 2 * k') % 2 = 1
            · exact hodd _ hpar w1
            · exact hodd _ (by omega) w2
      · rw [sub_iff]
        intro i hi
        rw [d.dfd_iff]
        rcases (ht i).1 hi with hi | hi
        · have h1 : (d.dfd p).testBit i = true := by rw [hfix]; exact hi
          obtain ⟨h2, h3⟩ := (d.dfd_iff p i).1 h1
          exact ⟨h2, fun j hj hji => (sub_iff _ _).1 (d.hit_mono hpt) j (h3 j hj hji)⟩
        · obtain ⟨hUi, k, hk⟩ := hi
          refine ⟨hUi.1, fun j hj hji => ?_⟩
          cases hhj : (d.hit p).testBit j with
          | true => exact (sub_iff _ _).1 (d.hit_mono hpt) j hhj
          | false =>
            cases hpj : p.testBit j with
            | true =>
              have h1 := (d.hit_iff p i).2 ⟨hUi.1, j, hj, hpj, hji⟩
              have h2 := hUi.2.2
              rw [h1] at h2; cases h2
            | false =>
              have hUj : U j := ⟨hj, hpj, hhj⟩
              have w1 : Wk r (2 * k + 1) j x0 := .head ⟨hji, hUj, hUi⟩ hk
              obtain ⟨m, hm⟩ := hback j _ hUj w1
              cases m with
              | zero =>
                cases hm
                exact absurd w1 (hodd _ (by omega))
              | succ m =>
                obtain ⟨b, h3, h4⟩ := hm.last
                refine (d.hit_iff _ j).2 ⟨hj, b, h4.2.1.1, (ht b).2 (.inr ⟨h4.2.1, k + 1, ?_⟩), h4.1⟩
                exact Wk.head h4 w1
    have heq := hmax _ hta hpt
    have h1 := (ht x0).2 (.inr ⟨hUx, 0, .refl x0⟩)
    rw [heq] at h1
    have h2 := hUx.2.1
    rw [h1] at h2; cases h2
  rw [d.mem_stabs]
  refine ⟨hpl, Nat.eq_of_testBit_eq fun i => ?_⟩
  rw [diff_bit, d.full_bit]
  cases e1 : p.testBit i with
  | true => rw [hcf i e1]; simp
  | false =>
    by_cases hi : i < d.n
    · rcases hpart i hi with h | h
      · rw [h] at e1; cases e1
      · rw [h, decide_eq_true hi]; rfl
    · rw [decide_eq_false hi]
      cases e2 : (d.hit p).testBit i with
      | false => rfl
      | true => exact absurd ((d.hit_iff p i).1 e2).1 hi
theorem Dsp.pref_filter : d.pref = (List.range (2 ^ d.n)).filter fun s => d.adm s && !(d.alls d.adm).any fun t => t != s && sub s t := by
  unfold Dsp.pref grt
  conv => lhs; arg 2; unfold Dsp.alls
  rw [List.filter_filter]
  refine List.filter_congr fun x _ => ?_
  rw [Bool.and_comm]
theorem Dsp.no_odd_eq (ho : ∀ h l, Ring d.att d.n h l → l.length % 2 = 0 → False) : d.stabs = d.pref := by
  have e := d.pref_filter
  rw [e]
  unfold Dsp.stabs Dsp.alls
  refine List.filter_congr fun x hx => ?_
  have h1 : x ∈ d.stabs ↔ x ∈ d.pref := ⟨fun h => d.semi_pref (d.stab_semi h), fun h => d.no_odd ho h⟩
  rw [e] at h1
  unfold Dsp.stabs Dsp.alls at h1
  rw [List.mem_filter, List.mem_filter] at h1
  rw [Bool.eq_iff_iff]
  exact ⟨fun h2 => (h1.1 ⟨hx, h2⟩).2, fun h2 => (h1.2 ⟨hx, h2⟩).2⟩
/-- where claims attack greater ones alone there is one complete set -/
theorem Dsp.one_comp (hr : ∀ a b, d.att a b = true → a < b) {c : Nat} (hc : d.comp c = true) : c = d.grd := by
  have h1 := ((d.comp_iff c).1 hc).2
  have h2 := d.grd_fix
  refine Nat.eq_of_testBit_eq ?_
  suffices ∀ k i, i < k → c.testBit i = d.grd.testBit i from fun i => this (i + 1) i (Nat.lt_succ_self _)
  intro k
  induction k with
  | zero => intro i hi; omega
  | succ k ih =>
    intro i hi
    rw [← h1, ← h2, Bool.eq_iff_iff, d.dfd_iff, d.dfd_iff]
    have key : ∀ s t : Nat, (∀ j, j < k → s.testBit j = t.testBit j) → ∀ j, j < k → (d.hit s).testBit j = true → (d.hit t).testBit j = true := by
      intro s t hst j hj h
      obtain ⟨x, a, y, z, u⟩ := (d.hit_iff s j).1 h
      have := hr _ _ u
      exact (d.hit_iff t j).2 ⟨x, a, y, by rw [← hst a (by omega)]; exact z, u⟩
    constructor
    · rintro ⟨x, y⟩
      refine ⟨x, fun j hj h => ?_⟩
      have := hr _ _ h
      exact key _ _ ih j (by omega) (y j hj h)
    · rintro ⟨x, y⟩
      refine ⟨x, fun j hj h => ?_⟩
      have := hr _ _ h
      exact key _ _ (fun j hj => (ih j hj).symm) j (by omega) (y j hj h)
theorem Dsp.comps_nodup : d.comps.Nodup := List.nodup_range.sublist List.filter_sublist
theorem Dsp.comps_one (hr : ∀ a b, d.att a b = true → a < b) : d.comps = [d.grd] := by
  have h1 : ∀ c, c ∈ d.comps ↔ c = d.grd := fun c => by
    rw [d.mem_comps]
    exact ⟨fun h => d.one_comp hr h, fun h => by rw [h]; exact d.grd_comp⟩
  have h2 := d.comps_nodup
  match e : d.comps with
  | [] =>
    have := (h1 d.grd).2 rfl
    rw [e] at this; simp at this
  | [a] => rw [(h1 a).1 (by rw [e]; simp)]
  | a :: b :: l =>
    rw [e] at h1 h2
    have ha := (h1 a).1 (by simp)
    have hb := (h1 b).1 (by simp)
    rw [ha, hb] at h2
    simp at h2
/-- a ring of attacks between odd and even claims is even -/
theorem path_par {att : Nat → Nat → Bool} (hr : ∀ a b, att a b = true → (a + b) % 2 = 1) : ∀ (l : List Nat) (a c : Nat), path att (a :: l ++ [c]) = true → (a + c + l.length) % 2 = 1
  | [], a, c, h => by
    have := hr a c (by simpa [path] using h)
    simpa using this
  | b :: l, a, c, h => by
    have h2 : (att a b && path att (b :: l ++ [c])) = true := h
    rw [Bool.and_eq_true] at h2
    have h3 := hr a b h2.1
    have h4 := path_par hr l b c h2.2
    simp only [List.length_cons]
    omega
theorem no_ring_par {att : Nat → Nat → Bool} (hr : ∀ a b, att a b = true → (a + b) % 2 = 1) {n h : Nat} {l : List Nat} (hg : Ring att n h l) (ho : l.length % 2 = 0) : False := by
  have := path_par hr l h h hg.closed
  omega
theorem path_up {att : Nat → Nat → Bool} (hr : ∀ a b, att a b = true → a < b) : ∀ (l : List Nat) (a c : Nat), path att (a :: l ++ [c]) = true → a < c
  | [], a, c, h => hr a c (by simpa [path] using h)
  | b :: l, a, c, h => by
    have h2 : (att a b && path att (b :: l ++ [c])) = true := h
    rw [Bool.and_eq_true] at h2
    have h3 := hr a b h2.1
    have h4 := path_up hr l b c h2.2
    omega
theorem no_ring_up {att : Nat → Nat → Bool} (hr : ∀ a b, att a b = true → a < b) {n h : Nat} {l : List Nat} (hg : Ring att n h l) : False := by
  have := path_up hr l h h hg.closed
  omega
end
end Go.Proofs.Ytaedbkdimpdngaa
