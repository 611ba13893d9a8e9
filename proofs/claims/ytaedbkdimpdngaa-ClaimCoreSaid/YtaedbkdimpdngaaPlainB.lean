/-
  Chapter 12 in plain words: Dung's lemma (A1), the granted set (A2), the kinds of sets (A3), the ideal set (A4).
-/
import Derived.Test.YtaedbkdimpdngaaPlainA
namespace Go.Proofs.Ytaedbkdimpdngaa
section
variable (d : Dsp)
/-- A1: between an admissible set and what it defends all sets are admissible -/
theorem Dsp.adm_up {s t : Nat} (hs : d.adm s = true) (h1 : sub s t = true) (h2 : sub t (d.dfd s) = true) : d.adm t = true := by
  rw [d.adm_iff] at hs ⊢
  obtain ⟨hc, hd⟩ := hs
  refine ⟨(d.cf_iff t).2 fun i hi => ?_, sub_trans h2 (d.dfd_mono h1)⟩
  cases e : (d.hit t).testBit i with
  | false => rfl
  | true =>
    exfalso
    obtain ⟨_, a, ha, hta, hat⟩ := (d.hit_iff t i).1 e
    have h3 := ((d.dfd_iff s i).1 ((sub_iff _ _).1 h2 i hi)).2 a ha hat
    obtain ⟨_, b, hb, hsb, hba⟩ := (d.hit_iff s a).1 h3
    have h4 := ((d.dfd_iff s a).1 ((sub_iff _ _).1 h2 a hta)).2 b hb hba
    have h5 := (d.cf_iff s).1 hc b hsb
    rw [h4] at h5; cases h5
theorem Dsp.adm_sub {s : Nat} (hs : d.adm s = true) : sub s (d.dfd s) = true := ((d.adm_iff s).1 hs).2
theorem Dsp.adm_dfd {s : Nat} (hs : d.adm s = true) : d.adm (d.dfd s) = true := d.adm_up hs (d.adm_sub hs) (sub_refl _)
theorem Dsp.hit_zero : d.hit 0 = 0 := (zero_iff _).2 fun i => by
  cases e : (d.hit 0).testBit i with
  | false => rfl
  | true =>
    obtain ⟨_, a, _, h, _⟩ := (d.hit_iff 0 i).1 e
    rw [Nat.zero_testBit] at h; cases h
theorem zero_sub (a : Nat) : sub 0 a = true := (sub_iff _ _).2 fun i h => by rw [Nat.zero_testBit] at h; cases h
theorem Dsp.adm_zero : d.adm 0 = true := by
  rw [d.adm_iff, d.cf_iff]
  exact ⟨fun i h => (by rw [Nat.zero_testBit] at h; cases h), zero_sub _⟩
/-- how many claims are in a set -/
def cnt (s : Nat) : Nat → Nat
  | 0 => 0
  | i + 1 => cnt s i + if s.testBit i then 1 else 0
theorem cnt_le (s : Nat) : ∀ n, cnt s n ≤ n
  | 0 => Nat.le_refl _
  | n + 1 => by
    have := cnt_le s n
    unfold cnt
    split <;> omega
theorem cnt_mono {s t : Nat} (h : sub s t = true) : ∀ n, cnt s n ≤ cnt t n
  | 0 => Nat.le_refl _
  | n + 1 => by
    have := cnt_mono h n
    unfold cnt
    cases e : s.testBit n
    · rw [if_neg (by decide)]; split <;> omega
    · rw [(sub_iff _ _).1 h n e]; omega
theorem cnt_lt {s t i : Nat} (h : sub s t = true) (h1 : s.testBit i = false) (h2 : t.testBit i = true) : ∀ n, i < n → cnt s n < cnt t n
  | 0, hn => by omega
  | n + 1, hn => by
    unfold cnt
    by_cases e : i = n
    · subst e
      have := cnt_mono h i
      rw [h1, h2, if_neg (by decide), if_pos rfl]; omega
    · have := cnt_lt h h1 h2 n (by omega)
      cases e : s.testBit n
      · rw [if_neg (by decide)]; split <;> omega
      · rw [(sub_iff _ _).1 h n e]; omega
theorem sub_ne {s t : Nat} (h : sub s t = true) (hne : s ≠ t) : ∃ i, s.testBit i = false ∧ t.testBit i = true := by
  refine Classical.byContradiction fun hn => hne (sub_antisymm h ((sub_iff _ _).2 fun i hi => ?_))
  cases e : s.testBit i
  · exact absurd ⟨i, e, hi⟩ hn
  · rfl
theorem cnt_ne {s t n : Nat} (h : sub s t = true) (hne : s ≠ t) (ht : t < 2 ^ n) : cnt s n < cnt t n := by
  obtain ⟨i, h1, h2⟩ := sub_ne h hne
  exact cnt_lt h h1 h2 n (bit_lt ht h2)
/-- the sets of the steps -/
def Dsp.F : Nat → Nat
  | 0 => 0
  | k + 1 => d.dfd (Dsp.F k)
theorem Dsp.F_lt : ∀ k, d.F k < 2 ^ d.n
  | 0 => Nat.two_pow_pos _
  | _ + 1 => d.dfd_lt _
theorem Dsp.F_adm : ∀ k, d.adm (d.F k) = true
  | 0 => d.adm_zero
  | k + 1 => d.adm_dfd (Dsp.F_adm k)
theorem Dsp.F_up (k : Nat) : sub (d.F k) (d.F (k + 1)) = true := d.adm_sub (d.F_adm k)
theorem Dsp.F_le {j k : Nat} (h : j ≤ k) : sub (d.F j) (d.F k) = true := by
  induction k with
  | zero => rw [show j = 0 by omega]; exact sub_refl _
  | succ k ih =>
    by_cases e : j = k + 1
    · rw [e]; exact sub_refl _
    · exact sub_trans (ih (by omega)) (d.F_up k)
/-- nothing is added in step k -/
def Dsp.still (k : Nat) : Bool := d.F (k + 1) == d.F k
theorem Dsp.still_up {k : Nat} (h : d.still k = true) : ∀ j, k ≤ j → d.F j = d.F k := by
  unfold Dsp.still at h
  rw [beq_iff_eq] at h
  intro j hj
  induction j with
  | zero => rw [show k = 0 by omega]
  | succ j ih =>
    by_cases e : k = j + 1
    · rw [e]
    · have := ih (by omega)
      show d.dfd (d.F j) = _
      rw [this]; exact h
theorem Dsp.grows : ∀ k, (∃ j, j < k ∧ d.still j = true) ∨ k ≤ cnt (d.F k) d.n
  | 0 => .inr (Nat.zero_le _)
  | k + 1 => by
    rcases Dsp.grows k with ⟨j, h1, h2⟩ | h
    · exact .inl ⟨j, by omega, h2⟩
    · cases e : d.still k with
      | true => exact .inl ⟨k, by omega, e⟩
      | false =>
        unfold Dsp.still at e
        have hne : d.F k ≠ d.F (k + 1) := fun h2 => by rw [h2] at e; simp at e
        have := cnt_ne (d.F_up k) hne (d.F_lt (k + 1))
        exact .inr (by omega)
theorem Dsp.exists_still : ∃ k, k ≤ d.n ∧ d.still k = true := by
  rcases d.grows (d.n + 1) with ⟨j, h1, h2⟩ | h
  · exact ⟨j, by omega, h2⟩
  · have := cnt_le (d.F (d.n + 1)) d.n; omega
/-- the first step in which nothing is added -/
def Dsp.last : Nat := ((List.range (d.n + 1)).find? d.still).getD 0
theorem Dsp.last_spec : d.last ≤ d.n ∧ d.still d.last = true ∧ ∀ j, j < d.last → d.still j = false := by
  obtain ⟨k, hk, hs⟩ := d.exists_still
  unfold Dsp.last
  cases e : (List.range (d.n + 1)).find? d.still with
  | none =>
    rw [List.find?_eq_none] at e
    exact absurd hs (e k (by rw [List.mem_range]; omega))
  | some m =>
    rw [List.find?_range_eq_some] at e
    obtain ⟨h1, h2, h3⟩ := e
    rw [List.mem_range] at h2
    refine ⟨by show m ≤ _; omega, h1, fun j hj => ?_⟩
    have := h3 j hj
    simpa using this
/-- the granted set -/
def Dsp.grd : Nat := d.F d.last
theorem Dsp.grd_fix : d.dfd d.grd = d.grd := by
  have := d.last_spec.2.1
  unfold Dsp.still at this
  exact beq_iff_eq.1 this
theorem Dsp.grd_comp : d.comp d.grd = true := by
  rw [d.comp_iff]
  exact ⟨((d.adm_iff _).1 (d.F_adm _)).1, d.grd_fix⟩
theorem Dsp.F_grd (k : Nat) : sub (d.F k) d.grd = true := by
  by_cases h : k ≤ d.last
  · exact d.F_le h
  · have := d.still_up d.last_spec.2.1 k (by omega)
    rw [this]; exact sub_refl _
/-- A2: the granted set is part of each complete set -/
theorem Dsp.grd_least {c : Nat} (h : d.dfd c = c) : sub d.grd c = true := by
  suffices ∀ k, sub (d.F k) c = true from this _
  intro k
  induction k with
  | zero => exact zero_sub _
  | succ k ih => rw [← h]; exact d.dfd_mono ih
/-- in how many steps a claim is granted -/
def Dsp.stepOf (c : Nat) : Option Nat := (List.range (d.last + 1)).find? fun k => (d.F k).testBit c
theorem Dsp.stepOf_some {c k : Nat} (h : d.stepOf c = some k) : k ≤ d.last ∧ (d.F k).testBit c = true ∧ ∀ j, j < k → (d.F j).testBit c = false := by
  unfold Dsp.stepOf at h
  rw [List.find?_range_eq_some] at h
  obtain ⟨h1, h2, h3⟩ := h
  rw [List.mem_range] at h2
  exact ⟨by omega, h1, fun j hj => by simpa using h3 j hj⟩
theorem Dsp.stepOf_none {c : Nat} (h : d.stepOf c = none) : ∀ k, (d.F k).testBit c = false := by
  unfold Dsp.stepOf at h
  rw [List.find?_eq_none] at h
  intro k
  cases e : (d.F k).testBit c with
  | false => rfl
  | true => exact absurd ((sub_iff _ _).1 (d.F_grd k) c e) (h d.last (by rw [List.mem_range]; omega))
/-- preferred sets are complete -/
theorem Dsp.mem_pref (s : Nat) : s ∈ d.pref ↔ d.adm s = true ∧ ∀ t, d.adm t = true → sub s t = true → t = s := by
  unfold Dsp.pref
  rw [mem_grt]
  constructor
  · rintro ⟨h1, h2⟩
    exact ⟨((d.mem_alls _ _).1 h1).2, fun t ht h => h2 t ((d.mem_alls _ _).2 ⟨d.adm_lt ht, ht⟩) h⟩
  · rintro ⟨h1, h2⟩
    exact ⟨(d.mem_alls _ _).2 ⟨d.adm_lt h1, h1⟩, fun t ht h => h2 t ((d.mem_alls _ _).1 ht).2 h⟩
theorem Dsp.above {s : Nat} (h : d.adm s = true) : ∃ p, p ∈ d.pref ∧ sub s p = true :=
  grt_above (fun s => s) _ ((d.mem_alls _ _).2 ⟨d.adm_lt h, h⟩)
theorem Dsp.mem_comps (s : Nat) : s ∈ d.comps ↔ d.comp s = true := by
  unfold Dsp.comps
  rw [d.mem_alls]
  exact ⟨fun h => h.2, fun h => ⟨d.adm_lt (d.comp_adm h), h⟩⟩
theorem Dsp.pref_comp {s : Nat} (h : s ∈ d.pref) : d.comp s = true := by
  obtain ⟨h1, h2⟩ := (d.mem_pref s).1 h
  rw [d.comp_iff]
  exact ⟨((d.adm_iff s).1 h1).1, h2 _ (d.adm_dfd h1) (d.adm_sub h1)⟩
theorem Dsp.mem_semis (s : Nat) : s ∈ d.semis ↔ d.comp s = true ∧ ∀ t, d.comp t = true → sub (s ||| d.hit s) (t ||| d.hit t) = true → t ||| d.hit t = s ||| d.hit s := by
  unfold Dsp.semis
  rw [mem_grt]
  simp only [d.mem_comps]
theorem or_sub {a b c e : Nat} (h1 : sub a c = true) (h2 : sub b e = true) : sub (a ||| b) (c ||| e) = true := by
  rw [sub_iff]
  intro i hi
  rw [Nat.testBit_or, Bool.or_eq_true] at hi ⊢
  rcases hi with h | h
  · exact .inl ((sub_iff _ _).1 h1 i h)
  · exact .inr ((sub_iff _ _).1 h2 i h)
theorem Dsp.range_mono {s t : Nat} (h : sub s t = true) : sub (s ||| d.hit s) (t ||| d.hit t) = true := or_sub h (d.hit_mono h)
theorem Dsp.semi_pref {s : Nat} (h : s ∈ d.semis) : s ∈ d.pref := by
  obtain ⟨h1, h2⟩ := (d.mem_semis s).1 h
  obtain ⟨u, hu, hsu⟩ := d.above (d.comp_adm h1)
  have hcu := d.pref_comp hu
  have h3 := h2 u hcu (d.range_mono hsu)
  have : u = s := by
    refine sub_antisymm ((sub_iff _ _).2 fun i hi => ?_) hsu
    have h4 : (u ||| d.hit u).testBit i = true := by rw [Nat.testBit_or, hi]; rfl
    rw [h3, Nat.testBit_or, Bool.or_eq_true] at h4
    rcases h4 with h4 | h4
    · exact h4
    · have h5 := (sub_iff _ _).1 (d.hit_mono hsu) i h4
      have h6 := (d.cf_iff u).1 ((d.comp_iff u).1 hcu).1 i hi
      rw [h5] at h6; cases h6
  rw [← this]; exact hu
theorem Dsp.mem_stabs (s : Nat) : s ∈ d.stabs ↔ s < 2 ^ d.n ∧ d.hit s = diff d.full s := by
  unfold Dsp.stabs
  rw [d.mem_alls]
  unfold Dsp.stab
  rw [beq_iff_eq]
theorem Dsp.stab_range {s : Nat} (h : s ∈ d.stabs) : s ||| d.hit s = d.full := by
  obtain ⟨h1, h2⟩ := (d.mem_stabs s).1 h
  rw [h2]
  refine Nat.eq_of_testBit_eq fun i => ?_
  rw [Nat.testBit_or, diff_bit, d.full_bit]
  cases e : s.testBit i
  · simp
  · rw [decide_eq_true (bit_lt h1 e)]; rfl
theorem Dsp.range_full {s : Nat} (h : s < 2 ^ d.n) : sub (s ||| d.hit s) d.full = true := by
  rw [sub_iff]
  intro i hi
  rw [Nat.testBit_or, Bool.or_eq_true] at hi
  rw [d.full_bit, decide_eq_true_eq]
  rcases hi with hi | hi
  · exact bit_lt h hi
  · exact bit_lt (d.hit_lt s) hi
theorem Dsp.stab_cf {s : Nat} (h : s ∈ d.stabs) : d.cf s = true := by
  obtain ⟨h1, h2⟩ := (d.mem_stabs s).1 h
  rw [d.cf_iff]
  intro i hi
  rw [h2, diff_bit, hi]; simp
theorem Dsp.stab_comp {s : Nat} (h : s ∈ d.stabs) : d.comp s = true := by
  obtain ⟨h1, h2⟩ := (d.mem_stabs s).1 h
  have hc := d.stab_cf h
  rw [d.comp_iff]
  refine ⟨hc, sub_antisymm ((sub_iff _ _).2 fun i hi => ?_) ((sub_iff _ _).2 fun i hi => ?_)⟩
  · obtain ⟨hin, hd⟩ := (d.dfd_iff s i).1 hi
    cases e : s.testBit i with
    | true => rfl
    | false =>
      have h3 : (d.hit s).testBit i = true := by rw [h2, diff_bit, d.full_bit, e, decide_eq_true hin]; rfl
      obtain ⟨_, a, ha, hsa, hai⟩ := (d.hit_iff s i).1 h3
      have h4 := hd a ha hai
      have h5 := (d.cf_iff s).1 hc a hsa
      rw [h4] at h5; cases h5
  · rw [d.dfd_iff]
    refine ⟨bit_lt h1 hi, fun j hj hji => ?_⟩
    rw [h2, diff_bit, d.full_bit, decide_eq_true hj]
    cases e : s.testBit j with
    | false => rfl
    | true =>
      have h3 := (d.hit_iff s i).2 ⟨bit_lt h1 hi, j, hj, e, hji⟩
      have h4 := (d.cf_iff s).1 hc i hi
      rw [h3] at h4; cases h4
theorem Dsp.stab_semi {s : Nat} (h : s ∈ d.stabs) : s ∈ d.semis := by
  rw [d.mem_semis]
  refine ⟨d.stab_comp h, fun t ht hr => ?_⟩
  rw [d.stab_range h] at hr ⊢
  exact sub_antisymm (d.range_full (d.adm_lt (d.comp_adm ht))) hr
theorem Dsp.semi_stab {s m : Nat} (h : s ∈ d.stabs) (hm : m ∈ d.semis) : m ∈ d.stabs := by
  obtain ⟨h1, h2⟩ := (d.mem_semis m).1 hm
  have hl := d.adm_lt (d.comp_adm h1)
  have h3 := h2 s (d.stab_comp h) (by rw [d.stab_range h]; exact d.range_full hl)
  rw [d.stab_range h] at h3
  rw [d.mem_stabs]
  refine ⟨hl, Nat.eq_of_testBit_eq fun i => ?_⟩
  rw [h3, diff_bit, Nat.testBit_or]
  cases e : m.testBit i with
  | false => simp
  | true =>
    have := (d.cf_iff m).1 ((d.comp_iff m).1 h1).1 i e
    rw [this]; rfl
theorem Dsp.semis_filter : d.semis = (List.range (2 ^ d.n)).filter fun s => d.comp s && !d.comps.any fun t => (t ||| d.hit t) != (s ||| d.hit s) && sub (s ||| d.hit s) (t ||| d.hit t) := by
  unfold Dsp.semis grt
  conv => lhs; rw [show d.comps = d.alls d.comp from rfl]
  unfold Dsp.alls
  rw [List.filter_filter]
  refine List.filter_congr fun x _ => ?_
  rw [Bool.and_comm]; rfl
/-- A3: if there are stable sets, they are the semi-stable ones -/
theorem Dsp.stabs_eq {s : Nat} (h : s ∈ d.stabs) : d.semis = d.stabs := by
  have e := d.semis_filter
  rw [e]
  unfold Dsp.stabs Dsp.alls
  refine List.filter_congr fun x hx => ?_
  have hx2 : x < 2 ^ d.n := List.mem_range.1 hx
  have h1 : x ∈ d.semis ↔ x ∈ d.stabs := ⟨fun hm => d.semi_stab h hm, fun hm => d.stab_semi hm⟩
  rw [e] at h1
  unfold Dsp.stabs Dsp.alls at h1
  rw [List.mem_filter, List.mem_filter] at h1
  rw [Bool.eq_iff_iff]
  exact ⟨fun h2 => (h1.1 ⟨hx, h2⟩).2, fun h2 => (h1.2 ⟨hx, h2⟩).2⟩
/-- what is common to all preferred sets -/
def Dsp.common : Nat := d.pref.foldl (fun a s => a &&& s) d.full
theorem foldl_and_bit (i : Nat) : ∀ (l : List Nat) (a : Nat), (l.foldl (fun a s => a &&& s) a).testBit i = (a.testBit i && l.all fun s => s.testBit i)
  | [], a => by simp
  | x :: l, a => by
    rw [List.foldl_cons, foldl_and_bit i l, Nat.testBit_and, List.all_cons, Bool.and_assoc]
theorem Dsp.common_iff (i : Nat) : d.common.testBit i = true ↔ i < d.n ∧ ∀ p, p ∈ d.pref → p.testBit i = true := by
  unfold Dsp.common
  rw [foldl_and_bit, d.full_bit, Bool.and_eq_true, decide_eq_true_eq, List.all_eq_true]
theorem Dsp.common_sub {p : Nat} (h : p ∈ d.pref) : sub d.common p = true := (sub_iff _ _).2 fun i hi => ((d.common_iff i).1 hi).2 p h
theorem Dsp.pref_some : ∃ p, p ∈ d.pref := by
  obtain ⟨p, h, _⟩ := d.above d.adm_zero
  exact ⟨p, h⟩
theorem Dsp.cf_mono {s t : Nat} (h : sub s t = true) (hc : d.cf t = true) : d.cf s = true := by
  rw [d.cf_iff] at hc ⊢
  intro i hi
  have h1 := hc i ((sub_iff _ _).1 h i hi)
  cases e : (d.hit s).testBit i with
  | false => rfl
  | true => rw [(sub_iff _ _).1 (d.hit_mono h) i e] at h1; cases h1
/-- the ideal set: all that is in an admissible set within what is common to the preferred ones -/
def Dsp.ideal : Nat := ((d.alls d.adm).filter fun s => sub s d.common).foldl (fun a s => a ||| s) 0
theorem foldl_or_bit (i : Nat) : ∀ (l : List Nat) (a : Nat), (l.foldl (fun a s => a ||| s) a).testBit i = (a.testBit i || l.any fun s => s.testBit i)
  | [], a => by simp
  | x :: l, a => by
    rw [List.foldl_cons, foldl_or_bit i l, Nat.testBit_or, List.any_cons, Bool.or_assoc]
theorem Dsp.ideal_iff (i : Nat) : d.ideal.testBit i = true ↔ ∃ s, d.adm s = true ∧ sub s d.common = true ∧ s.testBit i = true := by
  unfold Dsp.ideal
  rw [foldl_or_bit, Nat.zero_testBit, Bool.false_or, List.any_eq_true]
  constructor
  · rintro ⟨s, h1, h2⟩
    rw [List.mem_filter, d.mem_alls] at h1
    exact ⟨s, h1.1.2, h1.2, h2⟩
  · rintro ⟨s, h1, h2, h3⟩
    exact ⟨s, by rw [List.mem_filter, d.mem_alls]; exact ⟨⟨d.adm_lt h1, h1⟩, h2⟩, h3⟩
theorem Dsp.sub_ideal {s : Nat} (h1 : d.adm s = true) (h2 : sub s d.common = true) : sub s d.ideal = true := (sub_iff _ _).2 fun i hi => (d.ideal_iff i).2 ⟨s, h1, h2, hi⟩
theorem Dsp.ideal_sub : sub d.ideal d.common = true := (sub_iff _ _).2 fun i hi => by
  obtain ⟨s, _, h2, h3⟩ := (d.ideal_iff i).1 hi
  exact (sub_iff _ _).1 h2 i h3
theorem Dsp.common_cf : d.cf d.common = true := by
  obtain ⟨p, hp⟩ := d.pref_some
  exact d.cf_mono (d.common_sub hp) ((d.comp_iff p).1 (d.pref_comp hp)).1
theorem Dsp.ideal_adm : d.adm d.ideal = true := by
  rw [d.adm_iff]
  refine ⟨d.cf_mono d.ideal_sub d.common_cf, (sub_iff _ _).2 fun i hi => ?_⟩
  obtain ⟨s, h1, h2, h3⟩ := (d.ideal_iff i).1 hi
  exact (sub_iff _ _).1 (d.dfd_mono (d.sub_ideal h1 h2)) i ((sub_iff _ _).1 (d.adm_sub h1) i h3)
/-- A4 -/
theorem Dsp.ideal_comp : d.comp d.ideal = true := by
  have h := d.ideal_adm
  rw [d.comp_iff]
  refine ⟨((d.adm_iff _).1 h).1, sub_antisymm (d.sub_ideal (d.adm_dfd h) ((sub_iff _ _).2 fun i hi => ?_)) (d.adm_sub h)⟩
  rw [d.common_iff]
  refine ⟨((d.dfd_iff _ i).1 hi).1, fun p hp => ?_⟩
  have h2 := ((d.comp_iff p).1 (d.pref_comp hp)).2
  rw [← h2]
  exact (sub_iff _ _).1 (d.dfd_mono (sub_trans d.ideal_sub (d.common_sub hp))) i hi
theorem Dsp.grd_ideal : sub d.grd d.ideal = true := d.grd_least ((d.comp_iff _).1 d.ideal_comp).2
theorem Dsp.ideal_pref {p : Nat} (h : p ∈ d.pref) : sub d.ideal p = true := sub_trans d.ideal_sub (d.common_sub h)
/-- the program takes away what is not defended, until nothing is left to be taken away -/
def Dsp.cut (s : Nat) : Nat := s &&& d.dfd s
theorem Dsp.cut_sub (s : Nat) : sub (d.cut s) s = true := (sub_iff _ _).2 fun i hi => by
  unfold Dsp.cut at hi
  rw [Nat.testBit_and, Bool.and_eq_true] at hi
  exact hi.1
theorem Dsp.ideal_cut {s : Nat} (h : sub d.ideal s = true) : sub d.ideal (d.cut s) = true := (sub_iff _ _).2 fun i hi => by
  unfold Dsp.cut
  rw [Nat.testBit_and, (sub_iff _ _).1 h i hi]
  have := (sub_iff _ _).1 (d.dfd_mono h) i (by rw [((d.comp_iff _).1 d.ideal_comp).2]; exact hi)
  rw [this]; rfl
theorem Dsp.cut_end {s : Nat} (h1 : sub d.ideal s = true) (h2 : sub s d.common = true) (h3 : sub s (d.dfd s) = true) : s = d.ideal :=
  sub_antisymm (d.sub_ideal ((d.adm_iff s).2 ⟨d.cf_mono h2 d.common_cf, h3⟩) h2) h1
theorem Dsp.cut_less {s : Nat} (h3 : sub s (d.dfd s) = false) (hs : s < 2 ^ d.n) : cnt (d.cut s) d.n < cnt s d.n := by
  refine cnt_ne (d.cut_sub s) (fun h => ?_) hs
  have : sub s (d.dfd s) = true := (sub_iff _ _).2 fun i hi => by
    rw [← h] at hi
    unfold Dsp.cut at hi
    rw [Nat.testBit_and, Bool.and_eq_true] at hi
    exact hi.2
  rw [this] at h3; cases h3
end
end Go.Proofs.Ytaedbkdimpdngaa
