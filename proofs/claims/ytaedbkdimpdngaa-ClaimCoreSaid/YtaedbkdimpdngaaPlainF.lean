/-
  Chapter 12 in plain words: the first of the shortest odd rings, as the program and as the document look for it.
-/
import Derived.Test.YtaedbkdimpdngaaPlainE
namespace Go.Proofs.Ytaedbkdimpdngaa
/-- the first that is found -/
def firstS {α : Type} (f : Nat → Option α) : Nat → Option α
  | 0 => none
  | n + 1 => match firstS f n with
    | some x => some x
    | none => f n
theorem firstS_none {α : Type} {f : Nat → Option α} : ∀ {n : Nat}, firstS f n = none ↔ ∀ i, i < n → f i = none
  | 0 => by simp [firstS]
  | n + 1 => by
    have ih := firstS_none (f := f) (n := n)
    unfold firstS
    cases e : firstS f n with
    | some x =>
      simp only [reduceCtorEq, false_iff]
      intro h
      rw [ih.2 fun i hi => h i (by omega)] at e; cases e
    | none =>
      have h1 := ih.1 e
      constructor
      · intro h i hi
        by_cases h2 : i = n
        · rw [h2]; exact h
        · exact h1 i (by omega)
      · exact fun h => h n (by omega)
theorem firstS_some {α : Type} {f : Nat → Option α} {x : α} : ∀ {n : Nat}, firstS f n = some x → ∃ i, i < n ∧ f i = some x ∧ ∀ j, j < i → f j = none
  | 0, h => by simp [firstS] at h
  | n + 1, h => by
    unfold firstS at h
    cases e : firstS f n with
    | some y =>
      rw [e] at h
      obtain ⟨i, h1, h2⟩ := firstS_some (e.trans h)
      exact ⟨i, by omega, h2⟩
    | none =>
      rw [e] at h
      exact ⟨n, by omega, h, firstS_none.1 e⟩
theorem firstS_at {α : Type} {f : Nat → Option α} {x : α} {n i : Nat} (hi : i < n) (h : f i = some x) (h2 : ∀ j, j < i → f j = none) : firstS f n = some x := by
  cases e : firstS f n with
  | none => rw [firstS_none.1 e i hi] at h; cases h
  | some y =>
    obtain ⟨j, h3, h4, h5⟩ := firstS_some e
    by_cases h6 : j < i
    · rw [h2 j h6] at h4; cases h4
    · by_cases h7 : i < j
      · rw [h5 i h7] at h; cases h
      · have : i = j := by omega
        rw [← this, h] at h4
        exact h4.symm
/-- the last of some claims -/
def lastN : Nat → List Nat → Nat
  | h, [] => h
  | _, a :: l => lastN a l
theorem lastN_snoc (i : Nat) : ∀ (l : List Nat) (h : Nat), lastN h (l ++ [i]) = i
  | [], _ => rfl
  | a :: l, _ => lastN_snoc i l a
theorem path_snoc (r : Nat → Nat → Bool) (i : Nat) : ∀ (l : List Nat) (h : Nat), path r (h :: l ++ [i]) = (path r (h :: l) && r (lastN h l) i)
  | [], h => by simp [path, lastN]
  | a :: l, h => by
    show (r h a && path r (a :: l ++ [i])) = (r h a && path r (a :: l) && r (lastN a l) i)
    rw [path_snoc r i l a, Bool.and_assoc]
section
variable (d : Dsp)
/-- the program looks for a ring of h and l, and k more claims -/
def Dsp.walk (h : Nat) : Nat → List Nat → Option (List Nat)
  | 0, l => if d.att (lastN h l) h then some (h :: l) else none
  | k + 1, l => firstS (fun i => if decide (h < i) && d.att (lastN h l) i && !l.contains i then Dsp.walk h k (l ++ [i]) else none) d.n
/-- rings of size claims -/
def Dsp.oddOf (size : Nat) : Option (List Nat) := firstS (fun h => d.walk h (size - 1) []) d.n
/-- the first of the shortest odd rings -/
def Dsp.odd : Option (List Nat) := firstS (fun j => d.oddOf (2 * j + 1)) ((d.n + 1) / 2)
/-- the beginning of a ring -/
structure Part (h : Nat) (l : List Nat) : Prop where
  path : path d.att (h :: l) = true
  nodup : l.Nodup
  least : ∀ x, x ∈ l → h < x
  lt : ∀ x, x ∈ h :: l → x < d.n
theorem ring_iff (h : Nat) (l : List Nat) : Ring d.att d.n h l ↔ Part d h l ∧ d.att (lastN h l) h = true := by
  constructor
  · rintro ⟨h1, h2, h3, h4⟩
    unfold Closed at h1
    rw [path_snoc, Bool.and_eq_true] at h1
    exact ⟨⟨h1.1, (List.nodup_cons.1 h2).2, h3, h4⟩, h1.2⟩
  · rintro ⟨⟨h1, h2, h3, h4⟩, h5⟩
    refine ⟨?_, List.nodup_cons.2 ⟨fun hm => ?_, h2⟩, h3, h4⟩
    · unfold Closed
      rw [path_snoc, h1, h5]; rfl
    · have := h3 h hm; omega
theorem part_nil {h : Nat} (hh : h < d.n) : Part d h [] := ⟨rfl, List.nodup_nil, fun x hx => (by simp at hx), fun x hx => by simp at hx; omega⟩
theorem part_snoc {h i : Nat} {l : List Nat} (hp : Part d h l) (h1 : h < i) (h2 : i < d.n) (h3 : d.att (lastN h l) i = true) (h4 : i ∉ l) : Part d h (l ++ [i]) := by
  refine ⟨?_, ?_, fun x hx => ?_, fun x hx => ?_⟩
  · have := path_snoc d.att i l h
    rw [hp.path, h3] at this
    exact this
  · rw [List.nodup_append]
    exact ⟨hp.nodup, by simp, fun a ha b hb => by simp at hb; subst hb; intro e; rw [e] at ha; exact h4 ha⟩
  · rw [List.mem_append, List.mem_singleton] at hx
    rcases hx with hx | rfl
    · exact hp.least x hx
    · exact h1
  · rw [List.mem_cons, List.mem_append, List.mem_singleton] at hx
    rcases hx with rfl | hx | rfl
    · exact hp.lt x (by simp)
    · exact hp.lt x (List.mem_cons_of_mem _ hx)
    · exact h2
theorem part_next {h i : Nat} {l m : List Nat} (hr : Ring d.att d.n h (l ++ i :: m)) : h < i ∧ i < d.n ∧ d.att (lastN h l) i = true ∧ i ∉ l := by
  refine ⟨hr.least i (by simp), hr.lt i (by simp), ?_, ?_⟩
  · have h1 := hr.closed
    unfold Closed at h1
    rw [show h :: (l ++ i :: m) ++ [h] = (h :: l) ++ i :: (m ++ [h]) by simp, path_app, Bool.and_eq_true, path_snoc, Bool.and_eq_true] at h1
    exact h1.1.2
  · have h1 := (List.nodup_cons.1 hr.nodup).2
    rw [List.nodup_append] at h1
    exact fun hm => h1.2.2 i hm i (by simp) rfl
theorem ltL_app : ∀ (p x y : List Nat), ltL (p ++ x) (p ++ y) = ltL x y
  | [], _, _ => rfl
  | a :: p, x, y => by
    show (decide (a < a) || (a == a && ltL (p ++ x) (p ++ y))) = _
    rw [ltL_app p x y]; simp
theorem walk_none (h : Nat) : ∀ (k : Nat) (l : List Nat), d.walk h k l = none → ∀ m, m.length = k → ¬ Ring d.att d.n h (l ++ m)
  | 0, l, e, m, hm, hr => by
    have : m = [] := List.length_eq_zero_iff.1 hm
    subst this
    rw [List.append_nil, ring_iff] at hr
    unfold Dsp.walk at e
    rw [if_pos hr.2] at e; cases e
  | k + 1, l, e, m, hm, hr => by
    match m, hm with
    | i :: m, hm =>
      obtain ⟨h1, h2, h3, h4⟩ := part_next d hr
      unfold Dsp.walk at e
      have h5 := firstS_none.1 e i h2
      simp only [h1, h3, decide_true, Bool.true_and] at h5
      have h6 : (!l.contains i) = true := by simp [h4]
      rw [if_pos h6] at h5
      refine walk_none h k (l ++ [i]) h5 m (by simpa using hm) ?_
      rw [List.append_assoc]; exact hr
theorem walk_some (h : Nat) : ∀ (k : Nat) (l : List Nat) (x : List Nat), Part d h l → d.walk h k l = some x →
    ∃ m, m.length = k ∧ x = h :: (l ++ m) ∧ Ring d.att d.n h (l ++ m) ∧ ∀ m', m'.length = k → Ring d.att d.n h (l ++ m') → ltL m' m = false
  | 0, l, x, hp, e => by
    unfold Dsp.walk at e
    cases h1 : d.att (lastN h l) h with
    | false => rw [h1, if_neg (by decide)] at e; cases e
    | true =>
      rw [h1, if_pos rfl] at e
      refine ⟨[], rfl, by rw [List.append_nil]; exact (Option.some.inj e).symm, by rw [List.append_nil, ring_iff]; exact ⟨hp, h1⟩, fun m' hm' _ => ?_⟩
      rw [List.length_eq_zero_iff.1 hm']; rfl
  | k + 1, l, x, hp, e => by
    unfold Dsp.walk at e
    obtain ⟨i, hi, h1, h2⟩ := firstS_some e
    cases hc : (decide (h < i) && d.att (lastN h l) i && !l.contains i) with
    | false => rw [hc, if_neg (by decide)] at h1; cases h1
    | true =>
      rw [hc, if_pos rfl] at h1
      simp only [Bool.and_eq_true, decide_eq_true_eq, Bool.not_eq_true', List.contains_eq_mem, decide_eq_false_iff_not] at hc
      obtain ⟨m, h3, h4, h5, h6⟩ := walk_some h k (l ++ [i]) x (part_snoc d hp hc.1.1 hi hc.1.2 hc.2) h1
      refine ⟨i :: m, by simp [h3], by rw [h4, List.append_assoc]; rfl, by rw [List.append_assoc] at h5; exact h5, fun m' hm' hr => ?_⟩
      match m', hm' with
      | b :: m', hm' =>
        obtain ⟨g1, g2, g3, g4⟩ := part_next d hr
        show (decide (b < i) || (b == i && ltL m' m)) = false
        rw [Bool.or_eq_false_iff, decide_eq_false_iff_not, Bool.and_eq_false_iff]
        by_cases hb : b < i
        · exfalso
          have h7 := h2 b hb
          have h8 : (decide (h < b) && d.att (lastN h l) b && !l.contains b) = true := by simp [g1, g3, g4]
          rw [if_pos h8] at h7
          refine walk_none d h k _ h7 m' (by simpa using hm') ?_
          rw [List.append_assoc]; exact hr
        · refine ⟨hb, ?_⟩
          by_cases hbi : b = i
          · subst hbi
            right
            refine h6 m' (by simpa using hm') ?_
            rw [List.append_assoc]; exact hr
          · left; simp [hbi]
/-- a ring, as a list -/
def Dsp.isRing (x : List Nat) : Prop := ∃ h l, x = h :: l ∧ Ring d.att d.n h l
theorem ring_len {x : List Nat} (h : d.isRing x) : 1 ≤ x.length ∧ x.length ≤ d.n := by
  obtain ⟨a, l, rfl, hr⟩ := h
  refine ⟨by simp, ?_⟩
  have := nodup_len (m := List.range d.n) hr.nodup fun x hx => List.mem_range.2 (hr.lt x hx)
  rwa [List.length_range] at this
theorem oddOf_none {size : Nat} (h : d.oddOf size = none) {x : List Nat} (hx : d.isRing x) : x.length ≠ size := by
  obtain ⟨a, l, rfl, hr⟩ := hx
  intro e
  unfold Dsp.oddOf at h
  have h1 := firstS_none.1 h a (hr.lt a (by simp))
  refine walk_none d a _ _ h1 l ?_ hr
  simp at e; omega
theorem oddOf_some {size : Nat} (hs : 1 ≤ size) {x : List Nat} (h : d.oddOf size = some x) : d.isRing x ∧ x.length = size ∧ ∀ y, d.isRing y → y.length = size → ltL y x = false := by
  unfold Dsp.oddOf at h
  obtain ⟨a, ha, h1, h2⟩ := firstS_some h
  obtain ⟨m, h3, h4, h5, h6⟩ := walk_some d a _ _ _ (part_nil d ha) h1
  rw [List.nil_append] at h4 h5
  subst h4
  refine ⟨⟨a, m, rfl, h5⟩, by simp; omega, ?_⟩
  rintro y ⟨b, l, rfl, hr⟩ hl
  show (decide (b < a) || (b == a && ltL l m)) = false
  rw [Bool.or_eq_false_iff, decide_eq_false_iff_not, Bool.and_eq_false_iff]
  simp at hl
  by_cases hb : b < a
  · exfalso
    exact walk_none d b _ _ (h2 b hb) l (by omega) hr
  · refine ⟨hb, ?_⟩
    by_cases hba : b = a
    · subst hba
      exact .inr (h6 l (by omega) hr)
    · left; simp [hba]
/-- less: shorter, or as long and less in lexicographic order -/
def ltK (x y : List Nat) : Bool := decide (x.length < y.length) || (x.length == y.length && ltL x y)
/-- the first of the shortest odd rings -/
def Dsp.Best (x : List Nat) : Prop := d.isRing x ∧ x.length % 2 = 1 ∧ ∀ y, d.isRing y → y.length % 2 = 1 → ltK y x = false
theorem best_unique {x y : List Nat} (hx : d.Best x) (hy : d.Best y) : x = y := by
  have h1 := hx.2.2 y hy.1 hy.2.1
  have h2 := hy.2.2 x hx.1 hx.2.1
  unfold ltK at h1 h2
  simp only [Bool.or_eq_false_iff, decide_eq_false_iff_not, Bool.and_eq_false_iff, beq_eq_false_iff_ne, ne_eq] at h1 h2
  have h3 : x.length = y.length := by omega
  exact ltL_total (h2.2.resolve_left (by omega)) (h1.2.resolve_left (by omega))
theorem odd_none (h : d.odd = none) {x : List Nat} (hx : d.isRing x) : x.length % 2 = 0 := by
  by_cases ho : x.length % 2 = 0
  · exact ho
  · exfalso
    have hl := ring_len d hx
    unfold Dsp.odd at h
    have h1 := firstS_none.1 h (x.length / 2) (by omega)
    exact oddOf_none d h1 hx (by omega)
theorem odd_some {x : List Nat} (h : d.odd = some x) : d.Best x := by
  unfold Dsp.odd at h
  obtain ⟨j, hj, h1, h2⟩ := firstS_some h
  obtain ⟨h3, h4, h5⟩ := oddOf_some d (by omega) h1
  refine ⟨h3, by omega, fun y hy ho => ?_⟩
  unfold ltK
  rw [Bool.or_eq_false_iff, decide_eq_false_iff_not, Bool.and_eq_false_iff]
  have hl := ring_len d hy
  by_cases hs : y.length < x.length
  · exfalso
    exact oddOf_none d (h2 (y.length / 2) (by omega)) hy (by omega)
  · refine ⟨hs, ?_⟩
    by_cases he : y.length = x.length
    · exact .inr (h5 y hy (by omega))
    · left; simp [he]
/-- no odd ring, as the laws say it -/
theorem odd_none_ring (h : d.odd = none) : ∀ a l, Ring d.att d.n a l → l.length % 2 = 0 → False := fun a l hr ho => by
  have := odd_none d h ⟨a, l, rfl, hr⟩
  simp at this; omega
theorem odd_none_of (h : ∀ a l, Ring d.att d.n a l → l.length % 2 = 0 → False) : d.odd = none := by
  cases e : d.odd with
  | none => rfl
  | some x =>
    obtain ⟨⟨a, l, rfl, hr⟩, ho, _⟩ := odd_some d e
    exact (h a l hr (by simp at ho; omega)).elim
/-- all rings, as the document lists them -/
def Dsp.rgs (h : Nat) : Nat → List Nat → List (List Nat)
  | 0, _ => []
  | k + 1, l => (if d.att (lastN h l) h then [h :: l] else []) ++ (List.range d.n).flatMap fun b => if decide (h < b) && d.att (lastN h l) b && !l.contains b then Dsp.rgs h k (l ++ [b]) else []
def Dsp.rings : List (List Nat) := (List.range d.n).flatMap fun a => d.rgs a d.n []
theorem part_len {h : Nat} {l : List Nat} (hp : Part d h l) : l.length < d.n := by
  have h1 : (h :: l).Nodup := List.nodup_cons.2 ⟨fun hm => by have := hp.least h hm; omega, hp.nodup⟩
  have := nodup_len (m := List.range d.n) h1 fun x hx => List.mem_range.2 (hp.lt x hx)
  rw [List.length_range] at this
  simp at this; omega
theorem mem_rgs (h : Nat) : ∀ (k : Nat) (l x : List Nat), Part d h l → d.n ≤ l.length + k → (x ∈ d.rgs h k l ↔ ∃ m, x = h :: (l ++ m) ∧ Ring d.att d.n h (l ++ m))
  | 0, l, x, hp, hk => by have := part_len d hp; omega
  | k + 1, l, x, hp, hk => by
    unfold Dsp.rgs
    rw [List.mem_append, List.mem_flatMap]
    constructor
    · rintro (h1 | ⟨b, hb, h1⟩)
      · cases h2 : d.att (lastN h l) h with
        | false => rw [h2, if_neg (by decide)] at h1; simp at h1
        | true =>
          rw [h2, if_pos rfl, List.mem_singleton] at h1
          exact ⟨[], by rw [List.append_nil]; exact h1, by rw [List.append_nil, ring_iff]; exact ⟨hp, h2⟩⟩
      · rw [List.mem_range] at hb
        cases hc : (decide (h < b) && d.att (lastN h l) b && !l.contains b) with
        | false => rw [hc, if_neg (by decide)] at h1; simp at h1
        | true =>
          rw [hc, if_pos rfl] at h1
          simp only [Bool.and_eq_true, decide_eq_true_eq, Bool.not_eq_true', List.contains_eq_mem, decide_eq_false_iff_not] at hc
          obtain ⟨m, h3, h4⟩ := (mem_rgs h k (l ++ [b]) x (part_snoc d hp hc.1.1 hb hc.1.2 hc.2) (by simp; omega)).1 h1
          rw [List.append_assoc] at h3 h4
          exact ⟨b :: m, h3, h4⟩
    · rintro ⟨m, rfl, hr⟩
      cases m with
      | nil =>
        rw [List.append_nil] at hr ⊢
        left
        rw [if_pos ((ring_iff d h l).1 hr).2]; simp
      | cons b m =>
        right
        obtain ⟨g1, g2, g3, g4⟩ := part_next d hr
        refine ⟨b, List.mem_range.2 g2, ?_⟩
        have h8 : (decide (h < b) && d.att (lastN h l) b && !l.contains b) = true := by simp [g1, g3, g4]
        rw [if_pos h8]
        refine (mem_rgs h k (l ++ [b]) _ (part_snoc d hp g1 g2 g3 g4) (by simp; omega)).2 ⟨m, by rw [List.append_assoc]; rfl, ?_⟩
        rw [List.append_assoc]; exact hr
theorem mem_rings (x : List Nat) : x ∈ d.rings ↔ d.isRing x := by
  unfold Dsp.rings
  rw [List.mem_flatMap]
  constructor
  · rintro ⟨a, ha, h⟩
    rw [List.mem_range] at ha
    obtain ⟨m, h1, h2⟩ := (mem_rgs d a d.n [] x (part_nil d ha) (by simp)).1 h
    exact ⟨a, m, h1, h2⟩
  · rintro ⟨a, l, rfl, hr⟩
    have ha := hr.lt a (by simp)
    exact ⟨a, List.mem_range.2 ha, (mem_rgs d a d.n [] _ (part_nil d ha) (by simp)).2 ⟨l, rfl, hr⟩⟩
/-- the document's choice among all rings -/
def better (x : List Nat) : Option (List Nat) → Bool
  | none => true
  | some y => ltK x y
def bestOf (l : List (List Nat)) : Option (List Nat) := l.foldl (fun b x => if x.length % 2 == 1 && better x b then some x else b) none
theorem ltK_trans {x y z : List Nat} (h1 : ltK y x = false) (h2 : ltK z y = false) : ltK z x = false := by
  unfold ltK at *
  simp only [Bool.or_eq_false_iff, decide_eq_false_iff_not, Bool.and_eq_false_iff, beq_eq_false_iff_ne, ne_eq] at *
  refine ⟨by omega, ?_⟩
  by_cases h : z.length = x.length
  · right
    exact ltL_le_trans (h2.2.resolve_left (by omega)) (h1.2.resolve_left (by omega))
  · exact .inl h
theorem ltK_asymm {x y : List Nat} (h : ltK x y = true) : ltK y x = false := by
  unfold ltK at *
  simp only [Bool.or_eq_true, decide_eq_true_eq, Bool.and_eq_true, beq_iff_eq] at h
  simp only [Bool.or_eq_false_iff, decide_eq_false_iff_not, Bool.and_eq_false_iff, beq_eq_false_iff_ne, ne_eq]
  rcases h with h | ⟨h, h2⟩
  · exact ⟨by omega, .inl (by omega)⟩
  · exact ⟨by omega, .inr (ltL_asymm h2)⟩
theorem ltK_irrefl (x : List Nat) : ltK x x = false := by simp [ltK, ltL_irrefl]
/-- what the best of some lists is -/
def IsBest (l : List (List Nat)) : Option (List Nat) → Prop
  | none => ∀ y, y ∈ l → y.length % 2 = 0
  | some x => x ∈ l ∧ x.length % 2 = 1 ∧ ∀ y, y ∈ l → y.length % 2 = 1 → ltK y x = false
theorem best_step {l : List (List Nat)} {b : Option (List Nat)} (x : List Nat) (h : IsBest l b) : IsBest (l ++ [x]) (if x.length % 2 == 1 && better x b then some x else b) := by
  by_cases ho : x.length % 2 = 1
  · rw [show (x.length % 2 == 1) = true by simp [ho], Bool.true_and]
    cases b with
    | none =>
      rw [show better x none = true from rfl, if_pos rfl]
      refine ⟨by simp, ho, fun y hy hyo => ?_⟩
      rw [List.mem_append, List.mem_singleton] at hy
      rcases hy with hy | rfl
      · have := h y hy; omega
      · exact ltK_irrefl _
    | some z =>
      obtain ⟨h1, h2, h3⟩ := h
      cases hb : ltK x z with
      | true =>
        rw [show better x (some z) = true from hb, if_pos rfl]
        refine ⟨by simp, ho, fun y hy hyo => ?_⟩
        rw [List.mem_append, List.mem_singleton] at hy
        rcases hy with hy | rfl
        · exact ltK_trans (ltK_asymm hb) (h3 y hy hyo)
        · exact ltK_irrefl _
      | false =>
        rw [show better x (some z) = false from hb, if_neg (by decide)]
        refine ⟨by simp [h1], h2, fun y hy hyo => ?_⟩
        rw [List.mem_append, List.mem_singleton] at hy
        rcases hy with hy | rfl
        · exact h3 y hy hyo
        · exact hb
  · rw [show (x.length % 2 == 1) = false by simp [ho], Bool.false_and, if_neg (by decide)]
    cases b with
    | none =>
      intro y hy
      rw [List.mem_append, List.mem_singleton] at hy
      rcases hy with hy | rfl
      · exact h y hy
      · omega
    | some z =>
      obtain ⟨h1, h2, h3⟩ := h
      refine ⟨by simp [h1], h2, fun y hy hyo => ?_⟩
      rw [List.mem_append, List.mem_singleton] at hy
      rcases hy with hy | rfl
      · exact h3 y hy hyo
      · omega
theorem best_fold : ∀ (m l : List (List Nat)) (b : Option (List Nat)), IsBest l b → IsBest (l ++ m) (m.foldl (fun b x => if x.length % 2 == 1 && better x b then some x else b) b)
  | [], l, b, h => by rw [List.append_nil]; exact h
  | x :: m, l, b, h => by
    have := best_fold m (l ++ [x]) _ (best_step x h)
    rw [List.append_assoc] at this
    exact this
/-- the document's choice is the program's -/
theorem bestOf_rings : bestOf d.rings = d.odd := by
  have h := best_fold d.rings [] none (fun y hy => by simp at hy)
  rw [List.nil_append] at h
  change IsBest d.rings (bestOf d.rings) at h
  cases e : bestOf d.rings with
  | none =>
    rw [e] at h
    cases e2 : d.odd with
    | none => rfl
    | some x =>
      have h2 := odd_some d e2
      have := h x ((mem_rings d x).2 h2.1)
      have := h2.2.1
      omega
  | some x =>
    rw [e] at h
    obtain ⟨h1, h2, h3⟩ := h
    have hb : d.Best x := ⟨(mem_rings d x).1 h1, h2, fun y hy ho => h3 y ((mem_rings d y).2 hy) ho⟩
    cases e2 : d.odd with
    | none =>
      have := odd_none d e2 hb.1
      omega
    | some y => rw [best_unique d hb (odd_some d e2)]
end
end Go.Proofs.Ytaedbkdimpdngaa
