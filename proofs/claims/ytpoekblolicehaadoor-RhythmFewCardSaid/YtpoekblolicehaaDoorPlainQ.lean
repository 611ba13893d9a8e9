/-
  Plain: there are fewer runs than letters (F4): after Bannai and others, each run owns the positions behind its first at which one of its Lyndon roots begins.
-/
import Derived.Test.YtpoekblolicehaaDoorPlainP
import Derived.Test.YtpoekblolicehaaDoorPlainJ
import Derived.Test.YtpoekblolicehaaDoorPlainI
namespace Go.Proofs.YtpoekblolicehaaDoor

theorem at_iff (l : Str) (x y : Nat) (hx : x < l.length) (hy : y < l.length) : l[x]? = l[y]? ↔ at' l x = at' l y := by
  unfold at'
  rw [List.getD_eq_getElem?_getD, List.getD_eq_getElem?_getD, List.getElem?_eq_getElem hx, List.getElem?_eq_getElem hy]
  constructor
  · intro h; rw [Option.some.inj h]
  · intro h; exact congrArg some (up_inj _ _ h)
theorem part_at (l : Str) (a b x : Nat) (_hb : b ≤ l.length) (h : a + x < b) : (part l a b)[x]? = l[a + x]? := by
  unfold part
  rw [List.getElem?_take, if_pos (by omega), List.getElem?_drop]
theorem at_part (l : Str) (a b x : Nat) (h : a + x < b) : at' (part l a b) x = at' l (a + x) := by
  unfold part
  rw [at_take _ _ _ (by omega), at_drop]
/-- q is a period of the part from i to j -/
def Per (l : Str) (i j q : Nat) : Prop := ∀ x, i ≤ x → x + q < j → at' l x = at' l (x + q)
theorem per_iff (l : Str) (i j q : Nat) (hj : j ≤ l.length) (hij : i ≤ j) (hq : q ≤ j - i) : period (part l i j) q = true ↔ Per l i j q := by
  have hl := part_length l i j hj
  rw [period_iff _ _ (by omega), hl]
  constructor
  · intro h x h1 h2
    have := h (x - i) (by omega)
    simp only at this
    rw [part_at l i j _ hj (by omega), part_at l i j _ hj (by omega), show i + (x - i) = x by omega, show i + (x - i + q) = x + q by omega] at this
    exact (at_iff l _ _ (by omega) (by omega)).1 this
  · intro h x hx
    show (part l i j)[x]? = (part l i j)[x + q]?
    rw [part_at l i j _ hj (by omega), part_at l i j _ hj (by omega)]
    exact (at_iff l _ _ (by omega) (by omega)).2 (by rw [← Nat.add_assoc]; exact h _ (by omega) (by omega))

structure RunP (l : Str) (i j p : Nat) : Prop where
  pos : 1 ≤ p
  two : i + 2 * p ≤ j
  len : j ≤ l.length
  per : Per l i j p
  left : 0 < i → at' l (i - 1) ≠ at' l (i - 1 + p)
  right : j < l.length → at' l (j - p) ≠ at' l j
  prim : ∀ q, 1 ≤ q → q < p → ¬ Per l i j q
theorem runP_of {l : Str} {r : Rn} (h : r ∈ runs l) : RunP l r.1 r.2.1 r.2.2 := by
  obtain ⟨i, j, p⟩ := r
  obtain ⟨h1, h2, h3, h4⟩ := (mem_runs l _).1 h
  simp only at h1 h2 h3 h4 ⊢
  have hl := part_length l i j h2
  obtain ⟨s1, s2, s3, s4⟩ := least_spec (part l i j) (by omega)
  unfold isRun at h3
  simp only [Bool.and_eq_true, decide_eq_true_eq, Bool.not_eq_true'] at h3
  obtain ⟨⟨b1, b2⟩, b3⟩ := h3
  rw [← h4] at b1
  have s1' : 1 ≤ p := by rw [h4]; exact s1
  have hper : Per l i j p := by rw [h4]; exact (per_iff l i j _ h2 (by omega) (by unfold lst; omega)).1 s3
  refine ⟨s1', by omega, h2, hper, fun h0 he => ?_, fun h0 he => ?_, fun q q1 q2 hq => ?_⟩
  · unfold lft at b2
    rw [decide_eq_true h0, Bool.true_and, ← h4] at b2
    have : period (part l (i - 1) j) p = true := (per_iff l (i - 1) j p h2 (by omega) (by omega)).2 fun x hx hx2 => by
      by_cases e : x = i - 1
      · subst e; exact he
      · exact hper x (by omega) hx2
    rw [this] at b2
    cases b2
  · unfold rgt at b3
    rw [decide_eq_true h0, Bool.true_and, ← h4] at b3
    have : period (part l i (j + 1)) p = true := (per_iff l i (j + 1) p (by omega) (by omega) (by omega)).2 fun x hx hx2 => by
      by_cases e : x = j - p
      · subst e; rw [he]; congr 1; omega
      · exact hper x hx (by omega)
    rw [this] at b3
    cases b3
  · have := (per_iff l i j q h2 (by omega) (by omega)).2 hq
    rw [s4 q q1 (by rw [h4] at q2; exact q2)] at this
    cases this

/-- the letters in the reversed order -/
def cmpl (l : Str) : Str := l.map fun c => 255 - c
theorem at_cmpl (l : Str) (x : Nat) (h : x < l.length) : at' (cmpl l) x = 255 - at' l x := by
  unfold at' cmpl up
  rw [List.getD_eq_getElem?_getD, List.getD_eq_getElem?_getD, List.getElem?_map, List.getElem?_eq_getElem h]
  show (255 - l[x]).toNat = 255 - l[x].toNat
  have := l[x].toNat_lt
  rw [UInt8.toNat_sub_of_le]
  · rfl
  · rw [UInt8.le_iff_toNat_le]
    show l[x].toNat ≤ 255
    omega
theorem at_le (l : Str) (x : Nat) : at' l x ≤ 255 := by
  unfold at' up
  have := (l.getD x 0).toNat_lt
  omega
def flp (b : Bool) (l : Str) : Str := if b = true then l else cmpl l
theorem flp_length (b : Bool) (l : Str) : (flp b l).length = l.length := by cases b <;> simp [flp, cmpl]
theorem flp_eq (b : Bool) (l : Str) (x y : Nat) (hx : x < l.length) (hy : y < l.length) : at' (flp b l) x = at' (flp b l) y ↔ at' l x = at' l y := by
  cases b
  · show at' (cmpl l) x = at' (cmpl l) y ↔ _
    rw [at_cmpl l x hx, at_cmpl l y hy]
    have := at_le l x; have := at_le l y
    omega
  · exact Iff.rfl
theorem flp_lt (b c : Bool) (hbc : b ≠ c) (l : Str) (x y : Nat) (hx : x < l.length) (hy : y < l.length) : at' (flp b l) x < at' (flp b l) y → at' (flp c l) y < at' (flp c l) x := by
  have h1 := at_cmpl l x hx
  have h2 := at_cmpl l y hy
  have := at_le l x; have := at_le l y
  cases b <;> cases c
  · exact absurd rfl hbc
  · show at' (cmpl l) x < at' (cmpl l) y → at' l y < at' l x
    omega
  · show at' l x < at' l y → at' (cmpl l) y < at' (cmpl l) x
    omega
  · exact absurd rfl hbc

/-- which order a run takes: the letter behind it is less than the one a period before -/
def dirB (l : Str) (j p : Nat) : Bool := decide (j < l.length → at' l j < at' l (j - p))
theorem dirB_lt {l : Str} {i j p : Nat} (r : RunP l i j p) (h : j < l.length) : at' (flp (dirB l j p) l) j < at' (flp (dirB l j p) l) (j - p) := by
  by_cases hd : at' l j < at' l (j - p)
  · have : dirB l j p = true := decide_eq_true fun _ => hd
    rw [this]; exact hd
  · have : dirB l j p = false := decide_eq_false fun h2 => hd (h2 h)
    rw [this]
    show at' (cmpl l) j < at' (cmpl l) (j - p)
    rw [at_cmpl l j h, at_cmpl l (j - p) (by omega)]
    have := r.right h
    have := at_le l j
    omega
/-- a Lyndon root of the run begins at a, behind the run's first position -/
def Root (l : Str) (i j p a : Nat) : Prop := i < a ∧ a + p ≤ j ∧ isLyn (part (flp (dirB l j p) l) a (a + p)) = true
theorem root_mis {l : Str} {i j p a : Nat} (r : RunP l i j p) (h : Root l i j p a) (k : Nat) (h1 : a < k) (h2 : k < a + p) :
    ∃ t, k + t < a + p ∧ (∀ u, u < t → at' l (a + u) = at' l (k + u)) ∧ at' (flp (dirB l j p) l) (a + t) < at' (flp (dirB l j p) l) (k + t) := by
  obtain ⟨_, a2, a3⟩ := h
  have hl : (part (flp (dirB l j p) l) a (a + p)).length = p := by
    rw [part_length _ _ _ (by rw [flp_length]; have := r.len; omega)]; omega
  obtain ⟨t, t1, t2, t3⟩ := slt_first _ _ (((isLyn_iff _).1 a3).2 (k - a) (by omega) (by omega)) (by rw [List.length_drop]; omega)
  rw [List.length_drop, hl] at t1
  have hn := r.len
  refine ⟨t, by omega, fun u hu => ?_, ?_⟩
  · have := t2 u hu
    rw [at_drop, at_part _ _ _ _ (by omega), at_part _ _ _ _ (by omega), show a + (k - a + u) = k + u by omega] at this
    exact (flp_eq _ l _ _ (by omega) (by omega)).1 this
  · rw [at_drop, at_part _ _ _ _ (by omega), at_part _ _ _ _ (by omega), show a + (k - a + t) = k + t by omega] at t3
    exact t3
/-- runs of one period that share a root are one -/
theorem run_same {l : Str} {i j i' j' p a : Nat} (r : RunP l i j p) (r' : RunP l i' j' p) (h1 : i < a) (h2 : a + p ≤ j) (h1' : i' < a) (h2' : a + p ≤ j') : i = i' ∧ j = j' := by
  have key : ∀ {i j i' j' : Nat}, RunP l i j p → RunP l i' j' p → i < a → a + p ≤ j → i' < a → a + p ≤ j' → i' ≤ i ∧ j' ≤ j := by
    intro i j i' j' r r' h1 h2 h1' h2'
    constructor
    · apply Nat.le_of_not_lt
      intro hlt
      exact r'.left (by omega) (r.per (i' - 1) (by omega) (by omega))
    · apply Nat.le_of_not_lt
      intro hlt
      have hp := r.two
      have := r'.per (j - p) (by omega) (by omega)
      rw [show j - p + p = j by omega] at this
      exact r.right (by have := r'.len; omega) this
  have a1 := key r r' h1 h2 h1' h2'
  have a2 := key r' r h1' h2' h1 h2
  omega
theorem root_dir {l : Str} {i j p i' j' p' a : Nat} (r : RunP l i j p) (r' : RunP l i' j' p') (h : Root l i j p a) (h' : Root l i' j' p' a) (hd : dirB l j p = dirB l j' p') : ¬ p < p' := by
  intro hlt
  have hp := r.pos
  obtain ⟨t, t1, t2, t3⟩ := root_mis r' h' (a + p) (by omega) (by omega)
  have ha := h.1
  have hj := h.2.1
  have hn := r.len
  have hn' := r'.len
  have hj' := h'.2.1
  have hne := (Nat.ne_of_lt t3)
  have hne2 : at' l (a + t) ≠ at' l (a + p + t) := fun e => hne ((flp_eq _ l _ _ (by omega) (by omega)).2 e)
  have hge : j ≤ a + p + t := by
    apply Nat.le_of_not_lt
    intro h2
    exact hne2 (by rw [show a + p + t = a + t + p by omega]; exact r.per (a + t) (by omega) (by omega))
  have hjn : j < l.length := by omega
  by_cases he : a + p + t = j
  · have := dirB_lt r hjn
    rw [hd] at this
    rw [he, show a + t = j - p by omega] at t3
    omega
  · have := t2 (j - p - a) (by omega)
    rw [show a + (j - p - a) = j - p by omega, show a + p + (j - p - a) = j by omega] at this
    exact r.right hjn this
/-- each position belongs to one run -/
theorem root_unique {l : Str} {i j p i' j' p' a : Nat} (r : RunP l i j p) (r' : RunP l i' j' p') (h : Root l i j p a) (h' : Root l i' j' p' a) : i = i' ∧ j = j' ∧ p = p' := by
  have hp : p = p' := by
    by_cases hd : dirB l j p = dirB l j' p'
    · have := root_dir r r' h h' hd
      have := root_dir r' r h' h hd.symm
      omega
    · apply Classical.byContradiction
      intro hne
      have hn := r.len
      have hn' := r'.len
      have hp := r.pos
      have hp' := r'.pos
      have one : ∀ {i j p i' j' p' : Nat}, RunP l i j p → RunP l i' j' p' → Root l i j p a → Root l i' j' p' a → p = 1 → 2 ≤ p' → False := by
        intro i j p i' j' p' r r' h h' h1 h2
        subst h1
        obtain ⟨ha, hb, _⟩ := h
        obtain ⟨ha', hb', _⟩ := id h'
        have hn' := r'.len
        obtain ⟨t, t1, t2, t3⟩ := root_mis r' h' (a + p' - 1) (by omega) (by omega)
        have ht : t = 0 := by omega
        subst ht
        have e1 := r.per (a - 1) (by omega) (by omega)
        have e2 := r'.per (a - 1) (by omega) (by omega)
        rw [show a - 1 + 1 = a by omega] at e1
        rw [show a - 1 + p' = a + p' - 1 by omega] at e2
        have := (flp_eq (dirB l j' p') l (a + 0) (a + p' - 1 + 0) (by omega) (by omega)).2 (by rw [Nat.add_zero, Nat.add_zero, ← e1, e2])
        omega
      by_cases h1 : p = 1
      · exact one r r' h h' h1 (by omega)
      · by_cases h1' : p' = 1
        · exact one r' r h' h h1' (by omega)
        · have hb := h.2.1
          have hb' := h'.2.1
          obtain ⟨t, t1, t2, t3⟩ := root_mis r h (a + 1) (by omega) (by omega)
          obtain ⟨t', t1', t2', t3'⟩ := root_mis r' h' (a + 1) (by omega) (by omega)
          have q1 : at' l (a + t) ≠ at' l (a + 1 + t) := fun e => Nat.ne_of_lt t3 ((flp_eq _ l _ _ (by omega) (by omega)).2 e)
          have q2 : at' l (a + t') ≠ at' l (a + 1 + t') := fun e => Nat.ne_of_lt t3' ((flp_eq _ l _ _ (by omega) (by omega)).2 e)
          rcases Nat.lt_trichotomy t t' with hlt | rfl | hlt
          · exact q1 (t2' t hlt)
          · have := flp_lt _ _ hd l (a + t) (a + 1 + t) (by omega) (by omega) t3
            omega
          · exact q2 (t2 t' hlt)
  subst hp
  obtain ⟨a1, a2, _⟩ := h
  obtain ⟨b1, b2, _⟩ := h'
  obtain ⟨e1, e2⟩ := run_same r r' a1 a2 b1 b2
  exact ⟨e1, e2, rfl⟩

theorem pf_div {α : Type} (F : Nat → α) (p q o N : Nat) (hp : 1 ≤ p) (h : Pf F p N) (hq : q ∣ p) (hq1 : 1 ≤ q) (ho : o + p ≤ N) (hw : ∀ z, z < p → F (o + z) = F (o + z % q)) : Pf F q N := by
  have hmod := h.mod hp
  have key : ∀ y, y < N → F y = F (o + (y + (p - 1) * o) % q) := by
    intro y hy
    have hz : (y + (p - 1) * o) % p < p := Nat.mod_lt _ hp
    have e : (o + (y + (p - 1) * o) % p) % p = y % p := by
      rw [Nat.add_mod_mod, show o + (y + (p - 1) * o) = y + p * o by
        obtain ⟨p', rfl⟩ : ∃ p', p = p' + 1 := ⟨p - 1, by omega⟩
        rw [Nat.add_sub_cancel, Nat.add_mul]; omega, Nat.add_mul_mod_self_left]
    rw [hmod y hy, ← e, ← hmod (o + (y + (p - 1) * o) % p) (by omega), hw _ hz, Nat.mod_mod_of_dvd _ hq]
  intro y hy
  rw [key y (by omega), key (y + q) hy, show y + q + (p - 1) * o = y + (p - 1) * o + q by omega, Nat.add_mod_right]
theorem flat_const (w : Str) : ∀ (xs : List Str), (∀ x ∈ xs, x = w) → xs.flatten = rep w xs.length
  | [], _ => rfl
  | x :: xs, h => by
    rw [List.flatten_cons, flat_const w xs (fun y hy => h y (by simp [hy])), h x (by simp), List.length_cons, rep_front]
theorem rep_at (w : Str) (hw : 1 ≤ w.length) : ∀ (m z : Nat), z < m * w.length → at' (rep w m) z = at' w (z % w.length)
  | 0, z, h => by simp at h
  | m + 1, z, h => by
    rw [rep_front]
    by_cases hz : z < w.length
    · rw [Nat.mod_eq_of_lt hz]
      unfold at'
      rw [List.getD_eq_getElem?_getD, List.getElem?_append_left hz, ← List.getD_eq_getElem?_getD]
    · have := rep_at w hw m (z - w.length) (by rw [Nat.succ_mul] at h; omega)
      rw [Nat.mod_eq_sub_mod (by omega), ← this]
      unfold at'
      rw [List.getD_eq_getElem?_getD, List.getElem?_append_right (by omega), ← List.getD_eq_getElem?_getD]
/-- of the rotations of a run's word, one is a Lyndon word -/
theorem root_first {l : Str} {i j p : Nat} (r : RunP l i j p) : ∃ a, i < a ∧ a ≤ i + p ∧ Root l i j p a := by
  have hp := r.pos
  have h2 := r.two
  have hn := r.len
  generalize hb : dirB l j p = b
  have hfl := flp_length b l
  have hu0 : (part (flp b l) (i + 1) (i + 1 + p)).length = p := by rw [part_length _ _ _ (by omega)]; omega
  have hc := turn_lt (part (flp b l) (i + 1) (i + 1 + p)) (by omega)
  have hlow := low_turn (part (flp b l) (i + 1) (i + 1 + p)) (by omega)
  rw [hu0] at hc
  generalize turn (part (flp b l) (i + 1) (i + 1 + p)) = c at *
  have hfper : ∀ x, i ≤ x → x + p < j → at' (flp b l) x = at' (flp b l) (x + p) := fun x h1 h2 => (flp_eq b l _ _ (by omega) (by omega)).2 (r.per x h1 h2)
  have hrot : rot (part (flp b l) (i + 1) (i + 1 + p)) c = part (flp b l) (i + 1 + c) (i + 1 + c + p) := by
    by_cases hcz : c = 0
    · subst hcz; rw [rot_zero]
    · refine ext_at _ _ (by rw [rot_length, hu0, part_length _ _ _ (by omega)]; omega) fun x hx => ?_
      rw [rot_length, hu0] at hx
      have e1 : ∀ y, y < p → at' (part (flp b l) (i + 1) (i + 1 + p)) y = at' (flp b l) (i + 1 + y) := fun y hy => at_part _ _ _ _ (by omega)
      have e2 : at' (part (flp b l) (i + 1 + c) (i + 1 + c + p)) x = at' (flp b l) (i + 1 + c + x) := at_part _ _ _ _ (by omega)
      rw [at_rot _ _ _ (by omega) (by omega), hu0, e2]
      by_cases hcx : c + x < p
      · rw [if_pos hcx, e1 _ hcx, show i + 1 + (c + x) = i + 1 + c + x by omega]
      · rw [if_neg hcx, e1 _ (by omega), hfper (i + 1 + (c + x - p)) (by omega) (by omega), show i + 1 + (c + x - p) + p = i + 1 + c + x by omega]
  rw [hrot] at hlow
  refine ⟨i + 1 + c, by omega, by omega, by omega, by omega, ?_⟩
  rw [hb]
  have hul : (part (flp b l) (i + 1 + c) (i + 1 + c + p)).length = p := by
    by_cases hcz : c = 0
    · subst hcz; rw [Nat.add_zero]; exact hu0
    · rw [part_length _ _ _ (by omega)]; omega
  have hsame := low_same _ hlow (by omega)
  have hpos := lyn_pos (part (flp b l) (i + 1 + c) (i + 1 + c + p)) (by omega)
  have hflat := lyn_flat _ (part (flp b l) (i + 1 + c) (i + 1 + c + p)) (Nat.le_refl _)
  have hall := lyn_all _ (part (flp b l) (i + 1 + c) (i + 1 + c + p)) (Nat.le_refl _)
  generalize hu : part (flp b l) (i + 1 + c) (i + 1 + c + p) = u at *
  have h0 : (lyn u).getD 0 [] ∈ lyn u := by
    rw [List.getD_eq_getElem?_getD, List.getElem?_eq_getElem (by omega)]; simp
  have hw := hall _ h0
  have hcons : ∀ x ∈ lyn u, x = (lyn u).getD 0 [] := by
    intro x hx
    obtain ⟨k, hk, rfl⟩ := List.mem_iff_getElem.1 hx
    rw [← hsame k hk, List.getD_eq_getElem?_getD, List.getElem?_eq_getElem hk]; simp
  have hrep := flat_const _ _ hcons
  rw [hflat] at hrep
  have hwl := ((isLyn_iff _).1 hw.1).1
  generalize (lyn u).getD 0 [] = w at *
  by_cases hone : (lyn u).length = 1
  · have : u = w := by rw [hrep, hone]; rfl
    rw [this]; exact hw.1
  · exfalso
    have hlen := congrArg List.length hrep
    rw [hul, rep_length] at hlen
    have hwp : w.length < p := by
      have : 2 * w.length ≤ (lyn u).length * w.length := Nat.mul_le_mul_right _ (by omega)
      omega
    refine r.prim w.length hwl hwp ?_
    have hF : Pf (fun y => at' (flp b l) (i + y)) p (j - i) := fun y hy => by
      show at' (flp b l) (i + y) = at' (flp b l) (i + (y + p))
      rw [← Nat.add_assoc]; exact hfper _ (by omega) (by omega)
    have hat : ∀ z, z < p → at' (flp b l) (i + (1 + c + z)) = at' w (z % w.length) := by
      intro z hz
      rw [← rep_at w hwl (lyn u).length z (by omega), ← hrep, ← hu, at_part _ _ _ _ (by omega)]; congr 1
      omega
    have := pf_div (fun y => at' (flp b l) (i + y)) p w.length (1 + c) (j - i) hp hF ⟨(lyn u).length, by rw [hlen, Nat.mul_comm]⟩ hwl (by omega) (fun z hz => by
      show at' (flp b l) (i + (1 + c + z)) = at' (flp b l) (i + (1 + c + z % w.length))
      have hzw := Nat.mod_lt z (show w.length > 0 by omega)
      rw [hat z hz, hat (z % w.length) (by omega), Nat.mod_mod])
    intro x h1 h2
    have := this (x - i) (by omega)
    simp only at this
    rw [show i + (x - i) = x by omega, show i + (x - i + w.length) = x + w.length by omega] at this
    exact (flp_eq b l _ _ (by omega) (by omega)).1 this
theorem root_next {l : Str} {i j p a : Nat} (r : RunP l i j p) (h : Root l i j p a) (h2 : a + p + p ≤ j) : Root l i j p (a + p) := by
  obtain ⟨h1, h3, h4⟩ := h
  have hn := r.len
  have hfl := flp_length (dirB l j p) l
  refine ⟨by omega, h2, ?_⟩
  have : part (flp (dirB l j p) l) (a + p) (a + p + p) = part (flp (dirB l j p) l) a (a + p) := by
    refine ext_at _ _ (by rw [part_length _ _ _ (by omega), part_length _ _ _ (by omega)]; omega) fun x hx => ?_
    rw [part_length _ _ _ (by omega)] at hx
    rw [at_part _ _ _ _ (by omega), at_part _ _ _ _ (by omega), show a + p + x = a + x + p by omega]
    exact ((flp_eq _ l _ _ (by omega) (by omega)).2 (r.per (a + x) (by omega) (by omega))).symm
  rw [this]; exact h4

open Classical in
/-- the positions that a run owns -/
noncomputable def owned (l : Str) (r : Rn) : List Nat := (List.range l.length).filter fun a => decide (Root l r.1 r.2.1 r.2.2 a)
theorem mem_owned (l : Str) (r : Rn) (a : Nat) : a ∈ owned l r ↔ a < l.length ∧ Root l r.1 r.2.1 r.2.2 a := by
  unfold owned
  simp only [List.mem_filter, List.mem_range, decide_eq_true_eq]
theorem owned_many {l : Str} {r : Rn} (hr : r ∈ runs l) : (r.2.1 - r.1) / r.2.2 ≤ (owned l r).length + 1 := by
  have R := runP_of hr
  obtain ⟨i, j, p⟩ := r
  simp only at R ⊢
  obtain ⟨a, a1, a2, a3⟩ := root_first R
  have hp := R.pos
  have hroots : ∀ m, a + m * p + p ≤ j → Root l i j p (a + m * p) := by
    intro m
    induction m with
    | zero => intro _; rw [Nat.zero_mul, Nat.add_zero]; exact a3
    | succ m ih =>
      intro h
      have e : (m + 1) * p = m * p + p := Nat.succ_mul _ _
      have := root_next R (ih (by omega)) (by omega)
      rwa [Nat.add_assoc, ← e] at this
  have hdm := Nat.div_mul_le_self (j - i) p
  generalize (j - i) / p = E at *
  have : (List.range (E - 1)).length ≤ (owned l (i, j, p)).length := by
    refine length_le_inj (fun m => a + m * p) List.nodup_range (fun x _ y _ e => ?_) (fun m hm => ?_)
    · have e' : x * p = y * p := by have : a + x * p = a + y * p := e; omega
      exact Nat.eq_of_mul_eq_mul_right (by omega) e'
    · rw [List.mem_range] at hm
      have hle : (m + 2) * p ≤ E * p := Nat.mul_le_mul_right p (by omega)
      have e : (m + 2) * p = m * p + p + p := by rw [Nat.add_mul]; omega
      have hR := hroots m (by have := R.two; omega)
      rw [mem_owned]
      exact ⟨by have := hR.2.1; have := R.len; show a + m * p < l.length; omega, hR⟩
  rw [List.length_range] at this
  omega
theorem nodup_flat {α β : Type} (f : α → List β) : ∀ (xs : List α), xs.Nodup → (∀ x ∈ xs, (f x).Nodup) → (∀ x ∈ xs, ∀ y ∈ xs, ∀ b, b ∈ f x → b ∈ f y → x = y) → (xs.flatMap f).Nodup
  | [], _, _, _ => List.nodup_nil
  | x :: xs, h, hf, hd => by
    obtain ⟨h1, h2⟩ := List.nodup_cons.1 h
    rw [List.flatMap_cons, List.nodup_append]
    refine ⟨hf x (by simp), nodup_flat f xs h2 (fun y hy => hf y (by simp [hy])) (fun y hy z hz => hd y (by simp [hy]) z (by simp [hz])), fun a ha b hb e => ?_⟩
    subst e
    obtain ⟨y, hy, hay⟩ := List.mem_flatMap.1 hb
    have := hd x (by simp) y (by simp [hy]) a ha hay
    subst this
    exact h1 hy
theorem sum_le_map {α : Type} (f g : α → Nat) (xs : List α) (h : ∀ x ∈ xs, f x ≤ g x) : (xs.map f).sum ≤ (xs.map g).sum := by
  induction xs with
  | nil => exact Nat.le_refl _
  | cons a xs ih =>
    rw [List.map_cons, List.map_cons, List.sum_cons, List.sum_cons]
    have := ih (fun x hx => h x (by simp [hx]))
    have := h a (by simp)
    omega
theorem owned_sum (l : Str) (h1 : 1 ≤ l.length) : ((runs l).map fun r => (owned l r).length).sum ≤ l.length - 1 := by
  have hnd : ((runs l).flatMap (owned l)).Nodup := by
    refine nodup_flat _ _ (nodup_runs l) (fun r _ => List.Nodup.sublist List.filter_sublist List.nodup_range) (fun r hr r' hr' a ha ha' => ?_)
    have := root_unique (runP_of hr) (runP_of hr') ((mem_owned l r a).1 ha).2 ((mem_owned l r' a).1 ha').2
    obtain ⟨i, j, p⟩ := r
    obtain ⟨i', j', p'⟩ := r'
    simp only at this
    obtain ⟨rfl, rfl, rfl⟩ := this
    rfl
  have hle := length_le_of_sub (ys := (List.range l.length).erase 0) hnd (fun a ha => by
    obtain ⟨r, hr, har⟩ := List.mem_flatMap.1 ha
    obtain ⟨h2, h3, _⟩ := (mem_owned l r a).1 har
    rw [List.mem_erase_of_ne (by omega)]
    exact List.mem_range.2 h2)
  rw [List.length_erase_of_mem (List.mem_range.2 (by omega)), List.length_range, List.length_flatMap] at hle
  exact hle
/-- F4 as the statement asks it -/
theorem few_runs (l : Str) (h1 : 1 ≤ l.length) : (runs l).length < l.length ∧ ((runs l).map fun r => 1000 * (r.2.1 - r.1) / r.2.2).sum < 3000 * l.length := by
  have hs := owned_sum l h1
  have hone : ∀ r ∈ runs l, 1 ≤ (owned l r).length := by
    intro r hr
    have R := runP_of hr
    have := owned_many hr
    have h2 : 2 ≤ (r.2.1 - r.1) / r.2.2 := by
      rw [Nat.le_div_iff_mul_le R.pos]
      have := R.two
      omega
    omega
  have hlen : (runs l).length ≤ ((runs l).map fun r => (owned l r).length).sum := by
    have := sum_le_map (fun _ => 1) (fun r => (owned l r).length) (runs l) hone
    have e : ∀ rs : List Rn, (rs.map fun _ => 1).sum = rs.length := by
      intro rs
      induction rs with
      | nil => rfl
      | cons a rs ih => rw [List.map_cons, List.sum_cons, ih, List.length_cons]; omega
    rwa [e] at this
  refine ⟨by omega, ?_⟩
  have := sum_le_map (fun r : Rn => 1000 * (r.2.1 - r.1) / r.2.2) (fun r => 3000 * (owned l r).length) (runs l) fun r hr => by
    have a := owned_many hr
    have b := hone r hr
    have R := runP_of hr
    have hp := R.pos
    have hlt := Nat.lt_mul_div_succ (r.2.1 - r.1) (show 0 < r.2.2 by omega)
    have hle : 1000 * (r.2.1 - r.1) / r.2.2 < 1000 * ((r.2.1 - r.1) / r.2.2 + 1) := by
      rw [Nat.div_lt_iff_lt_mul (by omega), Nat.mul_assoc]
      refine Nat.mul_lt_mul_of_pos_left ?_ (by omega)
      rw [Nat.mul_comm]; exact hlt
    show 1000 * (r.2.1 - r.1) / r.2.2 ≤ 3000 * (owned l r).length
    generalize (r.2.1 - r.1) / r.2.2 = E at *
    omega
  have h3 : ((runs l).map fun r => 3000 * (owned l r).length).sum = 3000 * ((runs l).map fun r => (owned l r).length).sum := by
    generalize runs l = rs
    induction rs with
    | nil => rfl
    | cons a rs ih => rw [List.map_cons, List.map_cons, List.sum_cons, List.sum_cons, ih, Nat.mul_add]
  omega
end Go.Proofs.YtpoekblolicehaaDoor
