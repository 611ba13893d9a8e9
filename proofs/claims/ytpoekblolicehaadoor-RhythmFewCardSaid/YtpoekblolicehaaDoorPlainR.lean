/-
  Plain: there are fewer different squares than letters (F5): after Brlek and Li, the squares are counted by the short circuits of the graphs of the parts.
-/
import Derived.Test.YtpoekblolicehaaDoorPlainQ
namespace Go.Proofs.YtpoekblolicehaaDoor

/-- m letters of the word v, written again and again, from the position s on -/
def ext (v : Str) (s m : Nat) : Str := (List.range m).map fun x => v.getD ((s + x) % v.length) 0
theorem ext_length (v : Str) (s m : Nat) : (ext v s m).length = m := by simp [ext]
theorem at_ext (v : Str) (s m x : Nat) (h : x < m) : at' (ext v s m) x = at' v ((s + x) % v.length) := by
  unfold at' ext
  rw [List.getD_eq_getElem?_getD, List.getElem?_map, List.getElem?_range h]
  rfl
theorem ext_ext (v : Str) (s s' m : Nat) (h : s % v.length = s' % v.length) : ext v s m = ext v s' m := by
  unfold ext
  refine List.map_congr_left fun x _ => ?_
  rw [Nat.add_mod, h, ← Nat.add_mod]
theorem ext_take (v : Str) (s m k : Nat) (h : k ≤ m) : (ext v s m).take k = ext v s k := by
  refine ext_at _ _ (by rw [List.length_take, ext_length, ext_length]; omega) fun x hx => ?_
  rw [List.length_take, ext_length] at hx
  rw [at_take _ _ _ (by omega), at_ext _ _ _ _ (by omega), at_ext _ _ _ _ (by omega)]
theorem ext_drop (v : Str) (s m d : Nat) (h : d ≤ m) : (ext v s m).drop d = ext v (s + d) (m - d) := by
  refine ext_at _ _ (by rw [List.length_drop, ext_length, ext_length]) fun x hx => ?_
  rw [List.length_drop, ext_length] at hx
  rw [at_drop, at_ext _ _ _ _ (by omega), at_ext _ _ _ _ (by omega), Nat.add_assoc]
theorem ext_self (v : Str) : ext v 0 v.length = v := by
  refine ext_at _ _ (ext_length _ _ _) fun x hx => ?_
  rw [ext_length] at hx
  rw [at_ext _ _ _ _ hx, Nat.zero_add, Nat.mod_eq_of_lt hx]

/-- y is a part of l -/
def Fac (l y : Str) : Prop := ∃ i, i + y.length ≤ l.length ∧ y = part l i (i + y.length)
theorem fac_sub {l y : Str} (h : Fac l y) (d m : Nat) (hm : d + m ≤ y.length) : Fac l ((y.drop d).take m) := by
  obtain ⟨i, h1, h2⟩ := h
  have hl : ((y.drop d).take m).length = m := by rw [List.length_take, List.length_drop]; omega
  refine ⟨i + d, by omega, ?_⟩
  rw [hl]
  conv => lhs; rw [h2]
  unfold part
  rw [List.drop_take, List.take_take, List.drop_drop]
  congr 1
  omega
/-- the different parts of m letters -/
def fac (l : Str) (m : Nat) : List Str := dif (allP l m (l.length + 1 - m))
theorem mem_fac (l : Str) (m : Nat) (y : Str) (hm : m ≤ l.length) : y ∈ fac l m ↔ y.length = m ∧ Fac l y := by
  unfold fac
  rw [mem_dif, mem_allP]
  constructor
  · rintro ⟨i, hi, rfl⟩
    have hl : (part l i (i + m)).length = m := by rw [part_length _ _ _ (by omega)]; omega
    exact ⟨hl, i, by omega, by rw [hl]⟩
  · rintro ⟨hl, i, h1, h2⟩
    rw [hl] at h1 h2
    exact ⟨i, by omega, h2⟩

theorem lyn_free {v : Str} (h : isLyn v = true) (q : Nat) (q1 : 1 ≤ q) (q2 : q < v.length) : ¬ Per v 0 v.length q := by
  intro hp
  obtain ⟨t, t1, _, t3⟩ := slt_first _ _ (((isLyn_iff v).1 h).2 q q1 q2) (by rw [List.length_drop]; omega)
  rw [List.length_drop] at t1
  rw [at_drop, Nat.add_comm] at t3
  have := hp t (by omega) (by omega)
  omega
theorem lyn_turned {v : Str} (h : isLyn v = true) (s : Nat) (s1 : 1 ≤ s) (s2 : s < v.length) : isLyn (ext v s v.length) = false := by
  cases hr : isLyn (ext v s v.length) with
  | false => rfl
  | true =>
    exfalso
    obtain ⟨t, t1, t2, t3⟩ := slt_first _ _ (((isLyn_iff v).1 h).2 s s1 s2) (by rw [List.length_drop]; omega)
    rw [List.length_drop] at t1
    obtain ⟨t', t1', t2', t3'⟩ := slt_first _ _ (((isLyn_iff _).1 hr).2 (v.length - s) (by omega) (by rw [ext_length]; omega)) (by rw [List.length_drop]; omega)
    rw [List.length_drop, ext_length] at t1'
    have e1 : ∀ u, u < v.length - s → at' (ext v s v.length) u = at' v (s + u) := fun u hu => by
      rw [at_ext _ _ _ _ (by omega), Nat.mod_eq_of_lt (by omega)]
    have e2 : ∀ u, u < s → at' (ext v s v.length) (v.length - s + u) = at' v u := fun u hu => by
      rw [at_ext _ _ _ _ (by omega), show s + (v.length - s + u) = u + v.length by omega, Nat.add_mod_right, Nat.mod_eq_of_lt (by omega)]
    rw [at_drop] at t3 t3'
    rw [← e1 t (by omega)] at t3
    rw [e2 t' (by omega)] at t3'
    have f1 : ∀ u, u < t → at' v u = at' (ext v s v.length) u := fun u hu => by
      have := t2 u hu
      rw [at_drop, ← e1 u (by omega)] at this
      exact this
    have f2 : ∀ u, u < t' → at' (ext v s v.length) u = at' v u := fun u hu => by
      have := t2' u hu
      rw [at_drop, e2 u (by omega)] at this
      exact this
    rcases Nat.lt_trichotomy t t' with hlt | rfl | hlt
    · have := f2 t hlt; omega
    · omega
    · have := f1 t' hlt; omega

/-- the word v makes a circuit among the parts of k letters -/
def Circ (l : Str) (k : Nat) (v : Str) : Prop := isLyn v = true ∧ v.length ≤ k ∧ ∀ s, s < v.length → Fac l (ext v s (k + 1))
theorem ext_per (v : Str) (s m : Nat) (q : Nat) (hq : q = v.length) : ∀ x, x + q < m → at' (ext v s m) x = at' (ext v s m) (x + q) := by
  intro x hx
  subst hq
  rw [at_ext _ _ _ _ (by omega), at_ext _ _ _ _ hx, ← Nat.add_assoc, Nat.add_mod_right]
/-- one of two words that write the same is not shorter -/
theorem ext_short {v u : Str} (hu : isLyn u = true) (hv1 : 1 ≤ v.length) (s m : Nat) (hm : u.length ≤ m) (he : ext v s m = ext u 0 m) : u.length ≤ v.length := by
  apply Nat.le_of_not_lt
  intro hlt
  refine lyn_free hu v.length hv1 hlt fun x _ hx => ?_
  have e : ∀ y, y < u.length → at' u y = at' (ext v s m) y := fun y hy => by
    rw [he, at_ext _ _ _ _ (by omega), Nat.zero_add, Nat.mod_eq_of_lt hy]
  rw [e x (by omega), e (x + v.length) hx]
  exact ext_per v s m _ rfl x (by omega)
theorem circ_same {l : Str} {k : Nat} {v u : Str} (hv : Circ l k v) (hu : Circ l k u) (he : ext v 0 (k + 1) = ext u 0 (k + 1)) : v = u := by
  have h1 := ((isLyn_iff v).1 hv.1).1
  have h2 := ((isLyn_iff u).1 hu.1).1
  have a := ext_short hu.1 h1 0 (k + 1) (by have := hu.2.1; omega) he
  have b := ext_short hv.1 h2 0 (k + 1) (by have := hv.2.1; omega) he.symm
  have hl : v.length = u.length := by omega
  have : (ext v 0 (k + 1)).take v.length = (ext u 0 (k + 1)).take v.length := congrArg (fun z : Str => z.take v.length) he
  rw [ext_take _ _ _ _ (by have := hv.2.1; omega), ext_take _ _ _ _ (by have := hv.2.1; omega), ext_self] at this
  rw [hl, ext_self] at this
  exact this

/-- components: labels along edges -/
theorem labels {α : Type} [DecidableEq α] (vs : List α) (hv : vs.Nodup) : ∀ es : List (α × α), ∃ (c : α → α) (R : List α), (∀ e ∈ es, c e.1 = c e.2) ∧ R.Nodup ∧ (∀ r ∈ R, r ∈ vs ∧ c r = r) ∧ vs.length ≤ R.length + es.length
  | [] => ⟨id, vs, fun e h => (by cases h), hv, fun r h => ⟨h, rfl⟩, by simp⟩
  | (u, v) :: es => by
    obtain ⟨c, R, h1, h2, h3, h4⟩ := labels vs hv es
    by_cases he : c u = c v
    · refine ⟨c, R, fun e hm => ?_, h2, h3, by simp; omega⟩
      rcases List.mem_cons.1 hm with rfl | hm
      · exact he
      · exact h1 e hm
    · refine ⟨fun x => if c x = c u then c v else c x, R.erase (c u), fun e hm => ?_, h2.erase _, fun r hr => ?_, ?_⟩
      · rcases List.mem_cons.1 hm with rfl | hm
        · show (if c u = c u then c v else c u) = if c v = c u then c v else c v
          rw [if_pos rfl]; split <;> rfl
        · show (if c e.1 = c u then c v else c e.1) = if c e.2 = c u then c v else c e.2
          rw [h1 e hm]
      · obtain ⟨hne, hr⟩ := (List.Nodup.mem_erase_iff h2).1 hr
        obtain ⟨a, b⟩ := h3 r hr
        refine ⟨a, ?_⟩
        show (if c r = c u then c v else c r) = r
        rw [b, if_neg hne]
      · have : R.length ≤ (R.erase (c u)).length + 1 := by
          rw [List.length_erase]; split <;> omega
        simp; omega
theorem filter_parts {α : Type} (p : α → Bool) (xs : List α) : (xs.filter p).length + (xs.filter fun x => !p x).length = xs.length := by
  induction xs with
  | nil => rfl
  | cons a xs ih => cases h : p a <;> simp [h] <;> omega

open Classical in
/-- the first parts of the circuits -/
noncomputable def circs (l : Str) (k : Nat) : List Str := (fac l (k + 1)).filter fun e => decide (∃ v, Circ l k v ∧ e = ext v 0 (k + 1))
open Classical in
/-- the circuits are no more than the graph of the parts has independent ones -/
theorem circs_le (l : Str) (k : Nat) (hk1 : 1 ≤ k) (hk : k + 1 ≤ l.length) : (circs l k).length + (fac l k).length ≤ (fac l (k + 1)).length + 1 := by
  have hparts := filter_parts (fun e => decide (∃ v, Circ l k v ∧ e = ext v 0 (k + 1))) (fac l (k + 1))
  obtain ⟨c, R, h1, h2, h3, h4⟩ := labels (fac l k) (nodup_dif _) (((fac l (k + 1)).filter fun e => !decide (∃ v, Circ l k v ∧ e = ext v 0 (k + 1))).map fun e => (e.take k, e.drop 1))
  rw [List.length_map] at h4
  have hedge : ∀ e, e.length = k + 1 → Fac l e → (¬ ∃ v, Circ l k v ∧ e = ext v 0 (k + 1)) → c (e.take k) = c (e.drop 1) := by
    intro e he hf hn
    refine h1 (e.take k, e.drop 1) (List.mem_map.2 ⟨e, List.mem_filter.2 ⟨(mem_fac l (k + 1) e hk).2 ⟨he, hf⟩, ?_⟩, rfl⟩)
    simpa using hn
  have hcirc : ∀ (N : Nat) (v : Str), v.length ≤ N → Circ l k v → c (ext v 0 k) = c (ext v 1 k) := by
    intro N
    induction N with
    | zero =>
      intro v hv hc
      have := ((isLyn_iff v).1 hc.1).1
      omega
    | succ N ih =>
      intro v hv hc
      have hv1 := ((isLyn_iff v).1 hc.1).1
      have hstep : ∀ s, 1 ≤ s → s < v.length → c (ext v s k) = c (ext v (s + 1) k) := by
        intro s s1 s2
        have ht : (ext v s (k + 1)).take k = ext v s k := ext_take _ _ _ _ (by omega)
        have hd : (ext v s (k + 1)).drop 1 = ext v (s + 1) k := ext_drop _ _ _ _ (by omega)
        by_cases hex : ∃ u, Circ l k u ∧ ext v s (k + 1) = ext u 0 (k + 1)
        · obtain ⟨u, hu, heq⟩ := hex
          have hle := ext_short hu.1 hv1 s (k + 1) (by have := hu.2.1; omega) heq
          have hne : u.length ≠ v.length := by
            intro e
            have : (ext v s (k + 1)).take v.length = (ext u 0 (k + 1)).take v.length := congrArg (fun z : Str => z.take v.length) heq
            rw [ext_take _ _ _ _ (by have := hc.2.1; omega), ext_take _ _ _ _ (by have := hc.2.1; omega), ← e, ext_self, e] at this
            have h1 := lyn_turned hc.1 s s1 s2
            rw [this, hu.1] at h1
            cases h1
          have := ih u (by omega) hu
          rw [← ht, ← hd, heq, ext_take _ _ _ _ (by omega), ext_drop _ _ _ _ (by omega)]
          exact this
        · rw [← ht, ← hd]
          exact hedge _ (ext_length _ _ _) (hc.2.2 s s2) hex
      have hall : ∀ s, 1 ≤ s → s ≤ v.length → c (ext v 1 k) = c (ext v s k) := by
        intro s
        induction s with
        | zero => intro h; omega
        | succ s ih =>
          intro _ h
          by_cases hs : s = 0
          · subst hs; rfl
          · rw [ih (by omega) (by omega)]
            exact hstep s (by omega) (by omega)
      rw [hall v.length hv1 (Nat.le_refl _)]
      congr 1
      exact ext_ext _ _ _ _ (by rw [Nat.mod_self, Nat.zero_mod])
  have hany : ∀ e, e.length = k + 1 → Fac l e → c (e.take k) = c (e.drop 1) := by
    intro e he hf
    by_cases hex : ∃ v, Circ l k v ∧ e = ext v 0 (k + 1)
    · obtain ⟨v, hv, rfl⟩ := hex
      rw [ext_take _ _ _ _ (by omega), ext_drop _ _ _ _ (by omega)]
      exact hcirc _ v (Nat.le_refl _) hv
    · exact hedge e he hf hex
  have hpart : ∀ i, i + k ≤ l.length → c (part l i (i + k)) = c (part l 0 k) := by
    intro i
    induction i with
    | zero => intro _; rw [Nat.zero_add]
    | succ i ih =>
      intro h
      rw [← ih (by omega)]
      have hl : (part l i (i + (k + 1))).length = k + 1 := by rw [part_length _ _ _ (by omega)]; omega
      have := hany (part l i (i + (k + 1))) hl ⟨i, by omega, by rw [hl]⟩
      have e1 : (part l i (i + (k + 1))).take k = part l i (i + k) := by
        unfold part
        rw [List.take_take]; congr 1; omega
      have e2 : (part l i (i + (k + 1))).drop 1 = part l (i + 1) (i + 1 + k) := by
        unfold part
        rw [List.drop_take, List.drop_drop]; congr 1; omega
      rw [e1, e2] at this
      exact this.symm
  have hR : R.length ≤ 1 := by
    refine length_le_of_sub (ys := [c (part l 0 k)]) h2 fun r hr => ?_
    obtain ⟨a, b⟩ := h3 r hr
    obtain ⟨hl, i, h5, h6⟩ := (mem_fac l k r (by omega)).1 a
    rw [hl] at h5 h6
    rw [List.mem_singleton, ← b, h6]
    exact hpart i h5
  unfold circs
  omega

open Classical in
/-- the turns of v, 2j times written, that are parts, among the first x -/
noncomputable def there (l v : Str) (m x : Nat) : List Nat := (List.range x).filter fun s => decide (Fac l (ext v s m))
theorem mem_there (l v : Str) (m x s : Nat) : s ∈ there l v m x ↔ s < x ∧ Fac l (ext v s m) := by
  unfold there
  simp only [List.mem_filter, List.mem_range, decide_eq_true_eq]
theorem there_succ (l v : Str) (m x : Nat) (h : Fac l (ext v x m)) : (there l v m (x + 1)).length = (there l v m x).length + 1 := by
  unfold there
  rw [List.range_succ, List.filter_append, List.length_append]
  simp [h]
theorem there_mono (l v : Str) (m x y : Nat) (h : x ≤ y) : (there l v m x).length ≤ (there l v m y).length := by
  obtain ⟨d, rfl⟩ := Nat.le.dest h
  clear h
  induction d with
  | zero => exact Nat.le_refl _
  | succ d ih =>
    refine Nat.le_trans ih ?_
    unfold there
    rw [← Nat.add_assoc, List.range_succ, List.filter_append, List.length_append]
    omega
theorem there_le (l v : Str) (m x : Nat) : (there l v m x).length ≤ x := by
  unfold there
  exact Nat.le_trans (List.length_filter_le _ _) (by simp)
/-- a square shows a circuit -/
theorem sq_circ {l v : Str} {j x : Nat} (hv : isLyn v = true) (hj : 1 ≤ j) (hx : x < v.length) (h : Fac l (ext v x (2 * j * v.length))) :
    Circ l ((2 * j - 1) * v.length + (there l v (2 * j * v.length) x).length) v := by
  have hr := there_le l v (2 * j * v.length) x
  have hts := there_succ l v (2 * j * v.length) x h
  have hmem := mem_there l v (2 * j * v.length) (x + 1)
  have hnd : (there l v (2 * j * v.length) (x + 1)).Nodup := by unfold there; exact List.Nodup.sublist List.filter_sublist List.nodup_range
  have e2 : 2 * j * v.length = (2 * j - 1) * v.length + v.length := by
    rw [← Nat.succ_mul]; congr 1; omega
  have e3 : v.length ≤ (2 * j - 1) * v.length := Nat.le_mul_of_pos_left _ (by omega)
  generalize (there l v (2 * j * v.length) x).length = r at *
  refine ⟨hv, by omega, fun s hs => ?_⟩
  apply Classical.byContradiction
  intro hno
  have hbad : ∀ y ∈ there l v (2 * j * v.length) (x + 1), v.length - r ≤ (s + v.length - y) % v.length := by
    intro y hy
    obtain ⟨y1, y2⟩ := (hmem y).1 hy
    apply Nat.le_of_not_lt
    intro hlt
    apply hno
    have := fac_sub y2 ((s + v.length - y) % v.length) ((2 * j - 1) * v.length + r + 1) (by rw [ext_length]; omega)
    rw [ext_drop _ _ _ _ (by omega), ext_take _ _ _ _ (by omega)] at this
    rw [ext_ext v s (y + (s + v.length - y) % v.length)]
    · exact this
    · rw [Nat.add_mod_mod, show y + (s + v.length - y) = s + v.length by omega, Nat.add_mod_right]
  have hle := length_le_inj (fun y => (s + v.length - y) % v.length - (v.length - r)) (ys := List.range r) hnd (fun y hy z hz e => ?_) (fun y hy => ?_)
  · rw [hts, List.length_range] at hle
    omega
  · have h1 := hbad y hy
    have h2 := hbad z hz
    have hy1 := ((hmem y).1 hy).1
    have hz1 := ((hmem z).1 hz).1
    have e : (s + v.length - y) % v.length = (s + v.length - z) % v.length := by
      have e : (s + v.length - y) % v.length - (v.length - r) = (s + v.length - z) % v.length - (v.length - r) := e
      omega
    have m : ∀ w, w ≤ x → (s + v.length - w) % v.length = if w ≤ s then s - w else s + v.length - w := by
      intro w hw
      split
      · rw [show s + v.length - w = s - w + v.length by omega, Nat.add_mod_right, Nat.mod_eq_of_lt (by omega)]
      · exact Nat.mod_eq_of_lt (by omega)
    rw [m y (by omega), m z (by omega)] at e
    split at e <;> split at e <;> omega
  · have h1 := hbad y hy
    have := Nat.mod_lt (s + v.length - y) (show v.length > 0 by omega)
    rw [List.mem_range]
    show (s + v.length - y) % v.length - (v.length - r) < r
    omega

/-- a square is some Lyndon word, written an even number of times from some position on -/
theorem sq_form {l y : Str} (hy : y ∈ sqTo l l.length) : ∃ (v : Str) (j x : Nat), isLyn v = true ∧ 1 ≤ j ∧ x < v.length ∧ y = ext v x (2 * j * v.length) ∧ Fac l y ∧ y.length ≤ l.length := by
  obtain ⟨h, i, h1, h2, h3, h4, rfl⟩ := (mem_sqTo l _ y).1 hy
  unfold isSq at h4
  rw [beq_iff_eq] at h4
  have hul : (part l i (i + h)).length = h := by rw [part_length _ _ _ (by omega)]; omega
  have hyl : (part l i (i + 2 * h)).length = 2 * h := by rw [part_length _ _ _ (by omega)]; omega
  have hya : ∀ z, z < 2 * h → at' (part l i (i + 2 * h)) z = at' (part l i (i + h)) (z % h) := by
    intro z hz
    by_cases hzh : z < h
    · rw [Nat.mod_eq_of_lt hzh, at_part _ _ _ _ (by omega), at_part _ _ _ _ (by omega)]
    · rw [Nat.mod_eq_sub_mod (by omega), Nat.mod_eq_of_lt (by omega), h4, at_part _ _ _ _ (by omega), at_part _ _ _ _ (by omega)]
      congr 1; omega
  have hc := turn_lt (part l i (i + h)) (by omega)
  have hlow := low_turn (part l i (i + h)) (by omega)
  have hrl := rot_length (part l i (i + h)) (turn (part l i (i + h)))
  rw [hul] at hc hrl
  have hra : ∀ z, z < h → at' (rot (part l i (i + h)) (turn (part l i (i + h)))) z = at' (part l i (i + h)) ((turn (part l i (i + h)) + z) % h) := by
    intro z hz
    rw [at_rot _ _ _ (by omega) (by omega), hul]
    split
    · rw [Nat.mod_eq_of_lt (by omega)]
    · rw [Nat.mod_eq_sub_mod (by omega), Nat.mod_eq_of_lt (by omega)]
  generalize turn (part l i (i + h)) = c at *
  generalize rot (part l i (i + h)) c = w at *
  have hsame := low_same _ hlow (by omega)
  have hpos := lyn_pos w (by omega)
  have hflat := lyn_flat _ w (Nat.le_refl _)
  have hall := lyn_all _ w (Nat.le_refl _)
  have h0 : (lyn w).getD 0 [] ∈ lyn w := by
    rw [List.getD_eq_getElem?_getD, List.getElem?_eq_getElem (by omega)]; simp
  have hw := hall _ h0
  have hcons : ∀ x ∈ lyn w, x = (lyn w).getD 0 [] := by
    intro x hx
    obtain ⟨k, hk, rfl⟩ := List.mem_iff_getElem.1 hx
    rw [← hsame k hk, List.getD_eq_getElem?_getD, List.getElem?_eq_getElem hk]; simp
  have hrep := flat_const _ _ hcons
  rw [hflat] at hrep
  have hvl := ((isLyn_iff _).1 hw.1).1
  generalize (lyn w).getD 0 [] = v at *
  generalize (lyn w).length = j at *
  have hlen := congrArg List.length hrep
  rw [hrl, rep_length] at hlen
  refine ⟨v, j, (h - c) % v.length, hw.1, hpos, Nat.mod_lt _ (by omega), ?_, ⟨i, by rw [hyl]; exact h3, by rw [hyl]⟩, by rw [hyl]; omega⟩
  refine ext_at _ _ (by rw [hyl, ext_length, Nat.mul_assoc, ← hlen]) fun z hz => ?_
  rw [hyl] at hz
  rw [hya z hz, at_ext _ _ _ _ (by rw [Nat.mul_assoc, ← hlen]; exact hz), Nat.mod_add_mod]
  have hzm := Nat.mod_lt (z + (h - c)) (show h > 0 by omega)
  have e1 : (c + (z + (h - c)) % h) % h = z % h := by
    rw [Nat.add_mod_mod, show c + (z + (h - c)) = z + h by omega, Nat.add_mod_right]
  rw [← e1, ← hra _ hzm, hrep, rep_at v hvl j _ (by omega)]
  congr 1
  rw [Nat.mod_mod_of_dvd _ ⟨j, by rw [hlen, Nat.mul_comm]⟩, Nat.add_comm]

open Classical in
/-- F5 as the statement asks it -/
theorem few_squares (l : Str) (h1 : 1 ≤ l.length) : squares l < l.length := by
  have hsum : ∀ m, m + 1 ≤ l.length → ((List.range m).map fun k => (circs l (k + 1)).length).sum + (fac l 1).length ≤ (fac l (m + 1)).length + m := by
    intro m
    induction m with
    | zero => intro _; simp
    | succ m ih =>
      intro h
      have := ih (by omega)
      have := circs_le l (m + 1) (by omega) (by omega)
      rw [List.range_succ, List.map_append, List.sum_append]
      simp only [List.map_cons, List.map_nil, List.sum_cons, List.sum_nil]
      omega
  have hs := hsum (l.length - 1) (by omega)
  rw [show l.length - 1 + 1 = l.length by omega] at hs
  have hn : (fac l l.length).length ≤ 1 := by
    unfold fac
    refine Nat.le_trans (dif_le _) ?_
    rw [allP_length]; omega
  have hone : 1 ≤ (fac l 1).length := by
    have : part l 0 1 ∈ fac l 1 := by
      have hl : (part l 0 1).length = 1 := part_length l 0 1 h1
      exact (mem_fac l 1 _ h1).2 ⟨hl, 0, by omega, by rw [hl]⟩
    exact List.length_pos_of_mem this
  have hchoose : ∀ y : Str, ∃ t : Str × Nat × Nat, y ∈ sqTo l l.length → isLyn t.1 = true ∧ 1 ≤ t.2.1 ∧ t.2.2 < t.1.length ∧ y = ext t.1 t.2.2 (2 * t.2.1 * t.1.length) ∧ Fac l y ∧ y.length ≤ l.length := by
    intro y
    by_cases hy : y ∈ sqTo l l.length
    · obtain ⟨v, j, x, h⟩ := sq_form hy
      exact ⟨(v, j, x), fun _ => h⟩
    · exact ⟨([], 0, 0), fun h => absurd h hy⟩
  obtain ⟨f, hf⟩ := Classical.axiomOfChoice hchoose
  have hT : squares l ≤ ((List.range (l.length - 1)).flatMap fun k => (circs l (k + 1)).map fun e => (k + 1, e)).length := by
    unfold squares
    refine length_le_inj (fun y => (((2 * (f y).2.1 - 1) * (f y).1.length + (there l (f y).1 (2 * (f y).2.1 * (f y).1.length) (f y).2.2).length, ext (f y).1 0 ((2 * (f y).2.1 - 1) * (f y).1.length + (there l (f y).1 (2 * (f y).2.1 * (f y).1.length) (f y).2.2).length + 1)) : Nat × Str)) (nodup_dif _) (fun y hy z hz e => ?_) (fun y hy => ?_)
    · obtain ⟨a1, a2, a3, a4, a5, a6⟩ := hf y ((mem_dif _ y).1 hy)
      obtain ⟨b1, b2, b3, b4, b5, b6⟩ := hf z ((mem_dif _ z).1 hz)
      generalize f y = t at *
      generalize f z = t' at *
      obtain ⟨v, j, x⟩ := t
      obtain ⟨v', j', x'⟩ := t'
      simp only [Prod.mk.injEq] at *
      have ca := sq_circ a1 a2 a3 (by rw [← a4]; exact a5)
      have cb := sq_circ b1 b2 b3 (by rw [← b4]; exact b5)
      obtain ⟨e1, e2⟩ := e
      rw [← e1] at cb e2
      have hvv := circ_same ca cb e2
      subst hvv
      have r1 := there_le l v (2 * j * v.length) x
      have r2 := there_le l v (2 * j' * v.length) x'
      have hjj : j = j' := by
        have key : ∀ a b r s : Nat, r < v.length → s < v.length → a * v.length + r = b * v.length + s → ¬ a < b := by
          intro a b r s hr hs he hab
          have : (a + 1) * v.length ≤ b * v.length := Nat.mul_le_mul_right _ hab
          rw [Nat.succ_mul] at this
          omega
        have k1 := key _ _ _ _ (by omega) (by omega) e1
        have k2 := key _ _ _ _ (by omega) (by omega) e1.symm
        omega
      subst hjj
      have hxx : x = x' := by
        have key : ∀ a b : Nat, Fac l (ext v a (2 * j * v.length)) → (there l v (2 * j * v.length) a).length = (there l v (2 * j * v.length) b).length → ¬ a < b := by
          intro a b ha he hab
          have := there_mono l v (2 * j * v.length) (a + 1) b hab
          rw [there_succ l v _ a ha] at this
          omega
        have e3 : (there l v (2 * j * v.length) x).length = (there l v (2 * j * v.length) x').length := by omega
        have k1 := key x x' (by rw [← a4]; exact a5) e3
        have k2 := key x' x (by rw [← b4]; exact b5) e3.symm
        omega
      subst hxx
      rw [a4, b4]
    · obtain ⟨a1, a2, a3, a4, a5, a6⟩ := hf y ((mem_dif _ y).1 hy)
      generalize f y = t at *
      obtain ⟨v, j, x⟩ := t
      simp only at *
      have ca := sq_circ a1 a2 a3 (by rw [← a4]; exact a5)
      have r1 := there_le l v (2 * j * v.length) x
      have hyl : y.length = 2 * j * v.length := by rw [a4, ext_length]
      have e2 : 2 * j * v.length = (2 * j - 1) * v.length + v.length := by
        rw [← Nat.succ_mul]; congr 1; omega
      have e3 : v.length ≤ (2 * j - 1) * v.length := Nat.le_mul_of_pos_left _ (by omega)
      have hk : (2 * j - 1) * v.length + (there l v (2 * j * v.length) x).length + 1 ≤ l.length := by omega
      have hk1 : 1 ≤ (2 * j - 1) * v.length + (there l v (2 * j * v.length) x).length := by omega
      generalize (2 * j - 1) * v.length + (there l v (2 * j * v.length) x).length = k at *
      rw [List.mem_flatMap]
      refine ⟨k - 1, List.mem_range.2 (by omega), List.mem_map.2 ⟨ext v 0 (k + 1), ?_, by rw [show k - 1 + 1 = k by omega]⟩⟩
      rw [show k - 1 + 1 = k by omega]
      unfold circs
      refine List.mem_filter.2 ⟨(mem_fac l (k + 1) _ hk).2 ⟨ext_length _ _ _, ca.2.2 0 (by omega)⟩, ?_⟩
      exact decide_eq_true ⟨v, ca, rfl⟩
  have hlen : ((List.range (l.length - 1)).flatMap fun k => (circs l (k + 1)).map fun e => (k + 1, e)).length = ((List.range (l.length - 1)).map fun k => (circs l (k + 1)).length).sum := by
    rw [List.length_flatMap]
    congr 1
    refine List.map_congr_left fun k _ => ?_
    rw [List.length_map]
  omega
end Go.Proofs.YtpoekblolicehaaDoor
