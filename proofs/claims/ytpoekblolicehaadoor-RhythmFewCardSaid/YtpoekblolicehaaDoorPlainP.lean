/-
  Plain: a rhythm read backwards.
-/
import Derived.Test.YtpoekblolicehaaDoorPlainO
import Derived.Test.YtpoekblolicehaaDoorPlainM
namespace Go.Proofs.YtpoekblolicehaaDoor

theorem period_rev (l : Str) (p : Nat) (hp : p ≤ l.length) : period l.reverse p = period l p := by
  rw [Bool.eq_iff_iff, period_iff l p hp, period_iff l.reverse p (by simpa using hp)]
  constructor
  · intro h
    have := pf_rev h
    rwa [List.reverse_reverse] at this
  · intro h; exact pf_rev h
theorem perTo_congr (l m : Str) (k : Nat) (h : ∀ p, 1 ≤ p → p ≤ k → period l p = period m p) : perTo l k = perTo m k := by
  unfold perTo
  congr 1
  refine List.filter_congr fun i hi => ?_
  rw [List.mem_range] at hi
  exact h (i + 1) (by omega) (by omega)
theorem periods_rev (l : Str) : periods l.reverse = periods l := by
  unfold periods
  rw [List.length_reverse]
  exact perTo_congr _ _ _ fun p _ h => period_rev l p h
theorem part_rev (l : Str) (a b : Nat) (h1 : a ≤ b) (h2 : b ≤ l.length) : part l.reverse a b = (part l (l.length - b) (l.length - a)).reverse := by
  unfold part
  rw [List.drop_reverse, List.take_reverse]
  congr 1
  rw [List.length_take, List.drop_take]
  congr 1
  · omega
  · congr 1; omega
theorem least_rev (l : Str) (h : 1 ≤ l.length) : least l.reverse = least l := by
  obtain ⟨h1, h2, h3, h4⟩ := least_spec l h
  refine firstPos_of h1 (by simpa using h2) ?_ fun r r1 r2 => ?_
  · rw [period_rev l _ h2]; exact h3
  · rw [period_rev l r (by omega)]; exact h4 r r1 r2
theorem map_nodup {α β : Type} [DecidableEq β] (f : α → β) (xs : List α) (h : xs.Nodup) (hf : ∀ x ∈ xs, ∀ y ∈ xs, f x = f y → x = y) : (xs.map f).Nodup := by
  induction xs with
  | nil => exact List.nodup_nil
  | cons a xs ih =>
    obtain ⟨h1, h2⟩ := List.nodup_cons.1 h
    rw [List.map_cons, List.nodup_cons]
    refine ⟨fun hm => ?_, ih h2 fun x hx y hy => hf x (by simp [hx]) y (by simp [hy])⟩
    obtain ⟨b, hb, e⟩ := List.mem_map.1 hm
    have := hf b (by simp [hb]) a (by simp) e
    subst this
    exact h1 hb
/-- an injection makes the list no longer than where it leads -/
theorem length_le_inj {α β : Type} [DecidableEq β] (f : α → β) {xs : List α} {ys : List β} (h : xs.Nodup) (hf : ∀ x ∈ xs, ∀ y ∈ xs, f x = f y → x = y) (hs : ∀ x ∈ xs, f x ∈ ys) : xs.length ≤ ys.length := by
  have := length_le_of_sub (map_nodup f xs h hf) (fun y hy => by obtain ⟨x, hx, rfl⟩ := List.mem_map.1 hy; exact hs x hx : ∀ y ∈ xs.map f, y ∈ ys)
  rwa [List.length_map] at this
theorem dif_rev (xs ys : List Str) (h1 : ∀ x ∈ xs, x.reverse ∈ ys) (h2 : ∀ y ∈ ys, y.reverse ∈ xs) : (dif xs).length = (dif ys).length := by
  apply Nat.le_antisymm
  · exact length_le_inj List.reverse (nodup_dif xs) (fun x _ y _ e => List.reverse_inj.1 e) (fun x hx => (mem_dif ys _).2 (h1 x ((mem_dif xs x).1 hx)))
  · exact length_le_inj List.reverse (nodup_dif ys) (fun x _ y _ e => List.reverse_inj.1 e) (fun x hx => (mem_dif xs _).2 (h2 x ((mem_dif ys x).1 hx)))
theorem isSq_rev (l : Str) (h i : Nat) (hi : i + 2 * h ≤ l.length) : isSq l.reverse h i = isSq l h (l.length - (i + 2 * h)) := by
  unfold isSq
  rw [part_rev l i (i + h) (by omega) (by omega), part_rev l (i + h) (i + 2 * h) (by omega) hi, Bool.eq_iff_iff, beq_iff_eq, beq_iff_eq, List.reverse_inj]
  rw [show l.length - (i + 2 * h) + h = l.length - (i + h) by omega, show l.length - (i + 2 * h) + 2 * h = l.length - i by omega]
  exact eq_comm
theorem sq_rev_sub (l : Str) (y : Str) (hy : y ∈ sqTo l l.length) : y.reverse ∈ sqTo l.reverse l.reverse.length := by
  rw [mem_sqTo] at hy ⊢
  obtain ⟨h, i, h1, h2, h3, h4, rfl⟩ := hy
  refine ⟨h, l.length - (i + 2 * h), h1, by simpa using h2, by simp; omega, ?_, ?_⟩
  · rw [isSq_rev l h _ (by omega), show l.length - (l.length - (i + 2 * h) + 2 * h) = i by omega]; exact h4
  · rw [part_rev l _ _ (by omega) (by omega), show l.length - (l.length - (i + 2 * h) + 2 * h) = i by omega, show l.length - (l.length - (i + 2 * h)) = i + 2 * h by omega]
theorem squares_rev (l : Str) : squares l.reverse = squares l := by
  refine dif_rev _ _ (fun y hy => ?_) (fun y hy => sq_rev_sub l y hy)
  have := sq_rev_sub l.reverse y hy
  rwa [List.reverse_reverse] at this
theorem mem_allP (l : Str) (m k : Nat) (y : Str) : y ∈ allP l m k ↔ ∃ i, i < k ∧ y = part l i (i + m) := by
  unfold allP
  simp only [List.mem_map, List.mem_range]
  constructor
  · rintro ⟨i, hi, rfl⟩; exact ⟨i, hi, rfl⟩
  · rintro ⟨i, hi, rfl⟩; exact ⟨i, hi, rfl⟩
theorem allP_rev_sub (l : Str) (m : Nat) (y : Str) (hm : m ≤ l.length) (hy : y ∈ allP l m (l.length + 1 - m)) : y.reverse ∈ allP l.reverse m (l.length + 1 - m) := by
  rw [mem_allP] at hy ⊢
  obtain ⟨i, hi, rfl⟩ := hy
  refine ⟨l.length - (i + m), by omega, ?_⟩
  rw [part_rev l _ _ (by omega) (by omega), show l.length - (l.length - (i + m) + m) = i by omega, show l.length - (l.length - (i + m)) = i + m by omega]
theorem partsL_rev (l : Str) : partsL l.reverse = partsL l := by
  unfold partsL partsTo
  rw [List.length_reverse]
  refine List.map_congr_left fun j hj => ?_
  rw [List.mem_range] at hj
  congr 1
  refine dif_rev _ _ (fun y hy => ?_) (fun y hy => allP_rev_sub l _ y (by omega) hy)
  have := allP_rev_sub l.reverse (j + 1) y (by simp; omega) (by simpa using hy)
  rw [List.reverse_reverse] at this
  simpa using this

theorem lst_rev (l : Str) (i j : Nat) (h1 : i < j) (h2 : j ≤ l.length) : lst l.reverse i j = lst l (l.length - j) (l.length - i) := by
  unfold lst
  rw [part_rev l i j (by omega) h2]
  refine least_rev _ ?_
  rw [part_length _ _ _ (by omega)]; omega
theorem lst_bounds (l : Str) (i j : Nat) (h1 : i < j) (h2 : j ≤ l.length) : 1 ≤ lst l i j ∧ lst l i j ≤ j - i := by
  have hl := part_length l i j h2
  obtain ⟨a, b, _⟩ := least_spec (part l i j) (by omega)
  exact ⟨a, by unfold lst; omega⟩
theorem lft_rev (l : Str) (i j : Nat) (h1 : i < j) (h2 : j ≤ l.length) : lft l.reverse i j = rgt l (l.length - j) (l.length - i) := by
  unfold lft rgt
  rw [lst_rev l i j h1 h2]
  by_cases h0 : 0 < i
  · rw [decide_eq_true h0, decide_eq_true (show l.length - i < l.length by omega), Bool.true_and, Bool.true_and, part_rev l (i - 1) j (by omega) h2, show l.length - (i - 1) = l.length - i + 1 by omega]
    refine period_rev _ _ ?_
    rw [part_length _ _ _ (by omega)]
    have := lst_bounds l (l.length - j) (l.length - i) (by omega) (by omega)
    omega
  · rw [decide_eq_false h0, decide_eq_false (show ¬ l.length - i < l.length by omega)]; rfl
theorem rgt_rev (l : Str) (i j : Nat) (h1 : i < j) (h2 : j ≤ l.length) : rgt l.reverse i j = lft l (l.length - j) (l.length - i) := by
  unfold lft rgt
  rw [lst_rev l i j h1 h2, List.length_reverse]
  by_cases h0 : j < l.length
  · rw [decide_eq_true h0, decide_eq_true (show 0 < l.length - j by omega), Bool.true_and, Bool.true_and, part_rev l i (j + 1) (by omega) (by omega), show l.length - (j + 1) = l.length - j - 1 by omega]
    refine period_rev _ _ ?_
    rw [part_length _ _ _ (by omega)]
    have := lst_bounds l (l.length - j) (l.length - i) (by omega) (by omega)
    omega
  · rw [decide_eq_false h0, decide_eq_false (show ¬ 0 < l.length - j by omega)]; rfl
theorem isRun_rev (l : Str) (i j : Nat) (h1 : i < j) (h2 : j ≤ l.length) : isRun l.reverse i j = isRun l (l.length - j) (l.length - i) := by
  unfold isRun
  rw [lst_rev l i j h1 h2, lft_rev l i j h1 h2, rgt_rev l i j h1 h2, show l.length - i - (l.length - j) = j - i by omega]
  cases lft l (l.length - j) (l.length - i) <;> cases rgt l (l.length - j) (l.length - i) <;> cases decide (2 * lst l (l.length - j) (l.length - i) ≤ j - i) <;> rfl
theorem mem_runs (l : Str) (r : Rn) : r ∈ runs l ↔ r.1 + 2 ≤ r.2.1 ∧ r.2.1 ≤ l.length ∧ isRun l r.1 r.2.1 = true ∧ r.2.2 = lst l r.1 r.2.1 := by
  unfold runs runsTo runsAt runsIn
  simp only [List.mem_flatMap, List.mem_range, List.mem_map, List.mem_filter]
  constructor
  · rintro ⟨i, hi, k, ⟨hk, hr⟩, rfl⟩
    exact ⟨by show i + 2 ≤ i + 2 + k; omega, by show i + 2 + k ≤ l.length; omega, hr, rfl⟩
  · obtain ⟨a, b, c⟩ := r
    rintro ⟨h1, h2, h3, h4⟩
    simp only at h1 h2 h3 h4
    refine ⟨a, by omega, b - (a + 2), ⟨by omega, ?_⟩, ?_⟩ <;> rw [show a + 2 + (b - (a + 2)) = b by omega]
    · exact h3
    · rw [h4]
theorem nodup_runs (l : Str) : (runs l).Nodup := by
  suffices ∀ k, (runsTo l k).Nodup ∧ ∀ r ∈ runsTo l k, r.1 < k from (this _).1
  intro k
  induction k with
  | zero => exact ⟨List.nodup_nil, fun r h => by cases h⟩
  | succ k ih =>
    rw [runsTo_succ]
    have hat : ∀ r ∈ runsAt l k, r.1 = k := by
      intro r hr
      unfold runsAt runsIn at hr
      obtain ⟨x, _, rfl⟩ := List.mem_map.1 hr
      rfl
    refine ⟨?_, fun r hr => ?_⟩
    · rw [List.nodup_append]
      refine ⟨ih.1, ?_, fun a ha b hb e => ?_⟩
      · unfold runsAt runsIn
        refine map_nodup _ _ (List.Nodup.sublist List.filter_sublist List.nodup_range) (fun x _ y _ e => ?_)
        simp only [Prod.mk.injEq] at e
        omega
      · have := ih.2 a ha
        have := hat b hb
        subst e
        omega
    · rcases List.mem_append.1 hr with h | h
      · have := ih.2 r h; omega
      · have := hat r h; omega
theorem runs_rev_le (l : Str) : (runs l).length ≤ (runs l.reverse).length := by
  refine length_le_inj (fun r : Rn => ((l.length - r.2.1, l.length - r.1, r.2.2) : Rn)) (nodup_runs l) (fun x hx y hy e => ?_) (fun x hx => ?_)
  · rw [mem_runs] at hx hy
    obtain ⟨a, b, c⟩ := x
    obtain ⟨a', b', c'⟩ := y
    simp only [Prod.mk.injEq] at e hx hy ⊢
    omega
  · rw [mem_runs] at hx ⊢
    obtain ⟨h1, h2, h3, h4⟩ := hx
    refine ⟨by simp; omega, by simp, ?_, ?_⟩
    · rw [isRun_rev l _ _ (by simp; omega) (by simp), show l.length - (l.length - x.1) = x.1 by omega, show l.length - (l.length - x.2.1) = x.2.1 by omega]; exact h3
    · show x.2.2 = lst l.reverse (l.length - x.2.1) (l.length - x.1)
      rw [lst_rev l _ _ (by omega) (by omega), show l.length - (l.length - x.1) = x.1 by omega, show l.length - (l.length - x.2.1) = x.2.1 by omega]; exact h4
theorem runs_rev (l : Str) : (runs l.reverse).length = (runs l).length := by
  apply Nat.le_antisymm
  · have := runs_rev_le l.reverse
    rwa [List.reverse_reverse] at this
  · exact runs_rev_le l
theorem cb_rev (l : Str) (m i : Nat) (h : i + m ≤ l.length) : cb l.reverse m i = cb l m (l.length - (i + m)) := by
  unfold cb
  rw [part_rev l i (i + m) (by omega) h, List.count_reverse, show l.length - (i + m) + m = l.length - i by omega]
theorem bal_of {l : Str} (ha : ab l = true) (h : ∀ i j m, i + m ≤ l.length → j + m ≤ l.length → cb l m i ≤ cb l m j + 1) : balanced l = true := by
  unfold balanced
  rw [ha, Bool.true_and]
  refine balTo_yes _ _ fun j hj => ?_
  unfold evenAt
  refine decide_eq_true ?_
  have key : ∀ c, (∀ i, i + (j + 1) ≤ l.length → c ≤ cb l (j + 1) i + 1) → c ≤ j + 1 → c ≤ lowL l (j + 1) (List.range (l.length + 1 - (j + 1))) + 1 := by
    intro c hc hcj
    have := low_of l (j + 1) (c - 1) (List.range (l.length + 1 - (j + 1))) (by omega) (fun i hi => by rw [List.mem_range] at hi; have := hc i (by omega); omega)
    omega
  refine high_of l (j + 1) _ _ fun i hi => ?_
  rw [List.mem_range] at hi
  refine key _ (fun i' hi' => h i i' (j + 1) (by omega) hi') (cb_le l (j + 1) i)
theorem balanced_rev1 (l : Str) (h : balanced l = true) : balanced l.reverse = true := by
  have h0 := h
  unfold balanced at h0
  rw [Bool.and_eq_true] at h0
  refine bal_of ?_ fun i j m hi hj => ?_
  · have := h0.1
    unfold ab at *
    rwa [List.all_reverse]
  · rw [List.length_reverse] at hi hj
    rw [cb_rev l m i hi, cb_rev l m j hj]
    exact bal_cb h _ _ _ (by omega) (by omega)
theorem balanced_rev (l : Str) : balanced l.reverse = balanced l := by
  rw [Bool.eq_iff_iff]
  constructor
  · intro h
    have := balanced_rev1 _ h
    rwa [List.reverse_reverse] at this
  · exact balanced_rev1 l
end Go.Proofs.YtpoekblolicehaaDoor
