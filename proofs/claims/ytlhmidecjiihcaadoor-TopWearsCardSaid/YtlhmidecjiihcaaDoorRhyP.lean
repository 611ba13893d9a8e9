/-
  Plain definitions: periods and runs of a rhythm (from the texts of chapter 1).
-/
namespace Go.Proofs.YtlhmidecjiihcaaDoor

/-- the k-th number of a list -/
def ix (xs : List Int) (k : Nat) : Int := xs.getD k 0

theorem take_eq_succ {xs ys : List Int} {k : Nat} (h : xs.take k = ys.take k) (hk : k < xs.length) (hk' : k < ys.length) (he : ix xs k = ix ys k) : xs.take (k+1) = ys.take (k+1) := by
  rw [List.take_succ_eq_append_getElem hk, List.take_succ_eq_append_getElem hk', h]
  simp [ix, hk, hk'] at he
  simp [he]

theorem ix_ne {xs ys : List Int} {k : Nat} (he : ix xs k ≠ ix ys k) : xs ≠ ys := fun h => he (by rw [h])

abbrev Str := List UInt8
def letter (c : UInt8) : Bool := decide (97 ≤ c.toNat) && decide (c.toNat ≤ 100)
/-- why a string is no rhythm: 3, 2, or 0 if it is one -/
def chk (l : Str) : Int := if 200 < l.length then 3 else if l.isEmpty || !l.all letter then 2 else 0

def period (l : Str) (p : Nat) : Bool := l.drop p == l.take (l.length - p)
/-- the periods from 1 to k -/
def perTo (l : Str) (k : Nat) : List Int := ((List.range k).filter fun i => period l (i + 1)).map fun i => ((i + 1 : Nat) : Int)
def periods (l : Str) : List Int := perTo l l.length
theorem perTo_zero (l : Str) : perTo l 0 = [] := rfl
theorem perTo_yes (l : Str) (k : Nat) (h : period l (k + 1) = true) : perTo l (k + 1) = perTo l k ++ [((k + 1 : Nat) : Int)] := by simp [perTo, List.range_succ, h]
theorem perTo_no (l : Str) (k : Nat) (h : period l (k + 1) = false) : perTo l (k + 1) = perTo l k := by simp [perTo, List.range_succ, h]
theorem perTo_length (l : Str) (k : Nat) : (perTo l k).length ≤ k := by
  simp only [perTo, List.length_map]
  exact Nat.le_trans (List.length_filter_le _ _) (by simp)
theorem period_all (l : Str) : period l l.length = true := by simp [period]

/-- the first number from 1 to n with a property -/
def firstPos (p : Nat → Bool) (n : Nat) : Nat := ((List.range n).find? fun i => p (i + 1)).getD 0 + 1
theorem firstPos_of {p : Nat → Bool} {n q : Nat} (h1 : 1 ≤ q) (hn : q ≤ n) (hq : p q = true) (hlt : ∀ r, 1 ≤ r → r < q → p r = false) : firstPos p n = q := by
  unfold firstPos
  have : (List.range n).find? (fun i => p (i + 1)) = some (q - 1) := by
    rw [List.find?_range_eq_some]
    refine ⟨by rw [show q - 1 + 1 = q by omega]; exact hq, by simp; omega, fun j hj => ?_⟩
    simp [hlt (j + 1) (by omega) (by omega)]
  rw [this]
  simp; omega
theorem firstPos_spec (p : Nat → Bool) (n : Nat) (h0 : 1 ≤ n) (h : p n = true) :
    1 ≤ firstPos p n ∧ firstPos p n ≤ n ∧ p (firstPos p n) = true ∧ ∀ r, 1 ≤ r → r < firstPos p n → p r = false := by
  unfold firstPos
  cases hf : (List.range n).find? (fun i => p (i + 1)) with
  | none =>
    rw [List.find?_range_eq_none] at hf
    have := hf (n - 1) (by omega)
    rw [show n - 1 + 1 = n by omega, h] at this
    cases this
  | some i =>
    rw [List.find?_range_eq_some] at hf
    obtain ⟨h1, h2, h3⟩ := hf
    simp at h2
    refine ⟨by simp, by simp; omega, by simpa using h1, fun r hr1 hr2 => ?_⟩
    simp at hr2
    have := h3 (r - 1) (by omega)
    rw [show r - 1 + 1 = r by omega] at this
    simpa using this

/-- the least period -/
def least (l : Str) : Nat := firstPos (period l) l.length
theorem least_spec (l : Str) (h : 1 ≤ l.length) : 1 ≤ least l ∧ least l ≤ l.length ∧ period l (least l) = true ∧ ∀ r, 1 ≤ r → r < least l → period l r = false :=
  firstPos_spec _ _ h (period_all l)
theorem perTo_small (l : Str) (k : Nat) (h : ∀ r, 1 ≤ r → r ≤ k → period l r = false) : perTo l k = [] := by
  simp only [perTo, List.map_eq_nil_iff, List.filter_eq_nil_iff, List.mem_range]
  intro i hi
  simp [h (i + 1) (by omega) (by omega)]
theorem perTo_add (l : Str) (k m : Nat) : ∃ r, perTo l (k + m) = perTo l k ++ r := by
  induction m with
  | zero => exact ⟨[], by simp⟩
  | succ m ih =>
    obtain ⟨r, hr⟩ := ih
    cases h : period l (k + m + 1)
    · exact ⟨r, by rw [← Nat.add_assoc, perTo_no _ _ h, hr]⟩
    · exact ⟨r ++ [((k + m + 1 : Nat) : Int)], by rw [← Nat.add_assoc, perTo_yes _ _ h, hr, List.append_assoc]⟩
theorem periods_head (l : Str) (h : 1 ≤ l.length) : ∃ r, periods l = (least l : Int) :: r := by
  obtain ⟨h1, h2, h3, h4⟩ := least_spec l h
  obtain ⟨r, hr⟩ := perTo_add l (least l) (l.length - least l)
  rw [show least l + (l.length - least l) = l.length by omega] at hr
  refine ⟨r, ?_⟩
  unfold periods
  rw [hr]
  have e := perTo_yes l (least l - 1) (by rw [show least l - 1 + 1 = least l by omega]; exact h3)
  rw [show least l - 1 + 1 = least l by omega] at e
  rw [e, perTo_small l (least l - 1) (fun r a b => h4 r a (by omega))]
  rfl
theorem periods_ix (l : Str) (h : 1 ≤ l.length) : ix (periods l) 0 = least l ∧ 1 ≤ (periods l).length := by
  obtain ⟨r, hr⟩ := periods_head l h
  rw [hr]
  simp [ix]

/-- the local period at a position: does q fit? -/
def locOk (l : Str) (i q : Nat) : Bool := (l.drop (i - q)).take (min i (l.length - q) - (i - q)) == (l.drop (i - q + q)).take (min i (l.length - q) - (i - q))
def loc (l : Str) (i : Nat) : Nat := firstPos (locOk l i) l.length
theorem locOk_all (l : Str) (i : Nat) : locOk l i l.length = true := by simp [locOk]
theorem loc_of {l : Str} {i q : Nat} (h1 : 1 ≤ q) (hn : q ≤ l.length) (hq : locOk l i q = true) (hlt : ∀ r, 1 ≤ r → r < q → locOk l i r = false) : loc l i = q := firstPos_of h1 hn hq hlt
theorem loc_le (l : Str) (i : Nat) (h : 1 ≤ l.length) : 1 ≤ loc l i ∧ loc l i ≤ l.length := by
  have := firstPos_spec (locOk l i) l.length h (locOk_all l i)
  exact ⟨this.1, this.2.1⟩

/-- the local periods at the positions 1 to k; the critical ones among them -/
def locTo (l : Str) (k : Nat) : List Int := (List.range k).map fun i => (loc l (i + 1) : Int)
def locals (l : Str) : List Int := locTo l (l.length - 1)
theorem locTo_succ (l : Str) (k : Nat) : locTo l (k + 1) = locTo l k ++ [(loc l (k + 1) : Int)] := by simp [locTo, List.range_succ]
theorem locTo_length (l : Str) (k : Nat) : (locTo l k).length = k := by simp [locTo]
theorem locTo_ix (l : Str) (k i : Nat) (h : i < k) : ix (locTo l k) i = loc l (i + 1) := by simp [ix, locTo, h]
def critTo (l : Str) (k : Nat) : List Int := ((List.range k).filter fun i => loc l (i + 1) == least l).map fun i => ((i + 1 : Nat) : Int)
def crits (l : Str) : List Int := critTo l (l.length - 1)
theorem critTo_yes (l : Str) (k : Nat) (h : loc l (k + 1) = least l) : critTo l (k + 1) = critTo l k ++ [((k + 1 : Nat) : Int)] := by simp [critTo, List.range_succ, h]
theorem critTo_no (l : Str) (k : Nat) (h : loc l (k + 1) ≠ least l) : critTo l (k + 1) = critTo l k := by simp [critTo, List.range_succ, h]
theorem critTo_length (l : Str) (k : Nat) : (critTo l k).length ≤ k := by
  simp only [critTo, List.length_map]
  exact Nat.le_trans (List.length_filter_le _ _) (by simp)

theorem chk_ok {l : Str} (h : chk l = 0) : l.length ≤ 200 ∧ l ≠ [] ∧ l.all letter = true := by
  unfold chk at h
  split at h
  · cases h
  · split at h
    · cases h
    · rename_i h1 h2
      simp only [Bool.or_eq_true, List.isEmpty_iff, Bool.not_eq_true', not_or, Bool.not_eq_false] at h2
      exact ⟨by omega, h2.1, h2.2⟩
theorem chk_pos {l : Str} (h : chk l = 0) : 1 ≤ l.length := by
  have := (chk_ok h).2.1
  cases l with
  | nil => exact absurd rfl this
  | cons a l => simp

/-- the part of a rhythm from a up to, but not with, b -/
def part (l : Str) (a b : Nat) : Str := (l.drop a).take (b - a)
theorem part_length (l : Str) (a b : Nat) (h : b ≤ l.length) : (part l a b).length = b - a := by simp [part]; omega

/-- from, to, period -/
abbrev Rn := Nat × Nat × Nat
def lst (l : Str) (i j : Nat) : Nat := least (part l i j)
def lft (l : Str) (i j : Nat) : Bool := decide (0 < i) && period (part l (i - 1) j) (lst l i j)
def rgt (l : Str) (i j : Nat) : Bool := decide (j < l.length) && period (part l i (j + 1)) (lst l i j)
def isRun (l : Str) (i j : Nat) : Bool := decide (2 * lst l i j ≤ j - i) && !lft l i j && !rgt l i j
/-- the runs from i whose ends are the first d possible ones -/
def runsIn (l : Str) (i d : Nat) : List Rn := ((List.range d).filter fun k => isRun l i (i + 2 + k)).map fun k => (i, i + 2 + k, lst l i (i + 2 + k))
def runsAt (l : Str) (i : Nat) : List Rn := runsIn l i (l.length - 1 - i)
def runsTo (l : Str) (k : Nat) : List Rn := (List.range k).flatMap (runsAt l)
def runs (l : Str) : List Rn := runsTo l l.length
theorem runsIn_yes (l : Str) (i d : Nat) (h : isRun l i (i + 2 + d) = true) : runsIn l i (d + 1) = runsIn l i d ++ [(i, i + 2 + d, lst l i (i + 2 + d))] := by simp [runsIn, List.range_succ, h]
theorem runsIn_no (l : Str) (i d : Nat) (h : isRun l i (i + 2 + d) = false) : runsIn l i (d + 1) = runsIn l i d := by simp [runsIn, List.range_succ, h]
theorem runsIn_length (l : Str) (i d : Nat) : (runsIn l i d).length ≤ d := by
  simp only [runsIn, List.length_map]
  exact Nat.le_trans (List.length_filter_le _ _) (by simp)
theorem runsTo_succ (l : Str) (k : Nat) : runsTo l (k + 1) = runsTo l k ++ runsAt l k := by simp [runsTo, List.range_succ]
theorem runsTo_length (l : Str) (k : Nat) : (runsTo l k).length ≤ k * l.length := by
  induction k with
  | zero => simp [runsTo]
  | succ k ih =>
    rw [runsTo_succ, List.length_append, Nat.succ_mul]
    have := runsIn_length l k (l.length - 1 - k)
    unfold runsAt
    omega

/-- part k of a run -/
def rnat (r : Rn) : List Int := [(r.1 : Int), (r.2.1 : Int), (r.2.2 : Int)]
def rx (xs : List Rn) (k : Nat) : Rn := xs.getD k (0, 0, 0)
theorem rtake_succ {xs ys : List Rn} {k : Nat} (h : xs.take k = ys.take k) (hk : k < xs.length) (hk' : k < ys.length) (he : rx xs k = rx ys k) : xs.take (k+1) = ys.take (k+1) := by
  rw [List.take_succ_eq_append_getElem hk, List.take_succ_eq_append_getElem hk', h]
  simp [rx, hk, hk'] at he
  simp [he]
theorem rx_ne {xs ys : List Rn} {k : Nat} (he : rx xs k ≠ rx ys k) : xs ≠ ys := fun h => he (by rw [h])
end Go.Proofs.YtlhmidecjiihcaaDoor
