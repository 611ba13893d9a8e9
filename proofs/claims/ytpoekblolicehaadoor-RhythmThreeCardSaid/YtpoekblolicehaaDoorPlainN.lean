/-
  Plain: the three gaps.
-/
import Derived.Test.YtpoekblolicehaaDoorPlainG
namespace Go.Proofs.YtpoekblolicehaaDoor

theorem pt_lt (s n i : Nat) (h : 1 ≤ n) : pt s n i < n := Nat.mod_lt _ h
theorem pt_zero (s n : Nat) : pt s n 0 = 0 := by simp [pt]
theorem pt_add (s n i d : Nat) (h : 1 ≤ n) : pt s n (i + d) = pt s n i + pt s n d ∨ pt s n (i + d) + n = pt s n i + pt s n d := by
  unfold pt
  rw [Nat.add_mul, Nat.add_mod]
  have h1 := Nat.mod_lt (i * s) (show n > 0 by omega)
  have h2 := Nat.mod_lt (d * s) (show n > 0 by omega)
  generalize i * s % n = a at *
  generalize d * s % n = b at *
  by_cases hs : a + b < n
  · left; exact Nat.mod_eq_of_lt hs
  · right
    rw [Nat.mod_eq_sub_mod (by omega), Nat.mod_eq_of_lt (by omega)]
    omega
theorem seen_iff (s n k x : Nat) : seen s n k x = true ↔ ∃ i, i < k ∧ pt s n i = x := by
  simp only [seen, List.any_eq_true, List.mem_range, beq_iff_eq]
theorem apart_ne {s n c : Nat} (h : apart s n c = true) (i j : Nat) (hi : i < j) (hj : j < c) : pt s n i ≠ pt s n j := by
  simp only [apart, List.all_eq_true, List.mem_range, Bool.not_eq_true'] at h
  intro he
  have := h j hj
  rw [(seen_iff s n j _).2 ⟨i, hi, he⟩] at this
  cases this

/-- the least, or the greatest, of some numbers -/
theorem ex_min (f : Nat → Nat) : ∀ c, 2 ≤ c → ∃ a, 1 ≤ a ∧ a < c ∧ ∀ i, 1 ≤ i → i < c → f a ≤ f i
  | 0, h => by omega
  | 1, h => by omega
  | 2, _ => ⟨1, by omega, by omega, fun i h1 h2 => by have : i = 1 := by omega
                                                      subst this; exact Nat.le_refl _⟩
  | c + 3, _ => by
    obtain ⟨a, h1, h2, h3⟩ := ex_min f (c + 2) (by omega)
    by_cases h : f a ≤ f (c + 2)
    · refine ⟨a, h1, by omega, fun i i1 i2 => ?_⟩
      by_cases he : i = c + 2
      · subst he; exact h
      · exact h3 i i1 (by omega)
    · refine ⟨c + 2, by omega, by omega, fun i i1 i2 => ?_⟩
      by_cases he : i = c + 2
      · subst he; exact Nat.le_refl _
      · have := h3 i i1 (by omega); omega
theorem ex_max (f : Nat → Nat) (c m : Nat) (hc : 2 ≤ c) (hm : ∀ i, f i ≤ m) : ∃ a, 1 ≤ a ∧ a < c ∧ ∀ i, 1 ≤ i → i < c → f i ≤ f a := by
  obtain ⟨a, h1, h2, h3⟩ := ex_min (fun i => m - f i) c hc
  refine ⟨a, h1, h2, fun i i1 i2 => ?_⟩
  have h4 : m - f a ≤ m - f i := h3 i i1 i2
  have := hm a; have := hm i
  omega

/-- three numbers serve for all distances -/
theorem three_core (s n c : Nat) (hn : 1 ≤ n) (hc : 2 ≤ c) (hap : apart s n c = true) :
    ∃ a b : Nat, 1 ≤ a ∧ 1 ≤ b ∧ ∀ y x, y < x → seen s n c y = true → (x = n ∨ (x < n ∧ seen s n c x = true)) → (∀ z, y < z → z < x → seen s n c z = false) → x - y = a ∨ x - y = b ∨ x - y = a + b := by
  have hlt := fun i => pt_lt s n i hn
  have hadd := fun i d => pt_add s n i d hn
  have hz := pt_zero s n
  obtain ⟨a, a1, a2, a3⟩ := ex_min (pt s n) c hc
  obtain ⟨b, b1, b2, b3⟩ := ex_max (pt s n) c n hc (fun i => Nat.le_of_lt (hlt i))
  have hpos : ∀ i, 1 ≤ i → i < c → 1 ≤ pt s n i := by
    intro i h1 h2
    have := apart_ne hap 0 i (by omega) h2
    omega
  refine ⟨pt s n a, n - pt s n b, hpos a a1 a2, by have := hlt b; omega, ?_⟩
  intro y x hyx hy hx hno
  obtain ⟨i, hi, rfl⟩ := (seen_iff s n c y).1 hy
  have hfar : ∀ k, k < c → pt s n i < pt s n k → x ≤ pt s n k := by
    intro k hk h
    apply Nat.le_of_not_lt
    intro hlt
    have := hno _ h hlt
    rw [(seen_iff s n c _).2 ⟨k, hk, rfl⟩] at this
    cases this
  obtain ⟨j, hj, hxj⟩ : ∃ j, j < c ∧ (pt s n j = x ∨ (j = 0 ∧ x = n)) := by
    rcases hx with hx | ⟨_, hx⟩
    · exact ⟨0, by omega, .inr ⟨rfl, hx⟩⟩
    · obtain ⟨j, hj, h⟩ := (seen_iff s n c x).1 hx
      exact ⟨j, hj, .inl h⟩
  have hxn : x ≤ n := by rcases hx with h | h <;> omega
  have pa := hpos a a1 a2
  have pb := hpos b b1 b2
  have la := hlt a
  have lb := hlt b
  have li := hlt i
  have lj := hlt j
  have hij : i ≠ j := by
    rintro rfl
    rcases hxj with h | ⟨h1, h2⟩
    · omega
    · subst h1
      have := hfar a a2 (by omega)
      omega
  have hA : i + a < c → x - pt s n i ≤ pt s n a := by
    intro h
    have := hfar (i + a) h
    have := hadd i a
    omega
  have hB : b ≤ i → x - pt s n i ≤ n - pt s n b := by
    intro h
    have := hfar (i - b) (by omega)
    have h2 := hadd (i - b) b
    rw [show i - b + b = i by omega] at h2
    omega
  have hC : b ≤ i + a → i + a - b < c → x - pt s n i ≤ pt s n a + (n - pt s n b) := by
    intro h1 h2
    have := hfar (i + a - b) h2
    have h3 := hadd (i + a - b) b
    rw [show i + a - b + b = i + a by omega] at h3
    have h4 := hadd i a
    have := hlt (i + a - b)
    have := hlt (i + a)
    omega
  by_cases hji : i < j
  · have d1 := hadd i (j - i)
    rw [show i + (j - i) = j by omega] at d1
    have ld := hlt (j - i)
    have hd : pt s n (j - i) = x - pt s n i := by
      have := hpos (j - i) (by omega) (by omega)
      rcases hxj with h | h <;> omega
    have hm := a3 (j - i) (by omega) (by omega)
    by_cases h1 : i + a < c
    · have := hA h1; omega
    · right; right
      have hda : j - i < a := by omega
      have e1 := hadd (j - i) (a - (j - i))
      rw [show j - i + (a - (j - i)) = a by omega] at e1
      have e2 := hpos (a - (j - i)) (by omega) (by omega)
      have e3 := b3 (a - (j - i)) (by omega) (by omega)
      have hib : i < b := by
        apply Nat.lt_of_not_le
        intro h
        have := hB h
        omega
      have := hC (by omega) (by omega)
      omega
  · have d1 := hadd j (i - j)
    rw [show j + (i - j) = i by omega] at d1
    have ld := hlt (i - j)
    have hd : pt s n (i - j) + (x - pt s n i) = n := by
      have := hpos (i - j) (by omega) (by omega)
      rcases hxj with h | h
      · omega
      · obtain ⟨h, h'⟩ := h
        subst h
        omega
    have hm := b3 (i - j) (by omega) (by omega)
    by_cases h1 : b ≤ i
    · have := hB h1; omega
    · right; right
      have e1 := hadd (i - j) (b - (i - j))
      rw [show i - j + (b - (i - j)) = b by omega] at e1
      have e2 := hlt (b - (i - j))
      have e3 := a3 (b - (i - j)) (by omega) (by omega)
      have hia : c ≤ i + a := by
        apply Nat.le_of_not_lt
        intro h
        have := hA h
        omega
      have := hC (by omega) (by omega)
      omega

/-- what gapTo collects -/
theorem gapTo_inv (f : Nat → Bool) (n : Nat) (h0 : f 0 = true) : ∀ x, x ≤ n → 
    ((gapTo f n x).1.sum = ((gapTo f n x).2 : Nat)) ∧ (x < n → f (gapTo f n x).2 = true) ∧ (x = n → 1 ≤ n → (gapTo f n x).2 = n) ∧ (∀ z, (gapTo f n x).2 < z → z ≤ x → f z = false) ∧
    (∀ g ∈ (gapTo f n x).1, ∃ y z : Nat, g = ((z - y : Nat) : Int) ∧ y < z ∧ f y = true ∧ (z = n ∨ (z < n ∧ f z = true)) ∧ ∀ t, y < t → t < z → f t = false)
  | 0, _ => by
    refine ⟨rfl, fun _ => h0, fun h h1 => by omega, fun z h1 h2 => ?_, fun g hg => ?_⟩
    · have : z = 0 := by omega
      subst this
      exact absurd h1 (Nat.lt_irrefl _)
    · cases hg
  | x + 1, hx => by
    obtain ⟨i1, i2, i3, i4, i5⟩ := gapTo_inv f n h0 x (by omega)
    have hle := (gapTo_le f n x).1
    by_cases h : x + 1 = n ∨ f (x + 1) = true
    · rw [gapTo_yes f n x h]
      refine ⟨?_, fun hlt => ?_, fun he _ => he, fun z h1 h2 => ?_, fun g hg => ?_⟩
      · simp only [List.sum_append, List.sum_cons, List.sum_nil, i1]
        omega
      · rcases h with h | h
        · omega
        · exact h
      · simp only at h1; omega
      · rcases List.mem_append.1 hg with hg | hg
        · exact i5 g hg
        · rw [List.mem_singleton] at hg
          refine ⟨(gapTo f n x).2, x + 1, by rw [hg]; omega, by omega, i2 (by omega), ?_, fun t t1 t2 => i4 t t1 (by omega)⟩
          by_cases he : x + 1 = n
          · exact .inl he
          · right; rcases h with h | h
            · exact absurd h he
            · exact ⟨by omega, h⟩
    · have h1 : x + 1 ≠ n := fun e => h (.inl e)
      have h2 : f (x + 1) = false := by
        cases hf : f (x + 1) with
        | false => rfl
        | true => exact absurd (.inr hf) h
      rw [gapTo_no f n x h1 h2]
      refine ⟨i1, fun hlt => i2 (by omega), fun he => absurd he h1, fun z z1 z2 => ?_, i5⟩
      by_cases he : z = x + 1
      · subst he; exact h2
      · exact i4 z z1 (by omega)

def cnt (f : Nat → Bool) : Nat → Nat
  | 0 => 0
  | x + 1 => cnt f x + if f x = true then 1 else 0
theorem cnt_add (f g : Nat → Bool) (p : Nat) (h : ∀ x, g x = if x = p then true else f x) (hp : f p = false) : ∀ n, cnt g n = cnt f n + if p < n then 1 else 0
  | 0 => rfl
  | n + 1 => by
    rw [cnt, cnt, cnt_add f g p h hp n, h n]
    by_cases he : n = p
    · subst he
      rw [if_pos rfl, if_neg (Nat.lt_irrefl _), if_pos (Nat.lt_succ_self _), hp]
      simp
    · rw [if_neg he]
      have e : (if p < n + 1 then 1 else 0 : Nat) = if p < n then 1 else 0 := by
        by_cases hlt : p < n
        · rw [if_pos hlt, if_pos (by omega)]
        · rw [if_neg hlt, if_neg (by omega)]
      rw [e]; omega
theorem cnt_seen (s n : Nat) (hn : 1 ≤ n) : ∀ c, apart s n c = true → cnt (seen s n c) n = c
  | 0, _ => by
    have : ∀ x, cnt (seen s n 0) x = 0 := by
      intro x
      induction x with
      | zero => rfl
      | succ x ih => rw [cnt, ih, seen_zero]; rfl
    exact this n
  | c + 1, h => by
    rw [apart_succ, Bool.and_eq_true] at h
    have := cnt_add (seen s n c) (seen s n (c + 1)) (pt s n c) (fun x => seen_succ s n c x) (by simpa using h.2) n
    rw [this, cnt_seen s n hn c h.1, if_pos (pt_lt s n c hn)]
theorem gapTo_cnt (f : Nat → Bool) (n : Nat) (h0 : f 0 = true) : ∀ x, x < n → (gapTo f n x).1.length + 1 = cnt f (x + 1)
  | 0, _ => by rw [cnt, cnt, h0]; rfl
  | x + 1, h => by
    rw [cnt, ← gapTo_cnt f n h0 x (by omega)]
    cases hf : f (x + 1)
    · rw [gapTo_no f n x (by omega) hf]; simp
    · rw [gapTo_yes f n x (.inr hf), List.length_append]; simp
theorem gaps_length (s n c : Nat) (hn : 1 ≤ n) (hc : 1 ≤ c) (h : apart s n c = true) : (gaps s c n).length = c := by
  have h0 : seen s n c 0 = true := (seen_iff s n c 0).2 ⟨0, hc, pt_zero s n⟩
  have e := gapTo_yes (seen s n c) n (n - 1) (.inl (by omega))
  rw [show n - 1 + 1 = n by omega] at e
  unfold gaps
  rw [e, List.length_append]
  have := gapTo_cnt (seen s n c) n h0 (n - 1) (by omega)
  rw [show n - 1 + 1 = n by omega, cnt_seen s n hn c h] at this
  simpa using this
theorem gaps_sum (s n c : Nat) (hn : 1 ≤ n) (hc : 1 ≤ c) : (gaps s c n).sum = (n : Int) := by
  have h0 : seen s n c 0 = true := (seen_iff s n c 0).2 ⟨0, hc, pt_zero s n⟩
  have := gapTo_inv (seen s n c) n h0 n (Nat.le_refl _)
  unfold gaps
  rw [this.1, this.2.2.1 rfl hn]
theorem gaps_three (s n c : Nat) (hn : 1 ≤ n) (hc : 1 ≤ c) (h : apart s n c = true) : ∃ a b : Int, 1 ≤ a ∧ 1 ≤ b ∧ ∀ g ∈ gaps s c n, g = a ∨ g = b ∨ g = a + b := by
  have h0 : seen s n c 0 = true := (seen_iff s n c 0).2 ⟨0, hc, pt_zero s n⟩
  have hv := (gapTo_inv (seen s n c) n h0 n (Nat.le_refl _)).2.2.2.2
  by_cases h2 : 2 ≤ c
  · obtain ⟨a, b, a1, b1, hab⟩ := three_core s n c hn h2 h
    refine ⟨a, b, by omega, by omega, fun g hg => ?_⟩
    obtain ⟨y, z, rfl, hyz, hy, hz, hno⟩ := hv g hg
    have := hab y z hyz hy hz hno
    omega
  · have hc1 : c = 1 := by omega
    subst hc1
    have hs : ∀ x, seen s n 1 x = true → x = 0 := by
      intro x hx
      obtain ⟨i, hi, rfl⟩ := (seen_iff s n 1 x).1 hx
      have : i = 0 := by omega
      subst this
      exact pt_zero s n
    refine ⟨n, n, by omega, by omega, fun g hg => ?_⟩
    obtain ⟨y, z, rfl, hyz, hy, hz, hno⟩ := hv g hg
    have := hs y hy
    rcases hz with hz | ⟨_, hz⟩
    · omega
    · have := hs z hz; omega
theorem gaps_bound (s n c : Nat) (g : Int) (hc : 1 ≤ c) (hg : g ∈ gaps s c n) : 1 ≤ g ∧ g ≤ n := by
  have h0 : seen s n c 0 = true := (seen_iff s n c 0).2 ⟨0, hc, pt_zero s n⟩
  obtain ⟨y, z, rfl, hyz, hy, hz, hno⟩ := (gapTo_inv (seen s n c) n h0 n (Nat.le_refl _)).2.2.2.2 g hg
  omega

/-- where x belongs in a rising list -/
def posD : List Int → Int → Nat
  | [], _ => 0
  | d :: ds, x => if d < x then posD ds x + 1 else 0
def insD (d : List Int) (x : Int) : List Int := if posD d x = d.length ∨ ix d (posD d x) ≠ x then d.take (posD d x) ++ x :: d.drop (posD d x) else d
theorem posD_le : ∀ (d : List Int) (x : Int), posD d x ≤ d.length
  | [], _ => Nat.le_refl _
  | a :: d, x => by
    have := posD_le d x
    rw [posD]
    split <;> simp
    omega
theorem posD_lt : ∀ (d : List Int) (x : Int) (k : Nat), k < posD d x → ix d k < x
  | [], _, k, h => by simp [posD] at h
  | a :: d, x, k, h => by
    rw [posD] at h
    split at h
    · cases k with
      | zero => simpa [ix] using ‹a < x›
      | succ k => have := posD_lt d x k (by omega); simpa [ix] using this
    · omega
theorem posD_ge : ∀ (d : List Int) (x : Int), posD d x < d.length → x ≤ ix d (posD d x)
  | [], _, h => by simp at h
  | a :: d, x, h => by
    rw [posD] at h ⊢
    split
    · rename_i hax
      rw [if_pos hax] at h
      have := posD_ge d x (by simpa using h)
      simpa [ix] using this
    · simp [ix]; omega
/-- strictly rising -/
def Ris (d : List Int) : Prop := d.Pairwise (· < ·)
theorem insD_mem (d : List Int) (x y : Int) : y ∈ insD d x ↔ y = x ∨ y ∈ d := by
  unfold insD
  split
  · conv => rhs; rw [← List.take_append_drop (posD d x) d]
    simp only [List.mem_append, List.mem_cons]
    constructor
    · rintro (h | h | h)
      · exact .inr (.inl h)
      · exact .inl h
      · exact .inr (.inr h)
    · rintro (h | h | h)
      · exact .inr (.inl h)
      · exact .inl h
      · exact .inr (.inr h)
  · rename_i h
    have h1 : posD d x ≠ d.length := fun e => h (.inl e)
    have h2 : ix d (posD d x) = x := Classical.byContradiction fun e => h (.inr e)
    constructor
    · exact .inr
    · rintro (rfl | h3)
      · rw [← h2]
        have hl : posD d y < d.length := by have := posD_le d y; omega
        unfold ix
        rw [List.getD_eq_getElem?_getD, List.getElem?_eq_getElem hl]
        exact List.getElem_mem hl
      · exact h3
theorem insD_ris : ∀ (d : List Int) (x : Int), Ris d → Ris (insD d x)
  | [], x, _ => by simp [insD, posD, Ris]
  | a :: d, x, h => by
    obtain ⟨h1, h2⟩ := List.pairwise_cons.1 h
    have ih := insD_ris d x h2
    by_cases hax : a < x
    · have e : insD (a :: d) x = a :: insD d x := by
        unfold insD
        rw [posD, if_pos hax]
        have : ix (a :: d) (posD d x + 1) = ix d (posD d x) := by simp [ix]
        rw [this]
        by_cases hc : posD d x = d.length ∨ ix d (posD d x) ≠ x
        · rw [if_pos hc, if_pos (by rcases hc with hc | hc; exact .inl (by simp [hc]); exact .inr hc)]
          rfl
        · rw [if_neg hc, if_neg (by intro h; apply hc; rcases h with h | h; exact .inl (by simpa using h); exact .inr h)]
      rw [e]
      refine List.pairwise_cons.2 ⟨fun y hy => ?_, ih⟩
      rcases (insD_mem d x y).1 hy with rfl | hy
      · exact hax
      · exact h1 y hy
    · by_cases hx : a = x
      · have e : insD (a :: d) x = a :: d := by
          unfold insD
          rw [posD, if_neg hax, if_neg]
          rintro (h | h)
          · simp at h
          · exact h (by simp [ix, hx])
        rw [e]; exact h
      · have e : insD (a :: d) x = x :: a :: d := by
          unfold insD
          rw [posD, if_neg hax, if_pos (.inr (by simp [ix, hx]))]
          rfl
        rw [e]
        refine List.pairwise_cons.2 ⟨fun y hy => ?_, h⟩
        rcases List.mem_cons.1 hy with rfl | hy
        · omega
        · have := h1 y hy; omega
/-- the different numbers among the first k -/
def difTo (g : List Int) : Nat → List Int
  | 0 => []
  | k + 1 => insD (difTo g k) (ix g k)
theorem difTo_ris (g : List Int) : ∀ k, Ris (difTo g k)
  | 0 => List.Pairwise.nil
  | k + 1 => insD_ris _ _ (difTo_ris g k)
theorem difTo_mem (g : List Int) : ∀ k, k ≤ g.length → ∀ y ∈ difTo g k, y ∈ g
  | 0, _, y, h => by cases h
  | k + 1, hk, y, h => by
    rcases (insD_mem _ _ y).1 h with rfl | h
    · unfold ix
      rw [List.getD_eq_getElem?_getD, List.getElem?_eq_getElem (show k < g.length by omega)]
      exact List.getElem_mem _
    · exact difTo_mem g k (by omega) y h
theorem ris_three (d : List Int) (h : Ris d) (a b : Int) (ha : 1 ≤ a) (hb : 1 ≤ b) (hm : ∀ y ∈ d, y = a ∨ y = b ∨ y = a + b) : d.length ≤ 3 ∧ (3 ≤ d.length → ix d 0 + ix d 1 = ix d 2) := by
  match d, h with
  | [], _ => exact ⟨by simp, by simp⟩
  | [_], _ => exact ⟨by simp, by simp⟩
  | [_, _], _ => exact ⟨by simp, by simp⟩
  | [x, y, z], h =>
    simp only [Ris, List.pairwise_cons, List.mem_cons, List.not_mem_nil, or_false] at h
    have h1 := h.1 y (.inl rfl)
    have h2 := h.2.1 z rfl
    have m1 := hm x (by simp)
    have m2 := hm y (by simp)
    have m3 := hm z (by simp)
    refine ⟨by simp, fun _ => ?_⟩
    simp [ix]
    omega
  | x :: y :: z :: t :: r, h =>
    exfalso
    simp only [Ris, List.pairwise_cons] at h
    have h1 := h.1 y (by simp)
    have h2 := h.2.1 z (by simp)
    have h3 := h.2.2.1 t (by simp)
    have m1 := hm x (by simp)
    have m2 := hm y (by simp)
    have m3 := hm z (by simp)
    have m4 := hm t (by simp)
    omega
theorem three_ok (s n c : Nat) (hn : 1 ≤ n) (hc : 1 ≤ c) (h : apart s n c = true) : (difTo (gaps s c n) (gaps s c n).length).length ≤ 3 ∧ (3 ≤ (difTo (gaps s c n) (gaps s c n).length).length → ix (difTo (gaps s c n) (gaps s c n).length) 0 + ix (difTo (gaps s c n) (gaps s c n).length) 1 = ix (difTo (gaps s c n) (gaps s c n).length) 2) := by
  obtain ⟨a, b, ha, hb, hab⟩ := gaps_three s n c hn hc h
  exact ris_three _ (difTo_ris _ _) a b ha hb (fun y hy => hab y (difTo_mem _ _ (Nat.le_refl _) y hy))
end Go.Proofs.YtpoekblolicehaaDoor
