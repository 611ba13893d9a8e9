/-
  Chapter 12 in plain words: other names of the claims.
-/
import Derived.Test.YtaedbkdimpdngaaPlainD
namespace Go.Proofs.Ytaedbkdimpdngaa
/-- k farther on a circle -/
def rot (n k i : Nat) : Nat := if i + k < n then i + k else i + k - n
/-- k back -/
def tor (n k i : Nat) : Nat := if k ≤ i then i - k else i + n - k
section
variable {n k : Nat}
theorem rot_mod {i : Nat} (hi : i < n) (hk : k < n) : (i + k) % n = rot n k i := by
  unfold rot
  split
  · exact Nat.mod_eq_of_lt ‹_›
  · rw [Nat.mod_eq_sub_mod (by omega), Nat.mod_eq_of_lt (by omega)]
theorem rot_lt {i : Nat} (hi : i < n) (hk : k < n) : rot n k i < n := by unfold rot; split <;> omega
theorem tor_lt {i : Nat} (hi : i < n) (hk : k < n) : tor n k i < n := by unfold tor; split <;> omega
theorem tor_rot {i : Nat} (hi : i < n) (hk : k < n) : tor n k (rot n k i) = i := by unfold tor rot; split <;> split <;> omega
theorem rot_tor {i : Nat} (hi : i < n) (hk : k < n) : rot n k (tor n k i) = i := by unfold tor rot; split <;> split <;> omega
/-- a set by other names -/
def mv (n k s : Nat) : Nat := mask (fun x => s.testBit (tor n k x)) n
theorem mv_lt (s : Nat) : mv n k s < 2 ^ n := mask_lt _ _
theorem mv_bit (s : Nat) {i : Nat} (hi : i < n) (hk : k < n) : (mv n k s).testBit (rot n k i) = s.testBit i := by
  unfold mv
  rw [mask_bit, decide_eq_true (rot_lt hi hk), tor_rot hi hk]; rfl
theorem ext_lt {s t : Nat} (hs : s < 2 ^ n) (ht : t < 2 ^ n) (h : ∀ i, i < n → s.testBit i = t.testBit i) : s = t := by
  refine Nat.eq_of_testBit_eq fun i => ?_
  by_cases hi : i < n
  · exact h i hi
  · rw [Nat.testBit_lt_two_pow (Nat.lt_of_lt_of_le hs (Nat.pow_le_pow_right (by omega) (by omega))), Nat.testBit_lt_two_pow (Nat.lt_of_lt_of_le ht (Nat.pow_le_pow_right (by omega) (by omega)))]
theorem mv_ext {s t : Nat} (hk : k < n) (ht : t < 2 ^ n) (h : ∀ i, i < n → t.testBit (rot n k i) = s.testBit i) : t = mv n k s := by
  refine ext_lt ht (mv_lt s) fun x hx => ?_
  have h1 := h (tor n k x) (tor_lt hx hk)
  have h2 := mv_bit s (tor_lt hx hk) hk
  rw [rot_tor hx hk] at h1 h2
  rw [h1, h2]
theorem mv_sub {s t : Nat} (hk : k < n) (hs : s < 2 ^ n) : sub (mv n k s) (mv n k t) = true ↔ sub s t = true := by
  rw [sub_iff, sub_iff]
  constructor
  · intro h i hi
    have hin := bit_lt hs hi
    have := h (rot n k i) (by rw [mv_bit s hin hk]; exact hi)
    rwa [mv_bit t hin hk] at this
  · intro h x hx
    have hxn := bit_lt (mv_lt s) hx
    have e := rot_tor hxn hk
    rw [← e, mv_bit s (tor_lt hxn hk) hk] at hx
    rw [← e, mv_bit t (tor_lt hxn hk) hk]
    exact h _ hx
theorem mv_inj {s t : Nat} (hk : k < n) (hs : s < 2 ^ n) (ht : t < 2 ^ n) (h : mv n k s = mv n k t) : s = t :=
  ext_lt hs ht fun i hi => by rw [← mv_bit s hi hk, ← mv_bit t hi hk, h]
theorem mv_surj {t : Nat} (hk : k < n) (ht : t < 2 ^ n) : ∃ s, s < 2 ^ n ∧ mv n k s = t := by
  refine ⟨mask (fun i => t.testBit (rot n k i)) n, mask_lt _ _, (mv_ext hk ht fun i hi => ?_).symm⟩
  rw [mask_bit, decide_eq_true hi]; rfl
end
/-- one dispute by other names -/
structure Moved (d e : Dsp) (k : Nat) : Prop where
  k_lt : k < d.n
  n : e.n = d.n
  att : ∀ a b, a < d.n → b < d.n → e.att (rot d.n k a) (rot d.n k b) = d.att a b
section
variable {d e : Dsp} {k : Nat} (h : Moved d e k)
include h
theorem Moved.hit (s : Nat) : e.hit (mv d.n k s) = mv d.n k (d.hit s) := by
  refine mv_ext h.k_lt (by rw [← h.n]; exact e.hit_lt _) fun i hi => ?_
  rw [Bool.eq_iff_iff, e.hit_iff, d.hit_iff, h.n]
  constructor
  · rintro ⟨_, a, ha, h1, h2⟩
    have e1 := rot_tor ha h.k_lt
    rw [← e1] at h1 h2
    rw [mv_bit s (tor_lt ha h.k_lt) h.k_lt] at h1
    rw [h.att _ _ (tor_lt ha h.k_lt) hi] at h2
    exact ⟨hi, _, tor_lt ha h.k_lt, h1, h2⟩
  · rintro ⟨_, a, ha, h1, h2⟩
    exact ⟨rot_lt hi h.k_lt, _, rot_lt ha h.k_lt, by rw [mv_bit s ha h.k_lt]; exact h1, by rw [h.att _ _ ha hi]; exact h2⟩
theorem Moved.dfd (s : Nat) : e.dfd (mv d.n k s) = mv d.n k (d.dfd s) := by
  refine mv_ext h.k_lt (by rw [← h.n]; exact e.dfd_lt _) fun i hi => ?_
  rw [Bool.eq_iff_iff, e.dfd_iff, d.dfd_iff, h.n, h.hit]
  constructor
  · rintro ⟨_, h1⟩
    refine ⟨hi, fun j hj hji => ?_⟩
    have := h1 _ (rot_lt hj h.k_lt) (by rw [h.att _ _ hj hi]; exact hji)
    rwa [mv_bit _ hj h.k_lt] at this
  · rintro ⟨_, h1⟩
    refine ⟨rot_lt hi h.k_lt, fun j hj hji => ?_⟩
    have e1 := rot_tor hj h.k_lt
    rw [← e1] at hji ⊢
    rw [h.att _ _ (tor_lt hj h.k_lt) hi] at hji
    rw [mv_bit _ (tor_lt hj h.k_lt) h.k_lt]
    exact h1 _ (tor_lt hj h.k_lt) hji
theorem Moved.cf {s : Nat} (hs : s < 2 ^ d.n) : e.cf (mv d.n k s) = d.cf s := by
  rw [Bool.eq_iff_iff, e.cf_iff, d.cf_iff, h.hit]
  constructor
  · intro h1 i hi
    have hin := bit_lt hs hi
    have := h1 (rot d.n k i) (by rw [mv_bit s hin h.k_lt]; exact hi)
    rwa [mv_bit _ hin h.k_lt] at this
  · intro h1 x hx
    have hxn := bit_lt (mv_lt s) hx
    have e1 := rot_tor hxn h.k_lt
    rw [← e1, mv_bit _ (tor_lt hxn h.k_lt) h.k_lt] at hx
    rw [← e1, mv_bit _ (tor_lt hxn h.k_lt) h.k_lt]
    exact h1 _ hx
theorem Moved.adm {s : Nat} (hs : s < 2 ^ d.n) : e.adm (mv d.n k s) = d.adm s := by
  rw [Bool.eq_iff_iff, e.adm_iff, d.adm_iff, h.cf hs, h.dfd, mv_sub h.k_lt hs]
theorem Moved.comp {s : Nat} (hs : s < 2 ^ d.n) : e.comp (mv d.n k s) = d.comp s := by
  rw [Bool.eq_iff_iff, e.comp_iff, d.comp_iff, h.cf hs, h.dfd]
  refine and_congr_right fun _ => ⟨fun h1 => mv_inj h.k_lt (d.dfd_lt s) hs h1, fun h1 => by rw [h1]⟩
theorem Moved.perm {p q : Nat → Bool} (hp : ∀ s, s < 2 ^ d.n → q (mv d.n k s) = p s) : (e.alls q).Perm ((d.alls p).map (mv d.n k)) := by
  refine (List.perm_ext_iff_of_nodup (List.nodup_range.sublist List.filter_sublist) ?_).2 fun t => ?_
  · refine List.pairwise_map.2 ?_
    refine List.Pairwise.imp_of_mem (fun {a b} ha hb hne => ?_) (List.nodup_range.sublist (List.filter_sublist (p := p) (l := List.range (2 ^ d.n))))
    intro e1
    exact hne (mv_inj h.k_lt ((d.mem_alls _ _).1 ha).1 ((d.mem_alls _ _).1 hb).1 e1)
  · show t ∈ e.alls q ↔ _
    rw [e.mem_alls, List.mem_map, h.n]
    constructor
    · rintro ⟨h1, h2⟩
      obtain ⟨s, h3, rfl⟩ := mv_surj h.k_lt h1
      exact ⟨s, (d.mem_alls _ _).2 ⟨h3, by rw [← hp s h3]; exact h2⟩, rfl⟩
    · rintro ⟨s, h1, rfl⟩
      have h2 := (d.mem_alls _ _).1 h1
      exact ⟨mv_lt s, by rw [hp s h2.1]; exact h2.2⟩
theorem Moved.comps : e.comps.Perm (d.comps.map (mv d.n k)) := h.perm fun _ hs => h.comp hs
theorem Moved.pref : e.pref.Perm (d.pref.map (mv d.n k)) := by
  have h1 : e.pref = e.alls fun s => decide (s ∈ e.pref) := by
    have e1 := e.pref_filter
    conv => lhs; rw [e1]
    unfold Dsp.alls
    refine List.filter_congr fun x hx => ?_
    rw [Bool.eq_iff_iff, decide_eq_true_eq]
    conv => rhs; rw [e1]
    rw [List.mem_filter]
    exact ⟨fun h2 => ⟨hx, h2⟩, fun h2 => h2.2⟩
  have h2 : d.pref = d.alls fun s => decide (s ∈ d.pref) := by
    have e1 := d.pref_filter
    conv => lhs; rw [e1]
    unfold Dsp.alls
    refine List.filter_congr fun x hx => ?_
    rw [Bool.eq_iff_iff, decide_eq_true_eq]
    conv => rhs; rw [e1]
    rw [List.mem_filter]
    exact ⟨fun h2 => ⟨hx, h2⟩, fun h2 => h2.2⟩
  rw [h1, h2]
  refine h.perm fun s hs => ?_
  rw [decide_eq_decide, e.mem_pref, d.mem_pref, h.adm hs]
  refine and_congr_right fun ha => ?_
  constructor
  · intro h3 t ht hst
    have htl := d.adm_lt ht
    exact mv_inj h.k_lt htl hs (h3 _ (by rw [h.adm htl]; exact ht) ((mv_sub h.k_lt hs).2 hst))
  · intro h3 t ht hst
    have htl := e.adm_lt ht
    rw [h.n] at htl
    obtain ⟨u, hu, rfl⟩ := mv_surj h.k_lt htl
    rw [h.adm hu] at ht
    rw [h3 u ht ((mv_sub h.k_lt hs).1 hst)]
end
end Go.Proofs.Ytaedbkdimpdngaa
