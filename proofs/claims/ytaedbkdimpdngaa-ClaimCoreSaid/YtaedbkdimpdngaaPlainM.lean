/-
  Chapter 12 in plain words: the core as a list.
-/
import Derived.Test.YtaedbkdimpdngaaWalkAK
namespace Go.Proofs.Ytaedbkdimpdngaa
open Go.RowKit
theorem core_lt {m : Nat} {l : List Pr} (hva : validP (m : Int) l = true) {a b : Nat} (h : (dsp m l).core.att a b = true) : a < m ∧ b < m := by
  have h1 := (dsp_att m l a b).1 ((dsp m l).core_le h)
  have h2 : 0 ≤ (a : Int) ∧ (a : Int) < (m : Int) ∧ 0 ≤ (b : Int) ∧ (b : Int) < (m : Int) := by
    unfold validP at hva
    simp only [Bool.and_eq_true, List.all_eq_true] at hva
    exact of_decide_eq_true (hva.2 _ h1)
  omega
theorem mem_coreL (d : Dsp) (x y : Int) : (x, y) ∈ coreL d ↔ ∃ a b : Nat, a < d.n ∧ b < d.n ∧ d.core.att a b = true ∧ x = (a : Int) ∧ y = (b : Int) := by
  unfold coreL coreK rowK
  simp only [List.mem_flatMap, List.mem_range, List.mem_map, List.mem_filter, Prod.mk.injEq]
  constructor
  · rintro ⟨a, ha, b, ⟨hb, hc⟩, rfl, rfl⟩
    exact ⟨a, b, ha, hb, hc, rfl, rfl⟩
  · rintro ⟨a, b, ha, hb, hc, rfl, rfl⟩
    exact ⟨a, ha, b, ⟨hb, hc⟩, rfl, rfl⟩
theorem dsp_core {m : Nat} {l : List Pr} (hva : validP (m : Int) l = true) : dsp m (coreL (dsp m l)) = (dsp m l).core := by
  have h : (dsp m (coreL (dsp m l))).att = (dsp m l).core.att := by
    funext a b
    rw [Bool.eq_iff_iff, dsp_att, mem_coreL]
    constructor
    · rintro ⟨i, j, _, _, hc, e1, e2⟩
      have h1 : a = i := by omega
      have h2 : b = j := by omega
      rw [h1, h2]; exact hc
    · intro hc
      obtain ⟨h1, h2⟩ := core_lt hva hc
      exact ⟨a, b, h1, h2, hc, rfl, rfl⟩
  show (⟨m, (dsp m (coreL (dsp m l))).att⟩ : Dsp) = ⟨m, (dsp m l).core.att⟩
  rw [h]
theorem dsp_plus (m : Nat) (l q : List Pr) : dsp m (l ++ q) = (dsp m l).plus (dsp m q).att := by
  show (⟨m, (dsp m (l ++ q)).att⟩ : Dsp) = ⟨m, _⟩
  congr 1
  funext a b
  show (l ++ q).any _ = (l.any _ || q.any _)
  exact List.any_append
theorem coreL_core (d : Dsp) : coreL d.core = coreL d := by
  unfold coreL coreK rowK
  rw [d.core_core]
  rfl
theorem coreL_nodup (d : Dsp) : (coreL d).Nodup := by
  unfold coreL coreK rowK List.Nodup
  rw [List.pairwise_flatMap]
  constructor
  · intro a _
    rw [List.pairwise_map]
    refine List.Pairwise.imp ?_ (List.nodup_range.sublist List.filter_sublist)
    intro x y h e
    have := (Prod.mk.inj e).2
    omega
  · refine List.Pairwise.imp ?_ List.nodup_range
    intro a a' h x hx y hy e
    obtain ⟨i, _, rfl⟩ := List.mem_map.1 hx
    obtain ⟨j, _, rfl⟩ := List.mem_map.1 hy
    have := (Prod.mk.inj e).1
    omega
theorem coreL_sub {m : Nat} {l : List Pr} : ∀ p, p ∈ coreL (dsp m l) → p ∈ l := by
  rintro ⟨x, y⟩ h
  obtain ⟨a, b, _, _, hc, rfl, rfl⟩ := (mem_coreL _ x y).1 h
  exact (dsp_att m l a b).1 ((dsp m l).core_le hc)
theorem coreL_le (m : Nat) (l : List Pr) : (coreL (dsp m l)).length ≤ l.length := nodup_len (coreL_nodup _) coreL_sub
theorem valid_more {n : Int} {l : List Pr} {q : List Pr} (h1 : validP n l = true) (h2 : validP n q = true) (hl : l.length + q.length ≤ 40) : validP n (l ++ q) = true := by
  unfold validP at *
  simp only [Bool.and_eq_true, decide_eq_true_eq, List.all_eq_true] at *
  refine ⟨⟨h1.1.1, by rw [List.length_append]; exact hl⟩, fun p hp => ?_⟩
  rcases List.mem_append.1 hp with h | h
  · exact h1.2 p h
  · exact h2.2 p h
theorem valid_core {m : Nat} {l : List Pr} (h : validP (m : Int) l = true) : validP (m : Int) (coreL (dsp m l)) = true := by
  have hl := coreL_le m l
  unfold validP at *
  simp only [Bool.and_eq_true, decide_eq_true_eq, List.all_eq_true] at *
  exact ⟨⟨h.1.1, by omega⟩, fun p hp => h.2 p (coreL_sub p hp)⟩
/-- A6: whatever is added to both -/
theorem core_same {m : Nat} {l q : List Pr} (h : validP (m : Int) l = true) : (dsp m (coreL (dsp m l) ++ q)).pref = (dsp m (l ++ q)).pref ∧ (dsp m (coreL (dsp m l) ++ q)).ideal = (dsp m (l ++ q)).ideal := by
  rw [dsp_plus, dsp_plus, dsp_core h]
  exact ⟨(dsp m l).core_pref _, (dsp m l).core_ideal _⟩
theorem core_again {m : Nat} {l : List Pr} (h : validP (m : Int) l = true) : coreL (dsp m (coreL (dsp m l))) = coreL (dsp m l) := by rw [dsp_core h, coreL_core]
end Go.Proofs.Ytaedbkdimpdngaa
