/-
  Chapter 12 in plain words: one claim more.
-/
import Derived.Test.YtaedbkdimpdngaaBaseF
namespace Go.Proofs.Ytaedbkdimpdngaa
open Go.RowKit
theorem up_eq {x y : List Nat} (hx : x.Pairwise (· < ·)) (hy : y.Pairwise (· < ·)) (h : ∀ a, a ∈ x ↔ a ∈ y) : x = y := by
  have nd : ∀ {l : List Nat}, l.Pairwise (· < ·) → l.Nodup := fun hl => hl.imp fun h e => by omega
  have hp : x.Perm y := (List.perm_ext_iff_of_nodup (nd hx) (nd hy)).2 h
  exact hp.eq_of_pairwise (fun a b _ _ h1 h2 => by omega) hx hy
theorem mem_or (Q x a : Nat) (hx : x < 16) : a ∈ elems (Q ||| 2 ^ x) ↔ a ∈ elems Q ∨ a = x := by
  rw [mem_elems, mem_elems, Nat.testBit_or, Nat.testBit_two_pow, Bool.or_eq_true, decide_eq_true_iff]
  constructor
  · rintro ⟨h1, h2 | h2⟩
    · exact .inl ⟨h1, h2⟩
    · exact .inr h2.symm
  · rintro (⟨h1, h2⟩ | rfl)
    · exact ⟨h1, .inl h2⟩
    · exact ⟨hx, .inr rfl⟩
/-- one claim more, in its place -/
theorem elems_ins {Q x k : Nat} (hx : x < 16) (hn : Q.testBit x = false) (hk : k ≤ (elems Q).length) (h1 : ∀ i, i < k → (elems Q).getD i 0 < x) (h2 : k < (elems Q).length → x ≤ (elems Q).getD k 0) :
    elems (Q ||| 2 ^ x) = (elems Q).take k ++ [x] ++ (elems Q).drop k := by
  have hup := elems_up Q
  have hg : ∀ i (h : i < (elems Q).length), (elems Q).getD i 0 = (elems Q)[i] := fun i h => by rw [List.getD_eq_getElem?_getD, List.getElem?_eq_getElem h]; rfl
  have hA : ∀ a, a ∈ (elems Q).take k → a < x := fun a ha => by
    obtain ⟨i, hi, rfl⟩ := List.mem_take_iff_getElem.1 ha
    rw [← hg i (by omega)]
    exact h1 i (by omega)
  have hB : ∀ a, a ∈ (elems Q).drop k → x < a := fun a ha => by
    obtain ⟨i, hi, rfl⟩ := List.mem_drop_iff_getElem.1 ha
    have hkl : k < (elems Q).length := by omega
    have h3 := h2 hkl
    rw [hg k hkl] at h3
    have hne : ∀ b, b ∈ elems Q → b ≠ x := fun b hb e => by
      rw [e, mem_elems] at hb
      rw [hn] at hb
      cases hb.2
    have h4 := hne _ (List.getElem_mem hkl)
    have h5 : (elems Q)[k] ≤ (elems Q)[k + i] := by
      by_cases e : i = 0
      · subst e; exact Nat.le_refl _
      · exact Nat.le_of_lt (List.pairwise_iff_getElem.1 hup k (k + i) hkl (by omega) (by omega))
    omega
  refine up_eq (elems_up _) ?_ fun a => ?_
  · rw [List.append_assoc, List.pairwise_append]
    refine ⟨hup.sublist (List.take_sublist _ _), ?_, ?_⟩
    · rw [List.singleton_append, List.pairwise_cons]
      exact ⟨fun b hb => hB b hb, hup.sublist (List.drop_sublist _ _)⟩
    · intro p hp q hq
      have h3 := hA p hp
      simp only [List.singleton_append, List.mem_cons] at hq
      rcases hq with rfl | hq
      · exact h3
      · have := hB q hq; omega
  · rw [mem_or Q x a hx]
    have : a ∈ elems Q ↔ a ∈ (elems Q).take k ∨ a ∈ (elems Q).drop k := by
      rw [← List.mem_append, List.take_append_drop]
    rw [this]
    simp only [List.mem_append, List.mem_singleton]
    constructor
    · rintro ((h | h) | h)
      · exact .inl (.inl h)
      · exact .inr h
      · exact .inl (.inr h)
    · rintro ((h | h) | h)
      · exact .inl (.inl h)
      · exact .inr h
      · exact .inl (.inr h)
theorem elems_snoc {Q x : Nat} (hx : x < 16) (h : Q < 2 ^ x) : elems (Q ||| 2 ^ x) = elems Q ++ [x] := by
  have := elems_ins (Q := Q) (x := x) (k := (elems Q).length) hx (Nat.testBit_lt_two_pow h) (Nat.le_refl _) (fun i hi => by
    have hm : (elems Q).getD i 0 ∈ elems Q := by rw [List.getD_eq_getElem?_getD, List.getElem?_eq_getElem hi]; exact List.getElem_mem hi
    exact elems_lt h _ hm) (fun h => absurd h (Nat.lt_irrefl _))
  rw [this, List.take_length, List.drop_length, List.append_nil]
end Go.Proofs.Ytaedbkdimpdngaa
