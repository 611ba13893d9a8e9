/-
  Words for the faces of the braid.
-/
import Derived.Test.YtppkgilpmmhpoaaDoorWalkC
import Derived.Test.YtppkgilpmmhpoaaDoorBaseC
namespace Go.Proofs.YtppkgilpmmhpoaaDoor
open Go.RowKit
/-- a step's value -/
def cv (n c : Nat) : Value := .int .i64 ((c : Int) - ((2 * n : Nat) : Int))
def cz (n c : Nat) : Int := (c : Int) - ((2 * n : Nat) : Int)
def IsFL (n : Nat) (w : World) (v : Value) (Ls : List (List Nat)) : Prop :=
  ∃ us : List Value, us.length = Ls.length ∧ IsV w v us ∧ ∀ j, j < Ls.length → IsV w (us.getD j undef) ((Ls.getD j []).map (cv n))
theorem isFL_below {n : Nat} {w w' : World} {v : Value} {Ls : List (List Nat)} (h : IsFL n w v Ls) (hb : Below w.heap.size w w') : IsFL n w' v Ls := by
  obtain ⟨us, h1, h2, h3⟩ := h
  exact ⟨us, h1, isV_below h2 hb, fun j hj => isV_below (h3 j hj) hb⟩
/-- the call's own row of own lists -/
def OwnFL (n : Nat) (w : World) (B : Nat) (v : Value) (us : List Value) (Ls : List (List Nat)) : Prop :=
  us.length = Ls.length ∧ OwnV w B 22 v us ∧ ∀ j, j < Ls.length → OwnV w B 3 (us.getD j undef) ((Ls.getD j []).map (cv n))
theorem ownFL_isLL {n : Nat} {w : World} {B : Nat} {v : Value} {us : List Value} {Ls : List (List Nat)} (h : OwnFL n w B v us Ls) (h1 : Ls.length ≤ 1000000) (h2 : ∀ l, l ∈ Ls → l.length ≤ 1000000) : IsFL n w v Ls := by
  obtain ⟨g1, g2, g3⟩ := h
  refine ⟨us, g1, ownV_isV g2 (by omega), fun j hj => ownV_isV (g3 j hj) ?_⟩
  rw [List.length_map, List.getD_eq_getElem?_getD, List.getElem?_eq_getElem hj]
  exact h2 _ (List.getElem_mem hj)
theorem ownFL_nil (n : Nat) (w : World) (B : Nat) : OwnFL n w B (.slice none 0 0) [] [] := ⟨rfl, ownV_nil _ _ _, fun j hj => absurd hj (Nat.not_lt_zero _)⟩
theorem ownFL_below {n : Nat} {w w' : World} {B : Nat} {v : Value} {us : List Value} {Ls : List (List Nat)} (h : OwnFL n w B v us Ls) (hb : Below w.heap.size w w') : OwnFL n w' B v us Ls :=
  ⟨h.1, ownV_below h.2.1 hb, fun j hj => ownV_below (h.2.2 j hj) hb⟩
theorem ownFL_app {n : Nat} {w w' : World} {B : Nat} {v v' u : Value} {us : List Value} {Ls : List (List Nat)} {x : List Nat} (h : OwnFL n w B v us Ls) (hx : OwnV w B 3 u (x.map (cv n))) (ho : OwnV w' B 22 v' (us ++ [u])) (hg : w.grownBy w' v.ownBlock) : OwnFL n w' B v' (us ++ [u]) (Ls ++ [x]) := by
  obtain ⟨h1, h2, h3⟩ := h
  have kept : ∀ {q : Value} {ys : List Value}, OwnV w B 3 q ys → OwnV w' B 3 q ys := fun hq => row_other hq hg (fun k hk => row_type h2 k hk) (by decide)
  refine ⟨by simp [h1], ho, fun j hj => ?_⟩
  rw [List.length_append, List.length_singleton] at hj
  by_cases e : j < Ls.length
  · rw [getD_snoc _ _ _ _ (by rw [h1]; exact e), getD_snoc _ _ _ _ e]
    exact kept (h3 j e)
  · obtain rfl : j = Ls.length := by omega
    rw [getD_last, ← h1, getD_last]
    exact kept hx

theorem setW_ne {W : World} {b B : Nat} {L : List Int} {e : TypeId} {v : Value} {xs : List Value} (h : SetW W b L) (ho : OwnV W B e v xs) : ∀ k, v.ownBlock = some k → k ≠ b := fun k hk e2 => by
  obtain ⟨D, ⟨es, clock, hh, _⟩, _⟩ := h
  obtain ⟨cs, hc⟩ := row_type ho k hk
  rw [e2, hh] at hc
  cases hc
/-- what has been seen: as codes, as a mask -/
def Seen (n s : Nat) (L : List Nat) : Prop := L.Nodup ∧ (∀ c, c ∈ L → c < 4 * n) ∧ ∀ c, c < 4 * n → s.testBit c = L.contains c
theorem seen_nil (n : Nat) : Seen n 0 [] := ⟨List.nodup_nil, fun c hc => by simp at hc, fun c _ => by simp⟩
theorem seen_more {n s c : Nat} {L : List Nat} (h : Seen n s L) (hc : c < 4 * n) (hn : s.testBit c = false) : Seen n (s ||| 2 ^ c) (L ++ [c]) := by
  obtain ⟨h1, h2, h3⟩ := h
  have hm : c ∉ L := by
    have := h3 c hc
    rw [hn] at this
    simpa using this.symm
  refine ⟨?_, fun d hd => ?_, fun d hd => ?_⟩
  · rw [List.nodup_append]
    refine ⟨h1, by simp, fun a ha b hb e => ?_⟩
    simp at hb
    rw [e, hb] at ha
    exact hm ha
  · rcases List.mem_append.1 hd with h | h
    · exact h2 d h
    · simp at h; rw [h]; exact hc
  · rw [Nat.testBit_or, Nat.testBit_two_pow, h3 d hd, Bool.eq_iff_iff]
    simp only [Bool.or_eq_true, decide_eq_true_eq, List.contains_eq_mem, List.mem_append, List.mem_singleton]
    constructor
    · rintro (h | h)
      · exact .inl h
      · exact .inr h.symm
    · rintro (h | h)
      · exact .inl h
      · exact .inr h.symm
theorem nodup_len : ∀ {l m : List Nat}, l.Nodup → (∀ x, x ∈ l → x ∈ m) → l.length ≤ m.length
  | [], m, _, _ => Nat.zero_le _
  | a :: l, m, hn, hs => by
    have ha := hs a (List.mem_cons_self ..)
    have hn2 := List.nodup_cons.1 hn
    have := nodup_len (l := l) (m := m.erase a) hn2.2 fun x hx => (List.mem_erase_of_ne fun e => hn2.1 (by rw [← e]; exact hx)).2 (hs x (List.mem_cons_of_mem _ hx))
    rw [List.length_erase_of_mem ha] at this
    have h0 : 0 < m.length := List.length_pos_of_mem ha
    simp only [List.length_cons]; omega
theorem seen_len {n s : Nat} {L : List Nat} (h : Seen n s L) : L.length ≤ 4 * n := by
  have := nodup_len (m := List.range (4 * n)) h.1 fun x hx => List.mem_range.2 (h.2.1 x hx)
  rwa [List.length_range] at this
theorem seen_less {n s c : Nat} {L : List Nat} (h : Seen n s L) (hc : c < 4 * n) (hn : s.testBit c = false) : L.length < 4 * n := by
  have := seen_len (seen_more h hc hn)
  rw [List.length_append] at this
  simp at this; omega
theorem cz_inj {n a b : Nat} (h : cz n a = cz n b) : a = b := by unfold cz at h; omega
theorem cz_mem {n c : Nat} {L : List Nat} : cz n c ∈ L.map (cz n) ↔ c ∈ L := by
  rw [List.mem_map]
  exact ⟨fun ⟨d, hd, e⟩ => cz_inj e ▸ hd, fun h => ⟨c, h, rfl⟩⟩
theorem cz_in {n c : Nat} (hn : n ≤ 10) (hc : c < 4 * n) : InR (cz n c) := wf64 (by unfold cz; omega)
theorem nxt_lt {n sg c : Nat} (hn : 1 ≤ n) (hc : c < 4 * n) : nxt n sg c < 4 * n := by
  have hp := pl_lt hn hc
  have hx : pl n c % n < n := Nat.mod_lt _ (by omega)
  unfold nxt stp
  simp only
  generalize pl n c % n = x at *
  generalize (if (sg.testBit x) = true then _ else _ : Nat) = t
  have ha : (if 2 ≤ t then n + x else x) < 2 * n := by split <;> omega
  generalize (if 2 ≤ t then n + x else x : Nat) = away at *
  split
  · omega
  · omega
theorem look68 {W : World} {M n s c : Nat} {L : List Nat} (hS : SetW W M (L.map (cz n))) (hs : Seen n s L) (hn : n ≤ 10) (hc : c < 4 * n) : (Instr.lookup 68 (.map (some M)) (.int .i64 (cz n c)) false).run Tryd.prog W = .ok (.bool (s.testBit c)) W := by
  rw [setW_look hS (cz_in hn hc), hs.2.2 c hc]
  congr 2
  rw [List.contains_eq_mem]
  exact decide_eq_decide.2 cz_mem
end Go.Proofs.YtppkgilpmmhpoaaDoor
