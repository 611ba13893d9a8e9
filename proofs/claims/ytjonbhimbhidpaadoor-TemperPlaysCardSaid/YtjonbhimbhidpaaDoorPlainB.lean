/-
  Chapter 6 in plain words: what a valid oven is.
-/
import Derived.Test.YtjonbhimbhidpaaDoorPlainA
namespace Go.Proofs.YtjonbhimbhidpaaDoor

def dotx (c : UInt8) : Bool := c == 46 || c == 35
def rowOk (C : Nat) (s : Str) : Bool := decide (s.length = C) && s.all dotx
def rowsOk (C : Nat) (p : List Str) : Bool := p.all (rowOk C)
def phaseOk (R C : Nat) (p : List Str) : Bool := decide (p.length = R) && rowsOk C p
def formB (P R C : Nat) (g : Grid) : Bool := decide (g.length = P) && g.all (phaseOk R C)
def within5 (x : Int) : Bool := decide (-5 ≤ x ∧ x ≤ 5)
def mvOk (P : Nat) (m : Mv) : Bool := decide (0 ≤ m.1 ∧ m.1 < P ∧ 0 ≤ m.2.1 ∧ m.2.1 < P) && within5 m.2.2.1 && within5 m.2.2.2
def jlOk (j : Int × Int) : Bool := within5 j.1 && within5 j.2
/-- an oven is valid -/
def Ov.valid (o : Ov) : Bool :=
  decide (1 ≤ o.P ∧ o.P ≤ 4 ∧ 1 ≤ o.R ∧ o.R ≤ 16 ∧ 1 ≤ o.C ∧ o.C ≤ 16 ∧ o.moves.length ≤ 16 ∧ 1 ≤ o.jolts.length ∧ o.jolts.length ≤ 4) && formB o.P o.R o.C o.safe && o.moves.all (mvOk o.P) && o.jolts.all jlOk

structure Ov.Ok (o : Ov) : Prop where
  p : 1 ≤ o.P ∧ o.P ≤ 4
  r : 1 ≤ o.R ∧ o.R ≤ 16
  c : 1 ≤ o.C ∧ o.C ≤ 16
  nm : o.moves.length ≤ 16
  nj : 1 ≤ o.jolts.length ∧ o.jolts.length ≤ 4
  form : formB o.P o.R o.C o.safe = true
  mv : ∀ m ∈ o.moves, mvOk o.P m = true
  jl : ∀ j ∈ o.jolts, jlOk j = true
theorem ok_of_valid {o : Ov} (h : o.valid = true) : o.Ok := by
  unfold Ov.valid at h
  simp only [Bool.and_eq_true, decide_eq_true_eq, List.all_eq_true] at h
  obtain ⟨⟨⟨⟨h1, h2, h3, h4, h5, h6, h7, h8, h9⟩, hf⟩, hm⟩, hj⟩ := h
  exact ⟨⟨h1, h2⟩, ⟨h3, h4⟩, ⟨h5, h6⟩, h7, ⟨h8, h9⟩, hf, hm, hj⟩
theorem form_row {P R C : Nat} {g : Grid} (h : formB P R C g = true) (p y : Nat) (hp : p < P) (hy : y < R) : (rowAt g p y).length = C ∧ (rowAt g p y).all dotx = true ∧ p < g.length ∧ y < (g.getD p []).length := by
  unfold formB at h
  simp only [Bool.and_eq_true, decide_eq_true_eq, List.all_eq_true] at h
  have hpg : p < g.length := by omega
  have e1 : g.getD p [] = g[p] := by simp [hpg]
  have h2 := h.2 g[p] (List.getElem_mem hpg)
  unfold phaseOk rowsOk at h2
  simp only [Bool.and_eq_true, decide_eq_true_eq, List.all_eq_true] at h2
  have hyg : y < g[p].length := by omega
  have h3 := h2.2 g[p][y] (List.getElem_mem hyg)
  unfold rowOk at h3
  simp only [Bool.and_eq_true, decide_eq_true_eq] at h3
  unfold rowAt
  rw [e1]
  have e2 : g[p].getD y [] = g[p][y] := by simp [hyg]
  rw [e2]
  exact ⟨h3.1, h3.2, hpg, hyg⟩
theorem form_len {P R C : Nat} {g : Grid} (h : formB P R C g = true) : g.length = P := by
  unfold formB at h
  simp only [Bool.and_eq_true, decide_eq_true_eq] at h
  exact h.1
theorem mv_ok {o : Ov} (h : o.Ok) (k : Nat) (hk : k < o.moves.length) : (0 ≤ o.moves[k].1 ∧ o.moves[k].1 < o.P) ∧ (0 ≤ o.moves[k].2.1 ∧ o.moves[k].2.1 < o.P) ∧ (-5 ≤ o.moves[k].2.2.1 ∧ o.moves[k].2.2.1 ≤ 5) ∧ (-5 ≤ o.moves[k].2.2.2 ∧ o.moves[k].2.2.2 ≤ 5) := by
  have := h.mv _ (List.getElem_mem hk)
  unfold mvOk within5 at this
  simp only [Bool.and_eq_true, decide_eq_true_eq] at this
  omega
theorem jl_ok {o : Ov} (h : o.Ok) (k : Nat) (hk : k < o.jolts.length) : (-5 ≤ o.jolts[k].1 ∧ o.jolts[k].1 ≤ 5) ∧ (-5 ≤ o.jolts[k].2 ∧ o.jolts[k].2 ≤ 5) := by
  have := h.jl _ (List.getElem_mem hk)
  unfold jlOk within5 at this
  simp only [Bool.and_eq_true, decide_eq_true_eq] at this
  omega
end Go.Proofs.YtjonbhimbhidpaaDoor
