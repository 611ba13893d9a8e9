/-
  Chapter 6 in plain words: what the rounds of the kernel do to its set and its losses, cell by cell.
-/
import Derived.Test.YtjonbhimbhidpaaDoorPlainB
namespace Go.Proofs.YtjonbhimbhidpaaDoor

def Ov.lostE (o : Ov) (k : Nat) (c : Sp) : Option Nat := if o.ex c then o.lost k c else none
def Ov.ker (o : Ov) (k : Nat) : List Sp := o.cells.filter (o.K k)
def Ov.outF (o : Ov) (k : Nat) (c : Sp) : Bool := o.K k c && !o.canM (o.K k) c
def Ov.outL (o : Ov) (k : Nat) : List Sp := o.cells.filter (o.outF k)
def Ov.inL (o : Ov) (k i : Nat) : List Sp := o.cells.filter fun c => o.K k c && !decide (c ∈ (o.outL k).take i)
def Ov.lostI (o : Ov) (k i : Nat) (c : Sp) : Option Nat := if c ∈ (o.outL k).take i then some (k + 1) else o.lostE k c
def Ov.first (o : Ov) (i : Nat) (c : Sp) : Option Nat := if decide (c ∈ o.cells.take i) && !decide (c ∈ o.ker 0) then some 0 else none

theorem mem_ker (o : Ov) (k : Nat) (c : Sp) : c ∈ o.ker k ↔ o.K k c = true := by
  unfold Ov.ker
  rw [List.mem_filter, mem_cells]
  exact ⟨fun h => h.2, fun h => ⟨K_ex o k c h, h⟩⟩
theorem dec_ker (o : Ov) (k : Nat) : (fun d => decide (d ∈ o.ker k)) = o.K k := by
  funext d
  rw [Bool.eq_iff_iff, decide_eq_true_eq, mem_ker]
theorem mem_outL (o : Ov) (k : Nat) (c : Sp) : c ∈ o.outL k ↔ o.outF k c = true := by
  unfold Ov.outL
  rw [List.mem_filter, mem_cells]
  refine ⟨fun h => h.2, fun h => ⟨?_, h⟩⟩
  unfold Ov.outF at h
  simp only [Bool.and_eq_true] at h
  exact K_ex o k c h.1
theorem nodup_outL (o : Ov) (k : Nat) : (o.outL k).Nodup := (nodup_cells o).filter _
theorem ker0 (o : Ov) : o.cells.filter (inG o.safe) = o.ker 0 := by
  unfold Ov.ker
  refine List.filter_congr fun c hc => ?_
  rw [mem_cells] at hc
  simp [Ov.K, hc]
theorem take_cells' (o : Ov) (i : Nat) (h : i < o.N) : o.cells.take (i + 1) = o.cells.take i ++ [o.cellAt i] := by
  rw [List.take_add_one]
  simp [Ov.cells, h]
theorem first_zero (o : Ov) : o.first 0 = fun _ => none := by funext c; simp [Ov.first]
theorem first_succ (o : Ov) (i : Nat) (h : i < o.N) : (if o.cellAt i ∈ o.ker 0 then o.first i else fun d => if d = o.cellAt i then some 0 else o.first i d) = o.first (i + 1) := by
  funext c
  unfold Ov.first
  rw [take_cells' o i h]
  by_cases hk : o.cellAt i ∈ o.ker 0
  · rw [if_pos hk]
    by_cases e : c = o.cellAt i
    · subst e; simp [hk]
    · simp [e]
  · rw [if_neg hk]
    by_cases e : c = o.cellAt i
    · subst e; simp [hk]
    · simp [e]
theorem first_end (o : Ov) : o.first o.N = o.lostE 0 := by
  funext c
  unfold Ov.first Ov.lostE
  rw [List.take_of_length_le (by simp [Ov.cells])]
  simp only [Ov.lost]
  by_cases h : o.ex c = true
  · by_cases h2 : o.K 0 c = true
    · simp [mem_cells, mem_ker, h, h2]
    · simp [mem_cells, mem_ker, h, h2]
  · simp [mem_cells, h]
theorem inL_zero (o : Ov) (k : Nat) : o.inL k 0 = o.ker k := by simp [Ov.inL, Ov.ker]
theorem inL_end (o : Ov) (k : Nat) : o.inL k (o.outL k).length = o.ker (k + 1) := by
  unfold Ov.inL Ov.ker
  refine List.filter_congr fun c hc => ?_
  rw [List.take_length]
  simp only [Ov.K, mem_outL, Ov.outF]
  cases o.K k c <;> simp
theorem out_take_succ (o : Ov) (k i : Nat) (h : i < (o.outL k).length) : (o.outL k).take (i + 1) = (o.outL k).take i ++ [(o.outL k)[i]] := by
  rw [List.take_add_one]; simp [h]
theorem mem_out_succ (o : Ov) (k i : Nat) (h : i < (o.outL k).length) (c : Sp) : c ∈ (o.outL k).take (i + 1) ↔ c ∈ (o.outL k).take i ∨ c = (o.outL k)[i] := by
  rw [out_take_succ o k i h, List.mem_append, List.mem_singleton]
theorem out_not_mem (o : Ov) (k i : Nat) (h : i < (o.outL k).length) : (o.outL k)[i] ∉ (o.outL k).take i := by
  have h2 : ((o.outL k).take (i + 1)).Nodup := (nodup_outL o k).sublist (List.take_sublist _ _)
  rw [out_take_succ o k i h, List.nodup_append] at h2
  intro hm
  exact h2.2.2 _ hm _ (by simp) rfl
theorem out_mem (o : Ov) (k i : Nat) (h : i < (o.outL k).length) : (o.outL k)[i] ∈ o.inL k i := by
  have h1 := (mem_outL o k _).1 (List.getElem_mem h)
  have h2 := out_not_mem o k i h
  unfold Ov.outF at h1
  simp only [Bool.and_eq_true] at h1
  unfold Ov.inL
  rw [List.mem_filter, mem_cells]
  exact ⟨K_ex o k _ h1.1, by simp [h1.1, h2]⟩
theorem inL_succ (o : Ov) (k i : Nat) (h : i < (o.outL k).length) : (o.inL k i).erase (o.outL k)[i] = o.inL k (i + 1) := by
  unfold Ov.inL
  rw [List.Nodup.erase_eq_filter ((nodup_cells o).filter _), List.filter_filter]
  refine List.filter_congr fun c hc => ?_
  have hm := mem_out_succ o k i h c
  generalize (o.outL k)[i] = q at *
  by_cases e : c = q
  · simp [e] at hm; simp [e, hm]
  · simp [e] at hm; simp [e, hm]
theorem lostI_zero (o : Ov) (k : Nat) : o.lostI k 0 = o.lostE k := by funext c; simp [Ov.lostI]
theorem lostI_succ (o : Ov) (k i : Nat) (h : i < (o.outL k).length) : (fun d => if d = (o.outL k)[i] then some (k + 1) else o.lostI k i d) = o.lostI k (i + 1) := by
  funext c
  unfold Ov.lostI
  have hm := mem_out_succ o k i h c
  generalize (o.outL k)[i] = q at *
  by_cases e : c = q
  · simp [e] at hm; simp [e, hm]
  · simp [e] at hm; simp [e, hm]
theorem lostI_end (o : Ov) (k : Nat) : o.lostI k (o.outL k).length = o.lostE (k + 1) := by
  funext c
  unfold Ov.lostI Ov.lostE
  rw [List.take_length]
  have h0 := lost_none o k c
  by_cases h : c ∈ o.outL k
  · rw [if_pos h]
    have h1 := (mem_outL o k c).1 h
    unfold Ov.outF at h1
    simp only [Bool.and_eq_true, Bool.not_eq_true'] at h1
    rw [K_ex o k c h1.1]
    simp only [Ov.lost, h0.2 h1.1]
    simp [Ov.K, h1.2]
  · rw [if_neg h]
    have h1 : o.outF k c = false := by
      cases e : o.outF k c
      · rfl
      · exact absurd ((mem_outL o k c).2 e) h
    unfold Ov.outF at h1
    simp only [Ov.lost]
    cases e : o.lost k c with
    | some j => rfl
    | none =>
      have h2 := h0.1 e
      have h4 : o.K (k + 1) c = true := by simp [h2] at h1; simp [Ov.K, h2, h1]
      simp [h4]
theorem still_of_out (o : Ov) (k : Nat) (h : o.outL k = []) : o.still k := by
  intro c
  simp only [Ov.K]
  cases e : o.K k c
  · rfl
  · cases e2 : o.canM (o.K k) c
    · have : c ∈ o.outL k := (mem_outL o k c).2 (by simp [Ov.outF, e, e2])
      rw [h] at this; simp at this
    · rfl
theorem count_out (o : Ov) (k : Nat) : (o.ker (k + 1)).length + (o.outL k).length = (o.ker k).length := by
  unfold Ov.ker Ov.outL
  have : ∀ l : List Sp, (l.filter (o.K (k + 1))).length + (l.filter (o.outF k)).length = (l.filter (o.K k)).length := by
    intro l
    induction l with
    | nil => rfl
    | cons a l ih =>
      have e1 : o.K (k + 1) a = (o.K k a && o.canM (o.K k) a) := rfl
      have e2 : o.outF k a = (o.K k a && !o.canM (o.K k) a) := rfl
      simp only [List.filter_cons]
      generalize o.K (k + 1) a = x at *
      generalize o.outF k a = y at *
      generalize o.K k a = z at *
      generalize o.canM (o.K k) a = t at *
      subst e1 e2
      cases z <;> cases t <;> simp <;> omega
  exact this o.cells
theorem ker_le (o : Ov) (k : Nat) : (o.ker k).length ≤ o.N := by
  unfold Ov.ker
  have := List.length_filter_le (o.K k) o.cells
  simp [Ov.cells] at this ⊢
  omega
theorem outL_le (o : Ov) (k : Nat) : (o.outL k).length ≤ o.N := by
  have := count_out o k
  have := ker_le o k
  omega
theorem outF_take (o : Ov) (k : Nat) : ∀ i, ((o.cells.take i).filter (o.outF k)).length ≤ o.N := by
  intro i
  have h1 := List.length_filter_le (o.outF k) (o.cells.take i)
  have h2 : (o.cells.take i).length ≤ o.cells.length := by rw [List.length_take]; omega
  simp [Ov.cells] at h1 h2 ⊢
  omega
end Go.Proofs.YtjonbhimbhidpaaDoor
