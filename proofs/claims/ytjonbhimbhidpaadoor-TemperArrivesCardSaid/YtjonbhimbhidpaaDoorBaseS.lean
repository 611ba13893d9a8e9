/-
  Words for the laws of chapter 6 that make an oven of numbers.
-/
import Derived.Test.YtjonbhimbhidpaaDoorZ14
namespace Go.Proofs.YtjonbhimbhidpaaDoor
open Go.RowKit
theorem num_ok {o : Ov} (h : o.Ok) : o.Num := by
  refine ⟨fun m hm => ?_, fun j hj => ?_, short_form h.form h.c.2⟩
  · have hp := h.p
    have := h.mv m hm
    unfold mvOk within5 at this
    simp only [Bool.and_eq_true, decide_eq_true_eq] at this
    unfold I64
    omega
  · have := h.jl j hj
    unfold jlOk within5 at this
    simp only [Bool.and_eq_true, decide_eq_true_eq] at this
    unfold I64
    omega
theorem ownOv_isOv {w : World} {B : Nat} {v vm vj : Value} {o : Ov} (h : OwnOv w B v vm vj o) (hok : o.Ok) : IsOv w v vm vj o := by
  have hp := hok.p
  refine h.isOv (by show o.P ≤ _; omega) (fun p hp => ?_) (by have := hok.nm; omega) (by have := hok.nj; omega)
  have hf := hok.form
  unfold formB at hf
  simp only [Bool.and_eq_true, decide_eq_true_eq, List.all_eq_true] at hf
  have h2 := hf.2 p hp
  unfold phaseOk at h2
  simp only [Bool.and_eq_true, decide_eq_true_eq] at h2
  have := hok.r
  omega
theorem ownOv_slices {w : World} {B : Nat} {v vm vj : Value} {o : Ov} (h : OwnOv w B v vm vj o) : ∃ a1 c1 a2 c2 a3 c3, v = .slice a1 o.safe.length c1 ∧ vm = .slice a2 o.moves.length c2 ∧ vj = .slice a3 o.jolts.length c3 := by
  obtain ⟨us, h1, _, _⟩ := h.g
  obtain ⟨a1, c1, e1⟩ := row_slice h1
  obtain ⟨a2, c2, e2⟩ := row_slice h.mv
  obtain ⟨a3, c3, e3⟩ := row_slice h.jl
  exact ⟨a1, c1, a2, c2, a3, c3, e1, e2, e3⟩
/-- an oven made of numbers: what a law wants to know of it -/
theorem made_ov {w0 w : World} (hb0 : Below w0.heap.size w0 w) {ph ro wi : Int} {ca : Option Addr} {cn cc : Nat} {ma : Option Addr} {mn mc : Nat} {ja : Option Addr} {jn jc : Nat} (hk : ArgKiln w ph ro wi ca cn cc ma mn mc ja jn jc) :
    Calls Tryd.prog 24 #[.agg #[.int .u8 ph, .int .u8 ro, .int .u8 wi, .slice ca cn cc, .slice ma mn mc, .slice ja jn jc]] w fun e w' => ∃ q a1 c1 a2 c2 a3 c3, e = .returned (.agg #[.slice a1 q.safe.length c1, .slice a2 q.moves.length c2, .slice a3 q.jolts.length c3]) ∧
      q.Ok ∧ q.valid = true ∧ q.moves.length ≤ 8 ∧ OwnOv w' w0.heap.size (.slice a1 q.safe.length c1) (.slice a2 q.moves.length c2) (.slice a3 q.jolts.length c3) q ∧ Below w.heap.size w w' := by
  refine (made_any ph ro wi ca cn cc ma mn mc ja jn jc w hk).mono ?_
  rintro e w' ⟨vs, vm, vj, q, rfl, h1, h2, h3, h4⟩
  obtain ⟨a1, c1, a2, c2, a3, c3, rfl, rfl, rfl⟩ := ownOv_slices h1
  exact ⟨q, a1, c1, a2, c2, a3, c3, rfl, ok_of_valid h2, h2, h3, ⟨ownG_mono h1.g hb0.size, row_mono h1.mv hb0.size, row_mono h1.jl hb0.size⟩, h4⟩
theorem argKiln_below {w w' : World} {ph ro wi : Int} {ca : Option Addr} {cn cc : Nat} {ma : Option Addr} {mn mc : Nat} {ja : Option Addr} {jn jc : Nat} (h : ArgKiln w ph ro wi ca cn cc ma mn mc ja jn jc) (hb : Below w.heap.size w w') : ArgKiln w' ph ro wi ca cn cc ma mn mc ja jn jc := by
  have hc : ∀ (ad : Addr) (k : Nat), ad.block < w.heap.size → w'.cell? (ad.add k) = w.cell? (ad.add k) := fun ad k hl => hb.cell (by rw [add_block]; exact hl)
  refine ⟨h.ph, h.ro, h.wi, ⟨h.cells.1, fun i hi => ?_⟩, ⟨h.moves.1, fun i hi => ?_⟩, ⟨h.jolts.1, fun i hi => ?_⟩⟩
  · obtain ⟨ad, z, h1, h2, h3, h4⟩ := h.cells.2 i hi
    exact ⟨ad, z, h1, Nat.lt_of_lt_of_le h2 hb.size, (hc ad i h2).trans h3, h4⟩
  · obtain ⟨ad, z0, z1, z2, z3, h1, h2, e0, e1, e2, e3, h4⟩ := h.moves.2 i hi
    exact ⟨ad, z0, z1, z2, z3, h1, Nat.lt_of_lt_of_le h2 hb.size, (hc ad _ h2).trans e0, (hc ad _ h2).trans e1, (hc ad _ h2).trans e2, (hc ad _ h2).trans e3, h4⟩
  · obtain ⟨ad, z0, z1, h1, h2, e0, e1, h4⟩ := h.jolts.2 i hi
    exact ⟨ad, z0, z1, h1, Nat.lt_of_lt_of_le h2 hb.size, (hc ad _ h2).trans e0, (hc ad _ h2).trans e1, h4⟩
/-- Kernel of a valid oven -/
theorem kernel_ok {w0 w : World} (hb0 : Below w0.heap.size w0 w) (vs vm vj : Value) (o : Ov) (ho : IsOv w vs vm vj o) (hok : o.Ok) (hv : o.valid = true) :
    Calls Tryd.prog 25 #[.agg #[vs, vm, vj]] w fun e w' => ∃ a c, e = .returned (.tuple #[.slice a o.P c, .int .i64 0]) ∧ OwnG w' w0.heap.size (.slice a o.P c) (o.gridOf o.KK) ∧ Below w.heap.size w w' := by
  refine (kernelP_any vs vm vj o w ho (num_ok hok)).mono ?_
  rintro e w' ⟨hb, h⟩
  rw [if_pos hv] at h
  obtain ⟨v, rfl, hg⟩ := h
  have hg2 := hg
  obtain ⟨us, h1, _, _⟩ := hg2
  obtain ⟨a, c, rfl⟩ := row_slice h1
  have hl : (o.gridOf o.KK).length = o.P := by simp [Ov.gridOf]
  rw [hl] at hg ⊢
  exact ⟨a, c, rfl, ownG_mono hg hb0.size, hb⟩
theorem valid_ok {o : Ov} (h : o.Ok) : o.valid = true := by
  have hp := h.p
  have hr := h.r
  have hc := h.c
  have hm := h.nm
  have hj := h.nj
  unfold Ov.valid
  simp only [Bool.and_eq_true, decide_eq_true_eq, List.all_eq_true]
  exact ⟨⟨⟨by omega, h.form⟩, h.mv⟩, h.jl⟩
theorem ok_moves {o : Ov} (h : o.Ok) {m : Mv} (hn : o.moves.length ≤ 8) (hm : mvOk o.P m = true) : Ov.Ok ⟨o.safe, o.moves ++ [m], o.jolts⟩ := by
  refine ⟨h.p, h.r, h.c, ?_, h.nj, h.form, ?_, h.jl⟩
  · show (o.moves ++ [m]).length ≤ 16
    simp; omega
  · intro x hx
    rcases List.mem_append.1 (show x ∈ o.moves ++ [m] from hx) with h1 | h1
    · exact h.mv x h1
    · rw [List.mem_singleton] at h1
      subst h1
      exact hm
theorem ok_jolts {o : Ov} (h : o.Ok) {js : List (Int × Int)} (hn : 1 ≤ js.length ∧ js.length ≤ 4) (hm : ∀ j ∈ js, jlOk j = true) : Ov.Ok ⟨o.safe, o.moves, js⟩ :=
  ⟨h.p, h.r, h.c, h.nm, hn, h.form, h.mv, hm⟩
theorem jlOk_small (z0 z1 : Int) : jlOk (smallI z0, smallI z1) = true := by
  have s2 := smallI_le z0
  have s3 := smallI_le z1
  unfold jlOk within5
  simp only [Bool.and_eq_true, decide_eq_true_eq]
  omega
theorem mvOk_small {P : Nat} (hP : 1 ≤ P) (z0 z1 z2 z3 : Int) : mvOk P (z0 % (P : Int), z1 % (P : Int), smallI z2, smallI z3) = true := by
  have s2 := smallI_le z2
  have s3 := smallI_le z3
  have := Int.emod_nonneg z0 (by omega : (P : Int) ≠ 0)
  have := Int.emod_lt_of_pos z0 (by omega : (0 : Int) < (P : Int))
  have := Int.emod_nonneg z1 (by omega : (P : Int) ≠ 0)
  have := Int.emod_lt_of_pos z1 (by omega : (0 : Int) < (P : Int))
  unfold mvOk within5
  simp only [Bool.and_eq_true, decide_eq_true_eq]
  omega
theorem jl_slice {w : World} {v : Value} {js : List (Int × Int)} (h : IsJl w v js) : ∃ a c, v = .slice a js.length c := by
  obtain ⟨a, c, rfl, _⟩ := h
  exact ⟨a, c, rfl⟩
end Go.Proofs.YtjonbhimbhidpaaDoor
