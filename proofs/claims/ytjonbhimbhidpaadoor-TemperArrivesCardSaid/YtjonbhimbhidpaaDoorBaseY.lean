/-
  Words for the laws of chapter 6 that play.
-/
import Derived.Test.YtjonbhimbhidpaaDoorBaseX
namespace Go.Proofs.YtjonbhimbhidpaaDoor
open Go.RowKit
section
variable {md : Region.Mode} {ops : Array Oper} {Q : Exit → Act → World → Prop} {S : World → Prop} {fuel : Nat} {listed : Array Bool} {a : Act} {w : World} {i : Nat} {o : Oper} {rs : List Nat}
theorem node_buildI (d k : Nat) (z : Int) (hi : ops[i]? = some o) (hgd : o.guard = none) (ho : o.op = .buildSlice 36 1 #[(0, .tmp k)]) (hd : o.dst = some d)
    (hp : a.tmps[k]?.getD undef = .int .i64 z) (hS : S (w.alloc (.cells #[.int .i64 z] 3)))
    (h : S (w.alloc (.cells #[.int .i64 z] 3)) → wpAnyH Tryd.prog md ops Q S fuel (listed.setIfInBounds i true) (a.put (some d) (.slice (some ⟨w.heap.size, 0, none⟩) 1 1)) (w.alloc (.cells #[.int .i64 z] 3)))
    (hs : AllReadyH Tryd.prog md ops Q S fuel listed a w rs) : AllReadyH Tryd.prog md ops Q S fuel listed a w (i :: rs) := by
  refine AllReadyH.cons hi (fun K hK => ?_) hs
  have hw : Region.wanted o (yielded ops a.tmps) = true := by simp [Region.wanted, hgd]
  rw [if_pos hw]
  have hk := hK.out _ _ hS h
  unfold Oper.wp execOp
  simp [ho, go_sem, hp]
  rw [hd]
  exact hk
end
theorem play_in {vs vm vj v : Value} {o : Ov} {c : Sp} {js : List Int} {w : World} (ho : IsOv w vs vm vj o) (hok : o.Ok) (hj : IsInts w v js) (hex : o.ex c = true) (hl : js.length ≤ 200) (hall : js.all o.jok = true) (hk : o.KK c = true) :
    Calls Tryd.prog 39 #[.agg #[vs, vm, vj], spv c, v] w fun e w' => ∃ a cc, e = .returned (.tuple #[.slice a js.length cc, .int .i64 0]) ∧ OwnS w' w.heap.size 28 (.slice a js.length cc) (o.play c js) ∧ Below w.heap.size w w' := by
  refine (play_any vs vm vj v o c js w ho (num_ok hok) hj).mono ?_
  rintro e w' ⟨hb, h⟩
  rw [if_pos (by rw [valid_ok hok, hex]; rfl), if_neg (by omega), if_pos hall, if_pos hk] at h
  obtain ⟨u, rfl, h1⟩ := h
  obtain ⟨a, cc, hv⟩ := row_slice h1
  rw [play_len] at hv
  subst hv
  exact ⟨a, cc, rfl, h1, hb⟩
theorem play_out {vs vm vj v : Value} {o : Ov} {c : Sp} {js : List Int} {w : World} (ho : IsOv w vs vm vj o) (hok : o.Ok) (hj : IsInts w v js) (hex : o.ex c = true) (hl : js.length ≤ 200) (hall : js.all o.jok = true) (hk : o.KK c = false) :
    Calls Tryd.prog 39 #[.agg #[vs, vm, vj], spv c, v] w fun e w' => e = .returned (.tuple #[.slice none 0 0, .int .i64 5]) ∧ Below w.heap.size w w' := by
  refine (play_any vs vm vj v o c js w ho (num_ok hok) hj).mono ?_
  rintro e w' ⟨hb, h⟩
  rw [if_pos (by rw [valid_ok hok, hex]; rfl), if_neg (by omega), if_pos hall, if_neg (by rw [hk]; decide)] at h
  exact ⟨h, hb⟩
theorem walk_take (o : Ov) (s : Sp) (js : List Int) {h i : Nat} (hi : i ≤ h) : o.walk s (js.take h) i = o.walk s js i := by
  unfold Ov.walk
  rw [List.take_take, Nat.min_eq_left hi]
theorem isInts_take {w : World} {a : Option Addr} {n c : Nat} {xs : List Int} (h : IsInts w (.slice a n c) xs) (k : Nat) (hk : k ≤ xs.length) : IsInts w (.slice a k c) (xs.take k) := by
  obtain ⟨a', c', e, hl, hc⟩ := h
  cases e
  refine ⟨a, c, by rw [List.length_take, Nat.min_eq_left hk], by rw [List.length_take]; omega, fun i hi => ?_⟩
  rw [List.length_take] at hi
  obtain ⟨g, hg, c0⟩ := hc i (by omega)
  refine ⟨g, hg, c0.trans ?_⟩
  rw [List.getD_eq_getElem?_getD, List.getD_eq_getElem?_getD, List.getElem?_take, if_pos (by omega)]
theorem wf_u16 {z : Int} (h : (Lit.int .u16 z).wf = true) : 0 ≤ z ∧ z < 65536 := by
  unfold Lit.wf at h
  rw [Bool.and_eq_true, decide_eq_true_eq, decide_eq_true_eq] at h
  have h1 : IntKind.u16.min = 0 := by decide
  have h2 : IntKind.u16.max = 65535 := by decide
  omega
end Go.Proofs.YtjonbhimbhidpaaDoor
