/-
  Walks over chapter 12: sets as lists, in order.
-/
import Derived.Test.YtaedbkdimpdngaaWalkI
namespace Go.Proofs.Ytaedbkdimpdngaa
open Go.RowKit
/-- the value v reads as some lists of numbers -/
def IsLL (w : World) (v : Value) (Ls : List (List Nat)) : Prop :=
  ∃ us : List Value, us.length = Ls.length ∧ IsV w v us ∧ ∀ j, j < Ls.length → IsV w (us.getD j undef) ((Ls.getD j []).map iv)
theorem isLL_below {w w' : World} {v : Value} {Ls : List (List Nat)} (h : IsLL w v Ls) (hb : Below w.heap.size w w') : IsLL w' v Ls := by
  obtain ⟨us, h1, h2, h3⟩ := h
  exact ⟨us, h1, isV_below h2 hb, fun j hj => isV_below (h3 j hj) hb⟩
/-- the call's own row of own lists -/
def OwnLL (w : World) (B : Nat) (v : Value) (us : List Value) (Ls : List (List Nat)) : Prop :=
  us.length = Ls.length ∧ OwnV w B 24 v us ∧ ∀ j, j < Ls.length → OwnV w B 3 (us.getD j undef) ((Ls.getD j []).map iv)
theorem ownLL_isLL {w : World} {B : Nat} {v : Value} {us : List Value} {Ls : List (List Nat)} (h : OwnLL w B v us Ls) (h1 : Ls.length ≤ 1000000) (h2 : ∀ l, l ∈ Ls → l.length ≤ 1000000) : IsLL w v Ls := by
  obtain ⟨g1, g2, g3⟩ := h
  refine ⟨us, g1, ownV_isV g2 (by omega), fun j hj => ownV_isV (g3 j hj) ?_⟩
  rw [List.length_map, List.getD_eq_getElem?_getD, List.getElem?_eq_getElem hj]
  exact h2 _ (List.getElem_mem hj)
theorem ownLL_nil (w : World) (B : Nat) : OwnLL w B (.slice none 0 0) [] [] := ⟨rfl, ownV_nil _ _ _, fun j hj => absurd hj (Nat.not_lt_zero _)⟩
theorem ownLL_below {w w' : World} {B : Nat} {v : Value} {us : List Value} {Ls : List (List Nat)} (h : OwnLL w B v us Ls) (hb : Below w.heap.size w w') : OwnLL w' B v us Ls :=
  ⟨h.1, ownV_below h.2.1 hb, fun j hj => ownV_below (h.2.2 j hj) hb⟩
theorem getD_snoc {α : Type} (xs : List α) (x d : α) (j : Nat) (h : j < xs.length) : (xs ++ [x]).getD j d = xs.getD j d := by
  rw [List.getD_eq_getElem?_getD, List.getD_eq_getElem?_getD, List.getElem?_append_left h]
theorem getD_last {α : Type} (xs : List α) (x d : α) : (xs ++ [x]).getD xs.length d = x := by
  rw [List.getD_eq_getElem?_getD, List.getElem?_append_right (Nat.le_refl _), Nat.sub_self]; rfl
theorem ownLL_app {w w' : World} {B : Nat} {v v' u : Value} {us : List Value} {Ls : List (List Nat)} {x : List Nat} (h : OwnLL w B v us Ls) (hx : OwnV w B 3 u (x.map iv)) (ho : OwnV w' B 24 v' (us ++ [u])) (hg : w.grownBy w' v.ownBlock) : OwnLL w' B v' (us ++ [u]) (Ls ++ [x]) := by
  obtain ⟨h1, h2, h3⟩ := h
  have kept : ∀ {q : Value} {ys : List Value}, OwnV w B 3 q ys → OwnV w' B 3 q ys := fun hq => row_other hq hg (fun k hk => row_type h2 k hk) (by decide)
  refine ⟨by simp [h1], ho, fun j hj => ?_⟩
  rw [List.length_append, List.length_singleton] at hj
  by_cases e : j < Ls.length
  · rw [getD_snoc _ _ _ _ (by rw [h1]; exact e), getD_snoc _ _ _ _ e]
    exact kept (h3 j e)
  · obtain rfl : j = Ls.length := by omega
    rw [getD_last, ← h1, getD_last]
    exact kept hx
section
open Go.Sort
theorem sort_grown {α : Type} [Inhabited α] (enc : α → Value) (w : World) (blk off n : Nat) (d : Array α) (os : Array Obj) : w.grownBy (sortWorld enc w blk off n d os) (some blk) := by
  refine ⟨rfl, rfl, rfl, ?_, fun k hk hne => ?_⟩
  · show w.heap.size ≤ ((w.heap.modify blk _) ++ os).size
    simp
  · show ((w.heap.modify blk _) ++ os)[k]? = _
    rw [Array.getElem?_append_left (by simpa using hk), Array.getElem?_modify]
    rw [if_neg (fun e => hne (by rw [e]))]
end
section
open Go.Sort
theorem swo_cmp (Ls : List (List Nat)) : SWO (ltOf fun x y : Nat => cmpL (Ls.getD x []) (Ls.getD y [])) := by
  have e : ∀ x y, ltOf (fun x y : Nat => cmpL (Ls.getD x []) (Ls.getD y [])) x y = ltL (Ls.getD x []) (Ls.getD y []) := fun x y => cmpL_lt _ _
  refine ⟨fun x => ?_, fun x y z => ?_, fun x y z => ?_⟩
  · rw [e]; exact ltL_irrefl _
  · rw [e, e, e]; exact ltL_trans
  · rw [e, e, e]; exact ltL_le_trans
theorem range_at (n j : Nat) (h : j < n) : (Array.range n)[j]! = j := by
  rw [getElem!_pos _ j (by simpa using h)]
  simp
theorem eg86 : ∀ args w, (callFunc 86 args).run Try.prog w = .ok (.enter 86 args) w := enters_of Try.func86 (by kernel_rfl) rfl
theorem sort_any (v : Value) (us : List Value) (Ls : List (List Nat)) (B : Nat) (w : World) (h : OwnLL w B v us Ls) (hl1 : Ls.length ≤ 5000) (hl2 : ∀ l, l ∈ Ls → l.length ≤ 1000000) :
    Calls Try.prog 85 #[v, .func (.func 86) #[] #[]] w fun e w' => e = .returned (.tuple #[]) ∧ ∃ Ls' : List (List Nat), Ls'.Perm Ls ∧ Srt Ls' ∧ IsLL w' v Ls' ∧ w.grownBy w' v.ownBlock := by
  obtain ⟨h1, h2, h3⟩ := h
  by_cases h0 : Ls.length = 0
  · have hL : Ls = [] := List.length_eq_zero_iff.1 h0
    have hU : us = [] := List.length_eq_zero_iff.1 (by omega)
    subst hL hU
    obtain ⟨a, c, rfl⟩ := ownV_slice h2
    refine (Try.slices_SortFunc_none (α := Nat) a c (.func (.func 86) #[] #[]) w).mono fun e w' ⟨he, hw⟩ => ?_
    subst hw
    exact ⟨he, [], List.Perm.refl _, List.Pairwise.nil, ⟨[], rfl, ownV_isV h2 (by simp), fun j hj => absurd hj (Nat.not_lt_zero _)⟩, ⟨rfl, rfl, rfl, Nat.le_refl _, fun _ _ _ => rfl⟩⟩
  · obtain ⟨g, c, rfl, hB, hg⟩ := ownV_some h2 (by omega)
    let enc : Nat → Value := fun x => us.getD x (.slice none 0 0)
    have henc : ∀ x, x < Ls.length → enc x = us.getD x undef := fun x hx => by
      show us.getD x _ = _
      rw [List.getD_eq_getElem?_getD, List.getD_eq_getElem?_getD, List.getElem?_eq_getElem (by omega)]; rfl
    have hone : Go.Proofs.OneCell enc := fun x => by
      by_cases hx : x < Ls.length
      · rw [henc x hx]
        obtain ⟨a, c, e⟩ := ownV_slice (h3 x hx)
        rw [e]; rfl
      · show (us.getD x _).oneCell' = true
        rw [List.getD_eq_getElem?_getD, List.getElem?_eq_none (by omega)]; rfl
    have hread : ∀ (m : Nat) (os : Array Obj) (dk : Array Nat) (x : Nat), IsV (sortWorld enc w g 0 m dk os) (enc x) ((Ls.getD x []).map iv) := fun m os dk x => by
      by_cases hx : x < Ls.length
      · rw [henc x hx]
        refine ownV_isV (row_other (e' := 24) (h3 x hx) (sort_grown enc w g 0 m dk os) (fun k hk => ?_) (by decide)) ?_
        · injection hk with hk
          subst hk
          exact row_type h2 g rfl
        · rw [List.length_map, List.getD_eq_getElem?_getD, List.getElem?_eq_getElem hx]
          exact hl2 _ (List.getElem_mem hx)
      · have e1 : enc x = .slice none 0 0 := by
          show us.getD x _ = _
          rw [List.getD_eq_getElem?_getD, List.getElem?_eq_none (by omega)]; rfl
        have e2 : Ls.getD x [] = [] := by rw [List.getD_eq_getElem?_getD, List.getElem?_eq_none (by omega)]; rfl
        rw [e1, e2]
        exact ⟨none, 0, rfl, by simp, fun i hi => absurd hi (Nat.not_lt_zero _)⟩
    have hH : Holds enc w g 0 (Array.range Ls.length) := fun j hj => by
      have hj' : j < Ls.length := by simpa using hj
      rw [range_at _ _ hj', Nat.zero_add, henc j hj']
      exact ⟨ownV_cell h2 j (by omega), ownV_frozen h2 j⟩
    have hsz : (Array.range Ls.length).size = us.length := by simp [h1]
    have hs := Try.slices_SortFunc enc hone (fun x y => cmpL (Ls.getD x []) (Ls.getD y [])) (swo_cmp Ls) 86 #[] g 0 c (Array.range Ls.length) w eg86
      (fun m os dk _ x y => by
        have hc := compare_any _ _ _ _ (sortWorld enc w g 0 m dk os) (hread m os dk x) (hread m os dk y)
        simp only [Array.append_empty]
        exact hc.mono fun e w' ⟨he, hw⟩ => ⟨he, 0, #[], by rw [hw, grow_empty]; rfl⟩) hH hg (by simp; omega)
    rw [hsz] at hs
    refine hs.mono fun e w' ⟨he, d', n, os, hp, hso, hw⟩ => ⟨he, d'.toList.map (fun x => Ls.getD x []), ?_, ?_, ?_, ?_⟩
    · obtain ⟨p1, _, p3⟩ := hp
      have q1 : d'.extract 0 us.length = d' := by
        have : us.length = d'.size := by rw [p1]; exact hsz.symm
        rw [this]; simp
      have q2 : (Array.range Ls.length).extract 0 us.length = Array.range Ls.length := by rw [← hsz]; simp
      rw [q1, q2] at p3
      have := p3.map (fun x => Ls.getD x [])
      refine this.trans ?_
      rw [Array.toList_range]
      have e : (List.range Ls.length).map (fun x => Ls.getD x []) = Ls := by
        refine List.ext_getElem (by simp) fun i g1 g2 => ?_
        simp [List.getD_eq_getElem?_getD, List.getElem?_eq_getElem g2]
      rw [e]
    · unfold Srt
      rw [List.pairwise_map, List.pairwise_iff_getElem]
      intro i j hi hj hij
      have hdl : d'.size = us.length := by rw [hp.1]; exact hsz
      rw [Array.length_toList] at hi hj
      have hh := hso i j (Nat.zero_le _) hij (by omega)
      unfold ltOf at hh
      rw [cmpL_lt, getElem!_pos d' j hj, getElem!_pos d' i hi] at hh
      simpa using hh
    · have hdl : d'.size = Ls.length := by rw [hp.1]; simp
      have hHo : Holds enc w' g 0 d' := by rw [hw]; exact holds_sortWorld enc w g 0 n (Array.range Ls.length) d' os hg hH (by rw [hp.1])
      refine ⟨d'.toList.map enc, by simp, ⟨some ⟨g, 0, none⟩, c, by simp [hdl, h1], by simp [hdl]; omega, fun i hi => ⟨g, rfl, ?_⟩⟩, fun j hj => ?_⟩
      · rw [List.length_map, Array.length_toList] at hi
        have := (hHo i hi).1
        rw [Nat.zero_add, getElem!_pos d' i hi] at this
        rw [this, List.getD_eq_getElem?_getD, List.getElem?_map, List.getElem?_eq_getElem (by simpa using hi)]
        simp
      · rw [List.length_map, Array.length_toList] at hj
        rw [List.getD_eq_getElem?_getD, List.getElem?_map, List.getElem?_eq_getElem (by simpa using hj), List.getD_eq_getElem?_getD, List.getElem?_map, List.getElem?_eq_getElem (by simpa using hj)]
        simp only [Option.map_some, Option.getD_some]
        rw [hw]
        exact hread n os d' _
    · rw [hw]
      exact sort_grown enc w g 0 n d' os
end
theorem elems_le (s : Nat) : (elems s).length ≤ 1000000 := by have := elems_len s; omega
set_option maxRecDepth 100000 in
set_option maxHeartbeats 1000000 in
theorem lists_any (v : Value) (l : List Nat) (w : World) (hv : IsV w v (l.map sv)) (hl : ∀ s, s ∈ l → s < 4096) (hn : l.length ≤ 5000) :
    Calls Try.prog 77 #[v] w fun e w' => ∃ u, e = .returned u ∧ IsLL w' u (lists l) ∧ Below w.heap.size w w' := by
  obtain ⟨a, c, rfl⟩ := isV_slice hv
  have HV := hid hv
  have HL := hid hl
  have SO : Hid (∀ w' v us Ls, OwnLL w' w.heap.size v us Ls → Ls.length ≤ 5000 → (∀ l, l ∈ Ls → l.length ≤ 1000000) → Calls Try.prog 85 #[v, .func (.func 86) #[] #[]] w' fun e w'' => e = .returned (.tuple #[]) ∧ ∃ Ls' : List (List Nat), Ls'.Perm Ls ∧ Srt Ls' ∧ IsLL w'' v Ls' ∧ w'.grownBy w'' v.ownBlock) := fun w' v us Ls h h1 h2 => sort_any v us Ls _ w' h h1 h2
  clear hv hl
  rw [List.length_map] at HV ⊢
  obtain ⟨n, hne⟩ : ∃ n, n = l.length := ⟨_, rfl⟩
  have HN := hid hne
  rw [← hne] at hn HV ⊢
  clear hne
  go_enter Try.func77, Try.ntmps77
  go_wp2_with fail
  go_loopw [8, 3] (fun iv ov wr => ∃ (i : Nat) (us : List Value), iv = .int .i64 i ∧ i ≤ n ∧ Hid (OwnLL wr w.heap.size ov us ((l.take i).map elems)) ∧ Hid (Below w.heap.size w wr)) (fun iv _ _ => n - (intOf iv).toNat)
  case atStart => exact ⟨0, [], rfl, Nat.zero_le _, ownLL_nil _ _, Below.refl _ _⟩
  case round =>
    obtain ⟨i, us, rfl, hi, HT, HBr⟩ := hrel
    obtain ⟨sa, sn, sc, rfl⟩ := ownV_sh HT.out.2.1
    have HNL : Hid (us.length < 1000000) := by
      show _ < _
      rw [HT.out.1, List.length_map, List.length_take]; omega
    by_cases hlt : i < n
    · have hli : i < l.length := by rw [← HN.out]; exact hlt
      obtain ⟨gb, rfl, -, hc⟩ := isV_at (isV_below HV.out HBr.out) i (by rw [List.length_map]; exact hli)
      rw [getD_map sv _ 0 i hli] at hc
      have hs : l.getD i 0 < 4096 := HL.out _ (by rw [List.getD_eq_getElem?_getD, List.getElem?_eq_getElem hli]; exact List.getElem_mem hli)
      have HTK : Hid ((l.take (i + 1)).map elems = (l.take i).map elems ++ [elems (l.getD i 0)]) := by
        show _ = _
        rw [List.take_succ_eq_append_getElem hli, List.map_append, List.getD_eq_getElem?_getD, List.getElem?_eq_getElem hli]; rfl
      change wr.cell? _ = some (.int .u16 ((l.getD i 0 : Nat) : Int)) at hc
      generalize l.getD i 0 = s at *
      have LI : Hid (∀ w' : World, Calls Try.prog 49 #[.int .u16 (s : Int)] w' fun e w'' => ∃ v, e = .returned v ∧ OwnV w'' w'.heap.size 3 v ((elems s).map iv) ∧ Below w'.heap.size w' w'') := fun w' => list_any s w' hs
      clear hs
      go_wp2_with (first | (go_at_call 49; refine (LI.out _).mono ?_; rintro e w6 ⟨v6, rfl, ho6, hb6⟩; obtain ⟨ta, tn, tc, rfl⟩ := ownV_sh ho6; have HO6 := hid ho6; have HB6 := hid hb6; clear ho6 hb6) | (at_builtin; refine wpl_app_row _ _ _ _ _ (.slice sa sn sc) w.heap.size _ (by rfl) (by rfl) (by rfl) (by rfl) (ownV_below HT.out.2.1 HB6.out) HNL.out (Nat.le_trans HBr.out.size HB6.out.size) ?_; intro v' w7 ho7 hb7 hg7; obtain ⟨ra, rn, rc, rfl⟩ := ownV_sh ho7; have HO7 := hid (ownLL_app (ownLL_below HT.out HB6.out) (ownV_mono HO6.out HBr.out.size) ho7 hg7); have HB7 := hid hb7; clear ho7 hb7 hg7) | fail)
      go_roundw
      case rel => exact ⟨i + 1, _, by go_num, by omega, by rw [HTK.out]; exact HO7.out, (HBr.out.trans (HB6.out.mono HBr.out.size)).trans HB7.out⟩
      case measure => simp [intOf]; omega
    · obtain rfl : i = n := by omega
      have HT2 : Hid (OwnLL wr w.heap.size (.slice sa sn sc) us (l.map elems)) := by
        have := HT.out
        rw [HN.out, List.take_length] at this
        exact this
      have HC := hid (SO.out wr _ us _ HT2.out (by rw [List.length_map, ← HN.out]; omega) (fun x hx => by
        rw [List.mem_map] at hx
        obtain ⟨s, _, rfl⟩ := hx
        exact elems_le s))
      have HLT := hid (ownV_lt HT2.out.2.1)
      go_wp2_with (first | (go_at_call 85; refine (HC.out).mono ?_; rintro e w8 ⟨rfl, Ls, hp8, hs8, hi8, hg8⟩; have HI8 : Hid (IsLL w8 (.slice sa sn sc) (lists l)) := by { show IsLL _ _ _; rw [← lists_of hp8 hs8]; exact hi8 }; have HG8 := hid hg8; clear hp8 hs8 hi8 hg8) | fail)
      go_ret
      exact ⟨_, rfl, HI8.out, (HBr.out).grown HG8.out HBr.out.size (fun k hk => (HLT.out k hk).1)⟩
end Go.Proofs.Ytaedbkdimpdngaa
