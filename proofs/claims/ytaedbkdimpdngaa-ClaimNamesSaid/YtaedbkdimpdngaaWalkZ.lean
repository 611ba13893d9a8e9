/-
  Sets by other names (moved, 31).
-/
import Derived.Test.YtaedbkdimpdngaaWalkY
namespace Go.Proofs.Ytaedbkdimpdngaa
open Go.RowKit
def mvL (n k : Nat) (x : List Nat) : Nat := x.foldl (fun o a => o ||| 2 ^ rot n k a) 0
theorem mvL_gen {n k : Nat} (hk : k < n) : ∀ (x : List Nat) (o : Nat), o < 2 ^ n → (∀ a, a ∈ x → a < n) → x.foldl (fun o a => o ||| 2 ^ rot n k a) o < 2 ^ n
  | [], _, h, _ => h
  | a :: x, o, h, hx => mvL_gen hk x _ (Nat.or_lt_two_pow h (Nat.pow_lt_pow_right (by decide) (rot_lt (hx a (List.mem_cons_self ..)) hk))) fun b hb => hx b (List.mem_cons_of_mem _ hb)
theorem mvL_lt {n k : Nat} (hk : k < n) {x : List Nat} (hx : ∀ a, a ∈ x → a < n) : mvL n k x < 2 ^ n := mvL_gen hk x 0 (Nat.pow_pos (by decide)) hx
theorem mvL_take {n k : Nat} {x : List Nat} {j : Nat} (hj : j < x.length) : mvL n k (x.take (j + 1)) = mvL n k (x.take j) ||| 2 ^ rot n k (x.getD j 0) := by
  rw [List.take_succ_eq_append_getElem hj]
  unfold mvL
  rw [List.foldl_append, List.getD_eq_getElem?_getD, List.getElem?_eq_getElem hj]
  rfl
theorem mvL_bit {n k : Nat} (b : Nat) : ∀ (x : List Nat) (o : Nat), (x.foldl (fun o a => o ||| 2 ^ rot n k a) o).testBit b = (o.testBit b || x.any fun a => rot n k a == b)
  | [], o => by simp
  | a :: x, o => by
    rw [List.foldl_cons, mvL_bit b x, Nat.testBit_or, Nat.testBit_two_pow, List.any_cons, Bool.or_assoc]
    by_cases h : rot n k a = b
    · simp [h]
    · rw [decide_eq_false h, beq_eq_false_iff_ne.2 h, Bool.false_or]
theorem mvL_elems {n k s : Nat} (hk : k < n) (hn : n ≤ 16) (hs : s < 2 ^ n) : mvL n k (elems s) = mv n k s := by
  refine mv_ext hk (mvL_lt hk (elems_lt hs)) fun i hi => ?_
  unfold mvL
  rw [mvL_bit, Nat.zero_testBit, Bool.false_or]
  cases h : s.testBit i with
  | true => exact List.any_eq_true.2 ⟨i, (mem_elems s i).2 ⟨by omega, h⟩, by simp⟩
  | false =>
    refine Bool.eq_false_iff.2 fun h2 => ?_
    obtain ⟨a, ha, e⟩ := List.any_eq_true.1 h2
    have e2 : rot n k a = rot n k i := by simpa using e
    have han := elems_lt hs a ha
    have : a = i := by rw [← tor_rot han hk, ← tor_rot hi hk, e2]
    subst this
    rw [mem_elems, h] at ha
    cases ha.2
theorem isLL_row {w : World} {v : Value} {Ls : List (List Nat)} (h : IsLL w v Ls) (i : Nat) (hi : i < Ls.length) : (Ls.getD i []).length ≤ 1000000 := by
  obtain ⟨us, h1, h2, h3⟩ := h
  obtain ⟨_, _, _, h4, _⟩ := h3 i hi
  rwa [List.length_map] at h4
set_option maxRecDepth 100000 in
set_option maxHeartbeats 2000000 in
theorem moved_any (v : Value) (X : List (List Nat)) (n k : Nat) (w : World) (hv : IsLL w v X) (hX : ∀ x, x ∈ X → ∀ a, a ∈ x → a < n) (hk : k < n) (hn : n ≤ 16) (hl : X.length ≤ 5000) :
    Calls Try.prog 31 #[v, .int .i64 (k : Int), .int .i64 (n : Int)] w fun e w' => ∃ u, e = .returned u ∧ IsLL w' u (lists (X.map (mvL n k))) ∧ Below w.heap.size w w' := by
  obtain ⟨a, c, rfl, -⟩ := isLL_slice hv
  have HV := hid hv
  have HX := hid hX
  have LI : Hid (∀ v (l : List Nat) w', IsV w' v (l.map iv) → (∀ s, s ∈ l → s < 2 ^ 16) → l.length ≤ 5000 → Calls Try.prog 36 #[v] w' fun e w'' => ∃ u, e = .returned u ∧ IsLL w'' u (lists l) ∧ Below w'.heap.size w' w'') := fun v l w' h1 h2 h3 => rLists_any v l w' h1 h2 h3
  clear hv hX
  obtain ⟨m, hm⟩ : ∃ m, m = X.length := ⟨_, rfl⟩
  have HM := hid hm
  rw [← hm] at hl ⊢
  have HV2 : Hid (IsLL w (.slice a m c) X) := by rw [hm]; exact HV.out
  clear hm HV
  have HV := HV2
  clear HV2
  go_enter Try.func31, Try.ntmps31
  go_wp2_with fail
  have HT0 := hid (ownV_made w w.heap.size 3 (Nat.le_refl _))
  have HB0 := hid (ba w (.cells #[] 3))
  go_loopw [8, 7] (fun cv ov wr => ∃ i : Nat, cv = .int .i64 i ∧ i ≤ m ∧ Hid (OwnV wr w.heap.size 3 ov (((X.take i).map (mvL n k)).map iv)) ∧ Hid (Below w.heap.size w wr)) (fun cv _ _ => m - (intOf cv).toNat)
  case atStart => exact ⟨0, rfl, Nat.zero_le _, HT0, HB0⟩
  case round =>
    obtain ⟨i, rfl, hi, HT, HBr⟩ := hrel
    rename World => wr
    obtain ⟨oa, on, oc, rfl⟩ := ownV_sh HT.out
    clear HT0 HB0
    by_cases hlt : i < m
    · have hli : i < X.length := by rw [← HM.out]; exact hlt
      obtain ⟨g, pa, pn, pc, rfl, -, c0, x0⟩ := isLL_at (isLL_below HV.out HBr.out) i hli
      have HR := hid x0
      have hrl : (X.getD i []).length ≤ 1000000 := isLL_row HV.out i hli
      have HIN : Hid (∀ a, a ∈ X.getD i [] → a < n) := HX.out (X.getD i []) (by rw [List.getD_eq_getElem?_getD, List.getElem?_eq_getElem hli]; exact List.getElem_mem hli)
      have HSN : Hid (((X.take i).map (mvL n k)).map iv ++ [.int .i64 ((mvL n k (X.getD i []) : Nat) : Int)] = ((X.take (i + 1)).map (mvL n k)).map iv) := by
        show _ = _
        rw [List.take_succ_eq_append_getElem hli, List.map_append, List.map_append, List.getD_eq_getElem?_getD, List.getElem?_eq_getElem hli]
        rfl
      have HLN : Hid ((((X.take i).map (mvL n k)).map iv).length < 1000000) := by show _ < _; rw [List.length_map, List.length_map, List.length_take]; omega
      obtain ⟨xs, hxs⟩ : ∃ xs, xs = ((X.take i).map (mvL n k)).map iv := ⟨_, rfl⟩
      rw [← hxs] at HT HSN HLN
      clear hxs
      have hpn : pn = (X.getD i []).length := by
        obtain ⟨_, _, e⟩ := isV_slice x0
        rw [List.length_map] at e
        cases e; rfl
      clear x0
      generalize X.getD i [] = x at *
      have HPN := hid hpn
      have CL0 : Hid (∀ w', Below wr.heap.size wr w' → w'.cell? ⟨g, i, none⟩ = some (.slice pa pn pc)) := fun w' hb => (hb.cell (World.block_lt_of_cell? wr _ c0)).trans c0
      rw [← hpn] at hrl
      clear hpn c0
      go_upto_region 7 with fail
      go_loopw [10, 9] (fun jv sv' wk => ∃ j : Nat, jv = .int .i64 j ∧ j ≤ pn ∧ sv' = .int .i64 ((mvL n k (x.take j) : Nat) : Int) ∧ Hid (Below wr.heap.size wr wk)) (fun jv _ _ => pn - (intOf jv).toNat)
      case atStart => exact ⟨0, rfl, Nat.zero_le _, rfl, Below.refl _ _⟩
      case round =>
        obtain ⟨j, rfl, hj, rfl, HBk⟩ := hrel
        rename World => wk
        have c0 := CL0.out wk HBk.out
        by_cases hjp : j < pn
        · have hjx : j < x.length := by rw [← HPN.out]; exact hjp
          obtain ⟨g2, rfl, -, c2⟩ := isV_at (isV_below HR.out HBk.out) j (by rw [List.length_map]; exact hjx)
          rw [getD_map iv _ 0 j hjx] at c2
          have hy : x.getD j 0 < n := HIN.out _ (by rw [List.getD_eq_getElem?_getD, List.getElem?_eq_getElem hjx]; exact List.getElem_mem hjx)
          have HTK := hid (mvL_take (n := n) (k := k) hjx)
          change wk.cell? _ = some (.int .i64 ((x.getD j 0 : Nat) : Int)) at c2
          generalize x.getD j 0 = y at *
          have hs1 : mvL n k (x.take j) < 2 ^ n := mvL_lt hk fun a ha => HIN.out a (List.mem_of_mem_take ha)
          have hn2 : 2 ^ n ≤ 65536 := pow_small (n := 16) hn
          have htm : ((y : Int) + (k : Int)).tmod (n : Int) = ((rot n k y : Nat) : Int) := by
            rw [Int.tmod_eq_emod_of_nonneg (by omega), ← rot_mod hy hk]
            push_cast; rfl
          have hrn : rot n k y < n := rot_lt hy hk
          have hsh := wrap64 (show rot n k y < 62 by omega)
          have hp2 : 2 ^ rot n k y ≤ 65536 := pow_small (n := 16) (by omega)
          have hor := or64 (a := mvL n k (x.take j)) (b := 2 ^ rot n k y) (by omega) (by omega)
          rw [← HTK.out] at hor
          have HOR : Hid (bits BinOp.or IntKind.i64 ((mvL n k (x.take j) : Nat) : Int) ((2 : Int) ^ rot n k y) = ((mvL n k (x.take (j + 1)) : Nat) : Int)) := by
            show _ = _
            rw [← hor]
            have h2 : ((2 : Int) ^ rot n k y) = ((2 ^ rot n k y : Nat) : Int) := by simp
            rw [h2]
          clear HTK hor
          generalize mvL n k (x.take j) = S at *
          generalize rot n k y = r at *
          have h0r : (0 : Int) ≤ (r : Int) := by omega
          have hnz : ¬ n = 0 := by omega
          go_wp2_with fail
          go_roundw
          case rel => exact ⟨j + 1, by go_num, by omega, by rw [HOR.out], HBk⟩
          case measure => simp [intOf]; omega
        · have hjp2 : j = pn := by omega
          subst hjp2
          have HS : Hid (mvL n k (x.take j) = mvL n k x) := by show _ = _; rw [HPN.out, List.take_length]
          rw [HS.out]
          have HTk := hid (ownV_below HT.out HBk.out)
          have HBB := hid (below_step HBr.out HBk.out)
          clear HS HIN
          generalize mvL n k x = S at *
          go_wp2_with (first | (at_builtin; refine wpl_app_int (S : Int) _ _ (.slice oa on oc) w.heap.size xs (by rfl) (by rfl) (by rfl) (by rfl) HTk.out HLN.out HBB.out.size ?_; intro v' w7 ho7 hb7 hg7; rw [HSN.out] at ho7; have HO7 := hid ho7; have HB7 := hid (HBB.out.trans hb7); clear ho7 hb7 hg7) | fail)
          go_roundw
          case rel => exact ⟨i + 1, by go_num, by omega, HO7, HB7⟩
          case measure => simp [intOf]; omega
    · have him : i = m := by omega
      subst him
      have hfin : X.take i = X := by rw [HM.out, List.take_length]
      have hlen : (X.map (mvL n k)).length ≤ 5000 := by rw [List.length_map, ← HM.out]; omega
      have L1 : Hid (Calls Try.prog 36 #[.slice oa on oc] wr fun e w'' => ∃ u, e = .returned u ∧ IsLL w'' u (lists (X.map (mvL n k))) ∧ Below wr.heap.size wr w'') := by
        have h := HT.out
        rw [hfin] at h
        refine LI.out _ _ wr (ownV_isV h (by rw [List.length_map]; omega)) (fun s hs => ?_) hlen
        obtain ⟨x, hx, rfl⟩ := List.mem_map.1 hs
        exact Nat.lt_of_lt_of_le (mvL_lt hk (HX.out x hx)) (pow_small hn)
      clear hfin hlen
      go_wp2_with (first | (go_at_call 36; refine L1.out.mono ?_; rintro e w6 ⟨u, rfl, hi6, hb6⟩; have HI6 := hid hi6; have HB6 := hid (below_step HBr.out hb6); clear hi6 hb6) | fail)
      go_ret
      exact ⟨_, rfl, HI6.out, HB6.out⟩
end Go.Proofs.Ytaedbkdimpdngaa
