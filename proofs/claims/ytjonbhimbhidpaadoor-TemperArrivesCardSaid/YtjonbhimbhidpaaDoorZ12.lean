/-
  Walks over chapter 6: cells are counted.
  Plain facts of chapter 6: how many cells a set has.
  Walks over chapter 6: the areas; the statements cut a set.
  Words for the walks over chapter 6: a loop over a set of cells.
  Words for the walks over chapter 6: does a set hold; the region in which its maps are made, operation by operation.
  Walks over chapter 6: does a set hold.
  Walks over chapter 6: does a set hold, by the reference.
-/
import Derived.Test.YtjonbhimbhidpaaDoorZ11
import Derived.Maps.RangeWalk
namespace Go.Proofs.YtjonbhimbhidpaaDoor
open Go.RowKit

def cntS (s : Str) : Nat := s.countP (· == 46)
def cntP (p : List Str) : Nat := (p.map cntS).sum
def cntG (g : Grid) : Nat := (g.map cntP).sum
theorem cntS_succ (s : Str) (x : Nat) (h : x < s.length) : cntS (s.take (x + 1)) = cntS (s.take x) + (if (s[x] == 46) = true then 1 else 0) := by
  unfold cntS
  rw [List.take_succ_eq_append_getElem h, List.countP_append, List.countP_singleton]
theorem cntP_succ (p : List Str) (y : Nat) (h : y < p.length) : cntP (p.take (y + 1)) = cntP (p.take y) + cntS (p.getD y []) := by
  unfold cntP
  rw [List.take_succ_eq_append_getElem h, List.map_append, List.sum_append, List.getD_eq_getElem?_getD, List.getElem?_eq_getElem h]
  simp
theorem cntG_succ (g : Grid) (y : Nat) (h : y < g.length) : cntG (g.take (y + 1)) = cntG (g.take y) + cntP (g.getD y []) := by
  unfold cntG
  rw [List.take_succ_eq_append_getElem h, List.map_append, List.sum_append, List.getD_eq_getElem?_getD, List.getElem?_eq_getElem h]
  simp
theorem cntS_le (s : Str) : cntS s ≤ s.length := List.countP_le_length
theorem sum_le {α : Type} (f : α → Nat) (n : Nat) : ∀ l : List α, (∀ a ∈ l, f a ≤ n) → (l.map f).sum ≤ l.length * n
  | [], _ => by simp
  | a :: l, h => by
    have h1 := sum_le f n l (fun b hb => h b (List.mem_cons_of_mem _ hb))
    have h2 := h a List.mem_cons_self
    rw [List.map_cons, List.sum_cons, List.length_cons, Nat.succ_mul]
    omega
theorem cntP_le (p : List Str) (h : ∀ s ∈ p, s.length ≤ 1000) (hl : p.length ≤ 1000000) : cntP p ≤ 1000000000 := by
  have h1 := sum_le cntS 1000 p (fun s hs => Nat.le_trans (cntS_le s) (h s hs))
  unfold cntP
  omega
theorem cntG_le (g : Grid) (h : ShortG g) (hl : ∀ p ∈ g, p.length ≤ 1000000) (hg : g.length ≤ 1000000) : cntG g ≤ 1000000000000000 := by
  have h1 := sum_le cntP 1000000000 g (fun p hp => cntP_le p (h p hp) (hl p hp))
  unfold cntG
  omega
theorem short_take {g : Grid} (h : ShortG g) (n : Nat) : ShortG (g.take n) := fun p hp => h p (List.mem_of_mem_take hp)
theorem letter_eq (s : Str) (x : Nat) (hx : x < (strB s).size) (k : UInt8) (hk : x < s.length) : ((((((strB s)[x]'hx).toNat : Nat) : Int)) == ((k.toNat : Nat) : Int)) = (s[x] == k) := by
  have h := letter_ne s x hx k hk
  unfold bne at h
  simpa using h

set_option maxHeartbeats 4000000 in
set_option maxRecDepth 100000 in
theorem count_any (v : Value) (g : Grid) (w : World) (hg : IsGrid w v g) (hs : ShortG g) :
    Calls Tryd.prog 34 #[v] w fun e w' => e = .returned (.int .i64 (cntG g)) ∧ w' = w := by
  obtain ⟨a, c, rfl, hl, hc⟩ := hg
  have HC := hid hc
  have HS := hid hs
  have HLL : Hid (∀ p ∈ g, p.length ≤ 1000000) := by
    intro p hp
    obtain ⟨i, hi, rfl⟩ := List.mem_iff_getElem.1 hp
    obtain ⟨_, u, _, _, _, _, _, h2, _⟩ := hc i hi
    have e : g.getD i [] = g[i] := by simp [hi]
    rwa [e] at h2
  obtain ⟨N, hN⟩ : ∃ N, N = g.length := ⟨_, rfl⟩
  have HLG : Hid (∀ n, cntG (g.take n) ≤ 1000000000000000) := fun n => cntG_le _ (short_take hs n) (fun p hp => HLL.out p (List.mem_of_mem_take hp)) (by rw [List.length_take]; omega)
  rw [← hN] at hl ⊢
  have HN := hid hN
  clear hc hs hN
  go_enter Tryd.func34, Tryd.ntmps34
  go_wp2
  go_loopw [3, 4] (fun nv v wr => ∃ i : Nat, v = .int .i64 i ∧ nv = .int .i64 (cntG (g.take i)) ∧ i ≤ N ∧ wr = w) (fun _ v _ => N - (intOf v).toNat)
  case atStart => exact ⟨0, rfl, by simp [cntG], Nat.zero_le _, rfl⟩
  case round =>
    obtain ⟨i, rfl, rfl, hi, rfl⟩ := hrel
    by_cases hlt : i < N
    · have hlt' : i < g.length := by rw [← HN.out]; exact hlt
      obtain ⟨gb, u, rfl, hcell, hst⟩ := HC.out i hlt'
      obtain ⟨p, hpe⟩ : ∃ p, p = g.getD i [] := ⟨_, rfl⟩
      have hpm : p ∈ g := by rw [hpe]; simp [hlt']
      have HNX : Hid (cntG (g.take (i + 1)) = cntG (g.take i) + cntP p) := by rw [hpe]; exact cntG_succ g i hlt'
      rw [← hpe] at hst
      obtain ⟨a2, c2, rfl, hpl, hc2⟩ := hst
      obtain ⟨M, hM⟩ : ∃ M, M = p.length := ⟨_, rfl⟩
      have HC2 := hid hc2
      have HPS : Hid (∀ s ∈ p, s.length ≤ 1000) := HS.out p hpm
      have HPL : Hid (∀ n, cntP (p.take n) ≤ 1000000000) := fun n => cntP_le _ (fun s hs => HPS.out s (List.mem_of_mem_take hs)) (by rw [List.length_take]; omega)
      obtain ⟨n0, hn0⟩ : ∃ n0, n0 = cntG (g.take i) := ⟨_, rfl⟩
      have hb0 : n0 ≤ 1000000000000000 := by rw [hn0]; exact HLG.out i
      rw [← hn0]
      rw [← hn0] at HNX
      rw [← hM] at hcell hpl
      have HM := hid hM
      clear hpe hpm hc2 hlt' hn0 hM
      go_wp2
      go_loopw [3, 5] (fun nv v wr2 => ∃ y : Nat, v = .int .i64 y ∧ nv = .int .i64 ((n0 + cntP (p.take y) : Nat) : Int) ∧ y ≤ M ∧ wr2 = wr) (fun _ v _ => M - (intOf v).toNat)
      case atStart => exact ⟨0, rfl, by simp [cntP], Nat.zero_le _, rfl⟩
      case round =>
        obtain ⟨y, rfl, rfl, hy, rfl⟩ := hrel
        by_cases hly : y < M
        · have hly' : y < p.length := by rw [← HM.out]; exact hly
          obtain ⟨gb2, rfl, hcell2⟩ := HC2.out y hly'
          obtain ⟨s, hse⟩ : ∃ s, s = p.getD y [] := ⟨_, rfl⟩
          have hsl : s.length ≤ 1000 := HPS.out s (by rw [hse]; simp [hly'])
          have HNY : Hid (cntP (p.take (y + 1)) = cntP (p.take y) + cntS s) := by rw [hse]; exact cntP_succ p y hly'
          rw [← hse] at hcell2
          have hsz := strB_size s
          have HSZ := hid hsz
          obtain ⟨n1, hn1⟩ : ∃ n1, n1 = n0 + cntP (p.take y) := ⟨_, rfl⟩
          have hb1 : n1 ≤ 2000000000000000 := by have := HPL.out y; omega
          have HN1 := hid hn1
          rw [← hn1]
          clear hse hly' hn1
          go_wp2
          go_loopw [3, 6] (fun nv v wr3 => ∃ x : Nat, v = .int .i64 x ∧ nv = .int .i64 ((n1 + cntS (s.take x) : Nat) : Int) ∧ x ≤ (strB s).size ∧ wr3 = wr) (fun _ v _ => (strB s).size - (intOf v).toNat)
          case atStart => exact ⟨0, rfl, by simp [cntS], Nat.zero_le _, rfl⟩
          case round =>
            obtain ⟨x, rfl, rfl, hxs, rfl⟩ := hrel
            obtain ⟨n2, hn2⟩ : ∃ n2, n2 = n1 + cntS (s.take x) := ⟨_, rfl⟩
            have hb2 : n2 ≤ 3000000000000000 := by
              have := cntS_le (s.take x)
              rw [List.length_take] at this
              omega
            have HN2 := hid hn2
            rw [← hn2]
            by_cases hlx : x < (strB s).size
            · have hlx' : x < s.length := by rw [← HSZ.out]; exact hlx
              have d1 := letter_eq s x hlx 46 hlx'
              have HX : Hid (n1 + cntS (s.take (x + 1)) = n2 + if (s[x] == 46) = true then 1 else 0) := by
                show _ = _
                rw [cntS_succ s x hlx', hn2, Nat.add_assoc]
              have e46 : (((46 : UInt8).toNat : Nat) : Int) = 46 := rfl
              rw [e46] at d1
              generalize (s[x] == 46) = b1 at *
              clear e46 hlx' hn2
              cases b1
              · have HX2 : Hid (n2 = n1 + cntS (s.take (x + 1))) := by rw [HX.out]; rfl
                go_wp2
                go_roundw
                case rel => exact ⟨x + 1, by go_num, by rw [← HX2.out], by omega, trivial⟩
                case measure => simp [intOf]; omega
              · have HX2 : Hid (n2 + 1 = n1 + cntS (s.take (x + 1))) := by rw [HX.out]; rfl
                go_wp2
                go_roundw
                case rel => exact ⟨x + 1, by go_num, by rw [← HX2.out]; go_num, by omega, trivial⟩
                case measure => simp [intOf]; omega
            · obtain rfl : x = (strB s).size := by omega
              have HE : Hid (n2 = n0 + cntP (p.take (y + 1))) := by
                show _ = _
                rw [HN2.out, HSZ.out, List.take_of_length_le (Nat.le_refl _), HN1.out, HNY.out]; omega
              clear hn2
              go_wp2
              go_roundw
              case rel => exact ⟨y + 1, by go_num, by rw [← HE.out], by omega, trivial⟩
              case measure => simp [intOf]; omega
        · obtain rfl : y = M := by omega
          have HE : Hid (n0 + cntP (p.take y) = cntG (g.take (i + 1))) := by
            show _ = _
            rw [HNX.out, HM.out, List.take_of_length_le (Nat.le_refl _)]
          go_wp2
          go_roundw
          case rel => exact ⟨i + 1, by go_num, by rw [← HE.out], by omega, trivial⟩
          case measure => simp [intOf]; omega
    · obtain rfl : i = N := by omega
      have HE : Hid (cntG (g.take i) = cntG g) := by
        show _ = _
        rw [HN.out, List.take_of_length_le (Nat.le_refl _)]
      go_wp2
      go_ret
      exact ⟨by rw [HE.out]; rfl, rfl⟩
end Go.Proofs.YtjonbhimbhidpaaDoor

namespace Go.Proofs.YtjonbhimbhidpaaDoor
theorem countP_mul (a b : Nat) (q : Nat → Bool) : (List.range (a * b)).countP q = ((List.range a).map fun i => (List.range b).countP fun j => q (i * b + j)).sum := by
  induction a with
  | zero => simp
  | succ a ih =>
    rw [Nat.succ_mul, List.range_add, List.countP_append, ih, List.range_succ, List.map_append, List.sum_append, List.countP_map]
    simp [Function.comp_def]
theorem letterB_46 (b : Bool) : (letterB b == 46) = b := by cases b <;> rfl
theorem cntG_gridOf (o : Ov) (S : Sp → Bool) : cntG (o.gridOf S) = (o.cells.filter S).length := by
  rw [← List.countP_eq_length_filter]
  unfold Ov.cells Ov.N
  rw [List.countP_map, countP_mul]
  unfold cntG Ov.gridOf
  rw [List.map_map]
  refine congrArg List.sum (List.map_congr_left fun p hp => ?_)
  rw [List.mem_range] at hp
  rw [countP_mul]
  show cntP (o.phG S p) = _
  unfold cntP Ov.phG
  rw [List.map_map]
  refine congrArg List.sum (List.map_congr_left fun y hy => ?_)
  rw [List.mem_range] at hy
  show cntS (o.rowG S p y) = _
  unfold cntS Ov.rowG
  rw [List.countP_map]
  refine List.countP_congr fun x hx => ?_
  rw [List.mem_range] at hx
  have e : p * (o.R * o.C) + (y * o.C + x) = o.at' p x y := by
    unfold Ov.at'
    rw [Nat.add_mul, Nat.mul_assoc, Nat.add_assoc]
  simp only [Function.comp]
  rw [e, cellAt_at o p x y hx hy, letterB_46]
theorem cntG_form (o : Ov) (g : Grid) (h : formB o.P o.R o.C g = true) : cntG g = (o.cells.filter (inG g)).length := by
  have := cntG_gridOf o (inG g)
  rwa [grid_eq o g h] at this
theorem short_form {P R C : Nat} {g : Grid} (h : formB P R C g = true) (hC : C ≤ 16) : ShortG g := by
  intro p hp s hs
  unfold formB at h
  simp only [Bool.and_eq_true, decide_eq_true_eq, List.all_eq_true] at h
  have h2 := h.2 p hp
  unfold phaseOk rowsOk at h2
  simp only [Bool.and_eq_true, decide_eq_true_eq, List.all_eq_true] at h2
  have h3 := h2.2 s hs
  unfold rowOk at h3
  simp only [Bool.and_eq_true, decide_eq_true_eq] at h3
  omega
end Go.Proofs.YtjonbhimbhidpaaDoor

namespace Go.Proofs.YtjonbhimbhidpaaDoor
open Go.RowKit

theorem ownG_slice' {w : World} {B : Nat} {v : Value} {g : Grid} (h : OwnG w B v g) : ∃ a n c, v = .slice a n c := by
  obtain ⟨a, c, h⟩ := ownG_slice h
  exact ⟨a, _, c, h⟩
/-- what Area returns -/
def areaV (o : Ov) : Value := if o.valid = true then .tuple #[.int .i64 ((o.cells.filter (inG o.safe)).length), .int .i64 ((o.cells.filter o.KK).length), .int .i64 0] else .tuple #[.int .i64 0, .int .i64 0, .int .i64 1]
set_option maxHeartbeats 4000000 in
set_option maxRecDepth 100000 in
theorem area_any (vs vm vj : Value) (o : Ov) (w : World) (ho : IsOv w vs vm vj o) (hn : o.Num) :
    Calls Tryd.prog 33 #[.agg #[vs, vm, vj]] w fun e w' => e = .returned (areaV o) ∧ Below w.heap.size w w' := by
  have cr := hid (read_any _ _ _ o _ (isOv_below ho ((Below.refl w.heap.size w).alloc (Nat.le_refl _) (.cells #[vs, vm, vj] 26))) hn)
  obtain ⟨⟨av, cv, rfl, _, _⟩, _, _⟩ := ho
  have HB : Hid (Below w.heap.size w (w.alloc (.cells #[.slice av o.safe.length cv, vm, vj] 26))) := (Below.refl w.heap.size w).alloc (Nat.le_refl _) _
  obtain ⟨P, hP⟩ : ∃ P, P = o.safe.length := ⟨_, rfl⟩
  rw [← hP] at cr HB ⊢
  obtain ⟨W, hW⟩ : ∃ W, W = (w.alloc (.cells #[.slice av P cv, vm, vj] 26)) := ⟨_, rfl⟩
  rw [← hW] at cr HB
  have HW := hid hW
  clear hn hW hP
  cases hv : o.valid
  · have HR : Hid (areaV o = .tuple #[.int .i64 0, .int .i64 0, .int .i64 1]) := by unfold areaV; rw [if_neg (by rw [hv]; decide)]; exact rfl
    have cr2 : Hid (Calls Tryd.prog 51 #[.agg #[.slice av P cv, vm, vj]] W (fun e w' => e = .returned (.tuple #[.pointer none, .bool false]) ∧ Below W.heap.size W w')) := (cr.out).mono (by
      rintro e w4 ⟨hb4, h4⟩
      rw [hv, if_neg (by decide)] at h4
      exact ⟨h4, hb4⟩)
    clear hv cr
    go_enter Tryd.func33, Tryd.ntmps33
    go_wp2_with (first | (go_at_call 51; rw [← HW.out]; refine (cr2.out).mono ?_; rintro e w4 ⟨rfl, hb4⟩; have HB4 := hid hb4; clear hb4) | fail)
    (try simp only [Exit.inBlock, Exit.then])
    refine bodyPost_ret (results_tmp3 rfl _ _ _) rfl ?_
    exact ⟨ret_eq HR.out.symm, HB.out.trans (HB4.out.mono HB.out.size)⟩
  · have HOK := hid (ok_of_valid hv)
    have HR : Hid (areaV o = .tuple #[.int .i64 ((o.cells.filter (inG o.safe)).length), .int .i64 ((o.cells.filter o.KK).length), .int .i64 0]) := by unfold areaV; rw [if_pos hv]; exact rfl
    have cr2 : Hid (Calls Tryd.prog 51 #[.agg #[.slice av P cv, vm, vj]] W (fun e w' => ∃ xb, e = .returned (.tuple #[.pointer (some ⟨xb, 0, none⟩), .bool true]) ∧ OvAt w' xb (.slice av P cv) vm vj o ∧ Below W.heap.size W w')) := (cr.out).mono (by
      rintro e w4 ⟨hb4, h4⟩
      rw [hv, if_pos rfl] at h4
      obtain ⟨xb, h5, h6⟩ := h4
      exact ⟨xb, h5, h6, hb4⟩)
    clear hv cr
    go_enter Tryd.func33, Tryd.ntmps33
    go_wp2_with (first
      | (go_at_call 51; rw [← HW.out]; refine (cr2.out).mono ?_; rintro e w4 ⟨xb, rfl, hov, hb4⟩; have HOV := hid hov; have HB4 := hid hb4; clear hb4 hov)
      | (go_at_call 45; refine (kernel_kk xb _ vm vj o _ HOV.out HOK.out).mono ?_; rintro e w5 ⟨m, ml, n, rfl, hS, hN, hb5⟩; have HOV5 := hid (ovAt_below HOV.out hb5); have y0 := HOV5.out.c0; have HS5 := hid hS; have HB5 := hid hb5; clear hS hN hb5)
      | (go_at_call 54; refine (in_any xb _ vm vj o _ o.safe _ HOV5.out HOK.out HOV5.out.ov.safe HOK.out.form).mono ?_; rintro e w6 ⟨m2, rfl, hm2, hS6, hb6⟩; have hl1 := fun ty => setW_len hS6 ty; have hl2 := fun ty => setW_len (setW_below HS5.out hb6 (setW_lt HS5.out)) ty; have HB6 := hid hb6; clear hm2 hS6 hb6)
      | fail)
    (try simp only [Exit.inBlock, Exit.then])
    refine bodyPost_ret (results_tmp3 rfl _ _ _) rfl ?_
    refine ⟨ret_eq HR.out.symm, ?_⟩
    have hb := HB.out.trans (HB4.out.mono HB.out.size)
    have hb' := hb.trans (HB5.out.mono hb.size)
    exact hb'.trans (HB6.out.mono hb'.size)

set_option maxHeartbeats 4000000 in
set_option maxRecDepth 100000 in
/-- the statements' set -/
theorem set_any (v : Value) (g : Grid) (w : World) (hg : ArgGrid w v g) :
    Calls Tryd.prog 35 #[v] w fun e w' => ∃ v', e = .returned v' ∧ OwnG w' w.heap.size v' ((g.take 5).map cutStrs) ∧ Below w.heap.size w w' := by
  obtain ⟨a, c, rfl, hl, hc⟩ := hg
  have HC := hid hc
  obtain ⟨N, hN⟩ : ∃ N, N = g.length := ⟨_, rfl⟩
  rw [← hN] at hl ⊢
  have HN := hid hN
  obtain ⟨T, hT⟩ : ∃ T, T = min N 5 := ⟨_, rfl⟩
  unfold maxLen at hl
  clear hc hN
  have HM : Hid (OwnG (w.alloc (.cells #[] 71)) w.heap.size (.slice (some ⟨w.heap.size, 0, none⟩) 0 0) []) := ownG_made w _ (Nat.le_refl _)
  have HB0 : Hid (Below w.heap.size w (w.alloc (.cells #[] 71))) := (Below.refl _ _).alloc (Nat.le_refl _) _
  go_enter Tryd.func35, Tryd.ntmps35
  go_wp2
  go_loopw [3, 4] (fun v iv wr => ∃ (i : Nat) (a : Option Addr) (n c : Nat), iv = .int .i64 i ∧ v = .slice a n c ∧ i ≤ T ∧ Hid (OwnG wr w.heap.size (.slice a n c) ((g.take i).map cutStrs)) ∧ Hid (Below w.heap.size w wr)) (fun _ iv _ => T - (intOf iv).toNat)
  case atStart => exact ⟨0, _, 0, 0, rfl, rfl, Nat.zero_le _, by rw [List.take_zero]; exact HM, HB0⟩
  case round =>
    obtain ⟨i, a2, n2, c2, rfl, rfl, hi, HT, HB⟩ := hrel
    by_cases hlt : i < T
    · have hiN : i < N := by omega
      have hi5 : i < 5 := by omega
      have hig : i < g.length := by rw [← HN.out]; exact hiN
      obtain ⟨ad, u, rfl, hadb, hcell, hst⟩ := HC.out i hig
      obtain ⟨ua, uc, rfl, _, _⟩ := id hst
      obtain ⟨un, hun⟩ : ∃ un, un = (g.getD i []).length := ⟨_, rfl⟩
      rw [← hun] at hcell hst
      have HAS := hid hst
      have e1 := (HB.out.cell (p := ad.add i) (by rw [add_block]; exact hadb)).trans hcell
      have HLN : Hid (((g.take i).map cutStrs).length < 1000000) := by show _ < _; simp; omega
      have HLX : Hid ((g.take i).map cutStrs ++ [cutStrs (g.getD i [])] = (g.take (i + 1)).map cutStrs) := by
        show _ = _
        rw [List.take_succ_eq_append_getElem hig, List.map_append, List.getD_eq_getElem?_getD, List.getElem?_eq_getElem hig]; rfl
      clear hun hcell hst hig
      go_wp2_with (first
        | (go_at_call 43; refine (strings_any (.slice ua un uc) (g.getD i []) _ (argStrs_below HAS.out HB.out)).mono ?_; rintro e w7 ⟨v7, rfl, ht7, hb7⟩; obtain ⟨q1, q2, q3, rfl⟩ := ownT_slice' ht7; have HT7 : Hid (OwnT w7 w.heap.size (.slice q1 q2 q3) (cutStrs (g.getD i []))) := ownT_mono ht7 HB.out.size; have HG7 := hid (ownG_below HT.out hb7); have HB7 : Hid (Below w.heap.size w w7) := HB.out.trans (hb7.mono HB.out.size); clear ht7 hb7)
        | (at_builtin; refine wpl_app_row (.slice q1 q2 q3) (cutStrs (g.getD i [])) _ _ (.slice a2 n2 c2) w.heap.size _ (by rfl) (by rfl) (by rfl) (by rfl) HG7.out HT7.out HLN.out HB7.out.size ?_; intro v' w8 ho8 hb8; rw [HLX.out] at ho8; obtain ⟨sa, sn, sc, rfl⟩ := ownG_slice' ho8; have HO8 := hid ho8; have HB8 : Hid (Below w.heap.size w w8) := HB7.out.trans hb8; clear ho8 hb8)
        | fail)
      go_roundw
      case rel => exact ⟨i + 1, _, _, _, by go_num, rfl, by omega, HO8, HB8⟩
      case measure => simp [intOf]; omega
    · obtain rfl : i = T := by omega
      have HTE : Hid (g.take i = g.take 5) := by
        have h1 := HN.out
        show _ = _
        rw [List.take_eq_take_iff]; omega
      by_cases hiN : i < N
      all_goals
        go_wp2
        go_ret
        refine ⟨_, rfl, ?_, HB.out⟩
        rw [← HTE.out]
        exact HT.out
end Go.Proofs.YtjonbhimbhidpaaDoor

namespace Go.Proofs.YtjonbhimbhidpaaDoor
open Go.RowKit

/-- block r is an iterator over the set at block b; T: the cells that are still to come -/
def RangeS (W : World) (b r : Nat) (L T : List Sp) : Prop :=
  ∃ D left cnt, W.ranges (H := Unit) Tryd.prog 87 (plainElem Tryd.prog 4) b r L.length D left cnt ∧ SetD D L ∧ (∀ z, left z = true → Maps.has D z = true) ∧ (∀ c, InR c → left (kl c) = decide (c ∈ T)) ∧ T.Nodup ∧ ∀ c ∈ T, c ∈ L
theorem RangeS.set {W : World} {b r : Nat} {L T : List Sp} (h : RangeS W b r L T) : SetW W b L := by
  obtain ⟨D, left, cnt, h, hD, _⟩ := h
  exact ⟨D, h.owns, hD⟩
theorem RangeS.kept {W W' : World} {b r : Nat} {L T : List Sp} {row : Option Nat} (h : RangeS W b r L T) (hg : W.grownBy W' row) (h1 : some b ≠ row) (h2 : some r ≠ row) : RangeS W' b r L T := by
  obtain ⟨D, left, cnt, h, hD⟩ := h
  exact ⟨D, left, cnt, h.kept hg h1 h2, hD⟩
theorem left_same {W W' : World} {b r : Nat} (h1 : W'.heap[b]? = W.heap[b]?) (h2 : W'.heap[r]? = W.heap[r]?) : W'.rangeLeft b r = W.rangeLeft b r := by
  unfold World.rangeLeft
  rw [h1, h2]
theorem RangeS.lt {W : World} {b r : Nat} {L T : List Sp} (h : RangeS W b r L T) : r < W.heap.size ∧ b < W.heap.size ∧ r ≠ b := by
  have hs := setW_lt h.set
  obtain ⟨D, left, cnt, h, hD⟩ := h
  exact ⟨h.lt, hs, h.ne⟩
section
variable {w : World} {ops : Array Oper} {rest : List Oper} {o : Oper} {a : Act} {Q : Exit → Act → World → Prop}
theorem wpl_range_set (hg : o.guard = none) (m : Operand) (b : Nat) (L : List Sp) (hop : o.op = Op.range 90 m) (hm : a.eval m = .map (some b)) (hs : SetW w b L)
    (hK : ∀ w', RangeS w' b w.heap.size L L → w.grownBy w' none → w'.heap.size = w.heap.size + 1 → wpList Tryd.prog ops Q rest (a.put o.dst (.pointer (some ⟨w.heap.size, 0, none⟩))) w') :
    wpList Tryd.prog ops Q (o :: rest) a w := by
  obtain ⟨D, hD, hS⟩ := hs
  refine wpList_range_own w hg m 90 hop 87 4 K87 Tryd.underlying90 (plainElem Tryd.prog 4) b L.length D hm hD (fun w' r1 r2 r3 => hK w' ?_ r2 r3)
  exact ⟨D, _, _, r1, hS, fun z h => h, fun c hc => hS.has_kl hc, hS.nodup, fun c h => h⟩
theorem wpl_next_set (hg : o.guard = none) (it : Operand) (hop : o.op = Op.next it false) (b r : Nat) (L T : List Sp) (hit : a.eval it = .pointer (some ⟨r, 0, none⟩)) (h : RangeS w b r L T)
    (hDone : T = [] → wpList Tryd.prog ops Q rest (a.put o.dst (.tuple #[.bool false])) w)
    (hMore : ∀ (c : Sp) (v : Value) (w' : World), c ∈ T → c ∈ L → InR c → RangeS w' b r L (T.erase c) → w'.rangeLeft b r < w.rangeLeft b r → w.grownBy w' (some r) → w'.heap.size = w.heap.size →
      (Instr.entry (.pointer (some ⟨r, 0, none⟩))).run Tryd.prog w' = .ok (.tuple #[spv c, v]) w' → wpList Tryd.prog ops Q rest (a.put o.dst (.tuple #[.bool true, spv c, v])) w') :
    wpList Tryd.prog ops Q (o :: rest) a w := by
  obtain ⟨D, left, cnt, h, hD, hl, hT, hn, hsub⟩ := h
  refine wpList_plain hg fun K' hK' => ?_
  unfold Oper.wp
  rcases h.next K87 o.type with ⟨h0, hl0, hrun⟩ | ⟨key, v, z, y, w', cnt', hkey, hlk, hv, hat, hrun, hrg, hlt, hgr, hsz, hen⟩
  · simp [execOp, hop, hit, hrun, Result.andThen]
    refine hK' _ _ (hDone ?_)
    cases T with
    | nil => rfl
    | cons c T =>
      have hc := hD.inR c (hsub c List.mem_cons_self)
      have := hT c hc
      rw [hl0] at this
      simp at this
  · have hz := hl z hlk
    rw [hD.has, List.any_eq_true] at hz
    obtain ⟨c, hcL, hs⟩ := hz
    have hc := hD.inR c hcL
    obtain rfl := WideAt.sameKey_eq hs
    obtain rfl : key = spv c := K87.inj hkey (keyOf_sp hc)
    have hcT : c ∈ T := by
      have := hT c hc
      rw [hlk] at this
      simpa using this.symm
    simp [execOp, hop, hit, hrun, Result.andThen]
    refine hK' _ _ (hMore c v w' hcT hcL hc ⟨D, _, cnt', hrg, hD, fun z hz => ?_, fun d hd => ?_, hn.erase _, fun d hd => hsub d (List.mem_of_mem_erase hd)⟩ (by rw [hrg.left_eq, h.left_eq]; exact hlt) hgr hsz hen)
    · simp only [Bool.and_eq_true] at hz
      exact hl z hz.1
    · rw [hT d hd, kl_same hd hc, Bool.eq_iff_iff]
      simp only [Bool.and_eq_true, decide_eq_true_eq, Bool.not_eq_true', decide_eq_false_iff_not]
      rw [hn.mem_erase_iff]
      exact And.comm
end
end Go.Proofs.YtjonbhimbhidpaaDoor

namespace Go.Proofs.YtjonbhimbhidpaaDoor
open Go.RowKit
section
variable {md : Region.Mode} {ops : Array Oper} {Q : Exit → Act → World → Prop} {S : World → Prop} {fuel : Nat} {listed : Array Bool} {a : Act} {w : World} {i : Nat} {o : Oper} {rs : List Nat}
theorem node_call54 (d k1 k2 : Nat) (v1 v2 : Value) (hi : ops[i]? = some o) (hgd : o.guard = none) (ho : o.op = .call { callee := .value (.func 54), args := #[.tmp k1, .tmp k2], argTypes := #[85, 22] }) (hd : o.dst = some d)
    (hp1 : a.tmps[k1]?.getD undef = v1) (hp2 : a.tmps[k2]?.getD undef = v2)
    (h : Calls Tryd.prog 54 #[v1, v2] w fun e w' => ∃ u, e = .returned u ∧ S w' ∧ wpAnyH Tryd.prog md ops Q S fuel (listed.setIfInBounds i true) (a.put (some d) u) w')
    (hs : AllReadyH Tryd.prog md ops Q S fuel listed a w rs) : AllReadyH Tryd.prog md ops Q S fuel listed a w (i :: rs) := by
  refine AllReadyH.cons hi (fun K hK => ?_) hs
  have hw : Region.wanted o (yielded ops a.tmps) = true := by simp [Region.wanted, hgd]
  rw [if_pos hw]
  unfold Oper.wp execOp
  simp [ho, go_sem, hp1, hp2]
  refine h.mono ?_
  rintro e w' ⟨u, rfl, h1, h2⟩
  have hk := hK.out _ _ h1 (fun _ => h2)
  rw [hd]
  exact hk
theorem node_alloc90 (d : Nat) (hi : ops[i]? = some o) (hgd : o.guard = none) (ho : o.op = .alloc 90) (hd : o.dst = some d) (hS : S (w.alloc (.cells #[.map none] 90)))
    (h : S (w.alloc (.cells #[.map none] 90)) → wpAnyH Tryd.prog md ops Q S fuel (listed.setIfInBounds i true) (a.put (some d) (.pointer (some ⟨w.heap.size, 0, none⟩))) (w.alloc (.cells #[.map none] 90)))
    (hs : AllReadyH Tryd.prog md ops Q S fuel listed a w rs) : AllReadyH Tryd.prog md ops Q S fuel listed a w (i :: rs) := by
  refine AllReadyH.cons hi (fun K hK => ?_) hs
  have hw : Region.wanted o (yielded ops a.tmps) = true := by simp [Region.wanted, hgd]
  rw [if_pos hw]
  have hk := hK.out _ _ hS h
  unfold Oper.wp execOp
  simp [ho, go_sem]
  rw [hd]
  exact hk
theorem node_store90 (k j : Nat) (X : Nat) (m : Nat) (hi : ops[i]? = some o) (hgd : o.guard = none) (ho : o.op = .store 90 (.tmp k) (.tmp j)) (hd : o.dst = none)
    (hp : a.tmps[k]?.getD undef = .pointer (some ⟨X, 0, none⟩)) (hv : a.tmps[j]?.getD undef = .map (some m))
    (hh : w.heap[X]? = some (.cells #[.map none] 90)) (hS : S (w.setCell ⟨X, 0, none⟩ (.map (some m))))
    (h : wpAnyH Tryd.prog md ops Q S fuel (listed.setIfInBounds i true) a (w.setCell ⟨X, 0, none⟩ (.map (some m))))
    (hs : AllReadyH Tryd.prog md ops Q S fuel listed a w rs) : AllReadyH Tryd.prog md ops Q S fuel listed a w (i :: rs) := by
  refine AllReadyH.cons hi (fun K hK => ?_) hs
  have hw : Region.wanted o (yielded ops a.tmps) = true := by simp [Region.wanted, hgd]
  rw [if_pos hw]
  have k0 : w.cell? ⟨X, 0, none⟩ = some (.map none) := by simp [World.cell?, hh]
  have f0 : w.frozen? ⟨X, 0, none⟩ = false := by simp [World.frozen?, hh]
  have hk := hK.out _ _ hS (fun _ => h)
  unfold Oper.wp execOp
  simp [ho, go_sem, hp, hv, k0, f0]
  rw [hd]
  exact hk
end
theorem setW_obj {W : World} {b : Nat} {L : List Sp} (h : SetW W b L) : ∃ es clock, W.heap[b]? = some (.map es clock) := by
  obtain ⟨D, ⟨es, clock, hb, _⟩, _⟩ := h
  exact ⟨es, clock, hb⟩
theorem setW_set {W : World} {b X : Nat} {L : List Sp} {cs : Array Value} {t : TypeId} (h : SetW W b L) (hX : W.heap[X]? = some (.cells cs t)) (u : Value) : SetW (W.setCell ⟨X, 0, none⟩ u) b L := by
  refine setW_kept h (grown_set W ⟨X, 0, none⟩ u) ?_
  intro e
  obtain ⟨es, clock, hb⟩ := setW_obj h
  cases e
  rw [hb] at hX
  cases hX
theorem RangeS.below {W W' : World} {b r : Nat} {L T : List Sp} (h : RangeS W b r L T) (hb : Below W.heap.size W W') : RangeS W' b r L T ∧ W'.rangeLeft b r = W.rangeLeft b r := by
  obtain ⟨h1, h2, _⟩ := h.lt
  refine ⟨?_, left_same (hb.block b h2) (hb.block r h1)⟩
  obtain ⟨D, left, cnt, ⟨es, clock, since, seen, c0, q1, q2, q3, q4, q5, q6⟩, hD⟩ := h
  exact ⟨D, left, cnt, ⟨es, clock, since, seen, c0, (hb.block b h2).trans q1, q2, q3, q4, (hb.block r h1).trans q5, q6⟩, hD⟩
theorem dec_in (o : Ov) (f : Sp → Bool) : (fun d => decide (d ∈ o.cells.filter f)) = fun d => o.ex d && f d := by
  funext d
  rw [Bool.eq_iff_iff, decide_eq_true_eq, List.mem_filter, mem_cells, Bool.and_eq_true]
/-- a cell of a set is as a set that holds wants it -/
def Ov.good (o : Ov) (g : Grid) (c : Sp) : Bool := inG o.safe c && o.canM (fun d => o.ex d && inG g d) c
/-- a set holds -/
def Ov.holds (o : Ov) (g : Grid) : Bool := (o.cells.filter (inG g)).all (o.good g)
/-- what Holds returns -/
def holdsV (o : Ov) (g : Grid) : Value := if o.valid = true then (if formB o.P o.R o.C g = true then .tuple #[.bool (o.holds g), .int .i64 0] else .tuple #[.bool false, .int .i64 2]) else .tuple #[.bool false, .int .i64 1]
theorem wpl_next_set3 {w : World} {ops : Array Oper} {rest : List Oper} {o : Oper} {a : Act} {Q : Exit → Act → World → Prop} (hg : o.guard = none) (it : Operand) (hop : o.op = Op.next it false) (b r : Nat) (L T : List Sp) (hit : a.eval it = .pointer (some ⟨r, 0, none⟩)) (h : RangeS w b r L T)
    (hDone : T = [] → wpList Tryd.prog ops Q rest (a.put o.dst (.tuple #[.bool false])) w)
    (hMore : ∀ (p x y : Int) (v : Value) (w' : World), (p, x, y) ∈ T → (p, x, y) ∈ L → InR (p, x, y) → RangeS w' b r L (T.erase (p, x, y)) → w'.rangeLeft b r < w.rangeLeft b r → w.grownBy w' (some r) → w'.heap.size = w.heap.size →
      (Instr.entry (.pointer (some ⟨r, 0, none⟩))).run Tryd.prog w' = .ok (.tuple #[.agg #[.int .i64 p, .int .i64 x, .int .i64 y], v]) w' → wpList Tryd.prog ops Q rest (a.put o.dst (.tuple #[.bool true, .agg #[.int .i64 p, .int .i64 x, .int .i64 y], v])) w') :
    wpList Tryd.prog ops Q (o :: rest) a w :=
  wpl_next_set hg it hop b r L T hit h hDone (fun c v w' h1 h2 h3 h4 h5 h6 h7 h8 => hMore c.1 c.2.1 c.2.2 v w' h1 h2 h3 h4 h5 h6 h7 h8)
/-- the region's state: the box for the set, the two sets -/
structure R2 (W : World) (L1 L2 : List Sp) (w : World) (x m1 m2 : Option Nat) : Prop where
  below : Below W.heap.size W w
  hx : ∀ g, x = some g → W.heap.size ≤ g ∧ w.heap[g]? = some (.cells #[.map none] 90)
  h1 : ∀ m, m1 = some m → SetW w m L1
  h2 : ∀ m, m2 = some m → SetW w m L2
section
variable {W w w' : World} {L1 L2 : List Sp} {x m1 m2 : Option Nat}
theorem R2.start (W : World) (L1 L2 : List Sp) : R2 W L1 L2 W.drew none none none := ⟨(Below.refl _ _).drew, fun _ h => (nomatch h), fun _ h => (nomatch h), fun _ h => (nomatch h)⟩
theorem R2.step (h : R2 W L1 L2 w x m1 m2) (hb : Below w.heap.size w w') : R2 W L1 L2 w' x m1 m2 :=
  ⟨h.below.trans (hb.mono h.below.size), fun g e => ⟨(h.hx g e).1, (hb.block g (heap_lt (h.hx g e).2)).trans (h.hx g e).2⟩, fun m e => setW_below (h.h1 m e) hb (setW_lt (h.h1 m e)), fun m e => setW_below (h.h2 m e) hb (setW_lt (h.h2 m e))⟩
theorem R2.call1 {m : Nat} (h : R2 W L1 L2 w x none m2) (hb : Below w.heap.size w w') (hs : SetW w' m L1) : R2 W L1 L2 w' x (some m) m2 :=
  let h2 := h.step hb
  ⟨h2.below, h2.hx, fun _ e => by cases e; exact hs, h2.h2⟩
theorem R2.call2 {m : Nat} (h : R2 W L1 L2 w x m1 none) (hb : Below w.heap.size w w') (hs : SetW w' m L2) : R2 W L1 L2 w' x m1 (some m) :=
  let h2 := h.step hb
  ⟨h2.below, h2.hx, h2.h1, fun _ e => by cases e; exact hs⟩
theorem R2.box (h : R2 W L1 L2 w none m1 m2) : R2 W L1 L2 (w.alloc (.cells #[.map none] 90)) (some w.heap.size) m1 m2 :=
  let h2 := h.step ((Below.refl _ _).alloc (Nat.le_refl _) (.cells #[.map none] 90))
  ⟨h2.below, fun _ e => by cases e; exact ⟨h.below.size, heap_alloc_new _ _⟩, h2.h1, h2.h2⟩
theorem R2.fin {X a b : Nat} (h : R2 W L1 L2 w (some X) (some a) (some b)) : W.heap.size ≤ X ∧ (w.setCell ⟨X, 0, none⟩ (.map (some a))).heap[X]? = some (.cells #[.map (some a)] 90) ∧
    Hid (SetW (w.setCell ⟨X, 0, none⟩ (.map (some a))) a L1) ∧ Hid (SetW (w.setCell ⟨X, 0, none⟩ (.map (some a))) b L2) ∧ Hid (Below W.heap.size W (w.setCell ⟨X, 0, none⟩ (.map (some a)))) := by
  obtain ⟨hB, hh⟩ := h.hx X rfl
  exact ⟨hB, heap_setCell1 hh, setW_set (h.h1 a rfl) hh _, setW_set (h.h2 b rfl) hh _, h.below.setCell (p := ⟨X, 0, none⟩) hB _⟩
end
theorem good_step {o : Ov} {g : Grid} {L T : List Sp} {c : Sp} (hn : T.Nodup) (hT : ∀ d ∈ L, d ∉ T → o.good g d = true) (hc : o.good g c = true) : ∀ d ∈ L, d ∉ T.erase c → o.good g d = true := by
  intro d hd hn2
  by_cases e : d = c
  · exact e ▸ hc
  · exact hT d hd (fun h => hn2 ((hn.mem_erase_iff).2 ⟨e, h⟩))
theorem RangeS.nodup {W : World} {b r : Nat} {L T : List Sp} (h : RangeS W b r L T) : T.Nodup := by
  obtain ⟨_, _, _, _, _, _, _, h, _⟩ := h
  exact h
theorem holds_true {o : Ov} {g : Grid} (h : ∀ d ∈ o.cells.filter (inG g), d ∉ ([] : List Sp) → o.good g d = true) : o.holds g = true := by
  unfold Ov.holds
  rw [List.all_eq_true]
  exact fun d hd => h d hd (by simp)
theorem holds_false {o : Ov} {g : Grid} {c : Sp} (hc : c ∈ o.cells.filter (inG g)) (h : o.good g c = false) : o.holds g = false := by
  unfold Ov.holds
  rw [List.all_eq_false]
  exact ⟨c, hc, by rw [h]; decide⟩
end Go.Proofs.YtjonbhimbhidpaaDoor

namespace Go.Proofs.YtjonbhimbhidpaaDoor
open Go.RowKit

set_option maxHeartbeats 4000000 in
set_option maxRecDepth 100000 in
theorem holdsP_any (vs vm vj v : Value) (o : Ov) (g : Grid) (w : World) (ho : IsOv w vs vm vj o) (hn : o.Num) (hg : IsGrid w v g) (hs : ShortG g) :
    Calls Tryd.prog 36 #[.agg #[vs, vm, vj], v] w fun e w' => e = .returned (holdsV o g) ∧ Below w.heap.size w w' := by
  have hB0 := (Below.refl w.heap.size w).alloc (Nat.le_refl _) (.cells #[vs, vm, vj] 26)
  have cr := hid (read_any _ _ _ o _ (isOv_below ho hB0) hn)
  have HG := hid (isGrid_below hg hB0)
  have HSG := hid hs
  obtain ⟨ag, cg, rfl, _, _⟩ := hg
  obtain ⟨⟨av, cv, rfl, _, _⟩, _, _⟩ := ho
  have HB : Hid (Below w.heap.size w (w.alloc (.cells #[.slice av o.safe.length cv, vm, vj] 26))) := hB0
  obtain ⟨P, hP⟩ : ∃ P, P = o.P := ⟨_, rfl⟩
  rw [show o.safe.length = P from hP.symm] at cr HB HG ⊢
  obtain ⟨W, hW⟩ : ∃ W, W = (w.alloc (.cells #[.slice av P cv, vm, vj] 26)) := ⟨_, rfl⟩
  rw [← hW] at cr HB HG
  obtain ⟨Lg, hLg⟩ : ∃ Lg, Lg = g.length := ⟨_, rfl⟩
  rw [← hLg] at HG ⊢
  have HW := hid hW
  have HP := hid hP
  clear hn hW hs hB0 hLg
  cases hv : o.valid
  · have HR : Hid (holdsV o g = .tuple #[.bool false, .int .i64 1]) := by unfold holdsV; rw [if_neg (by rw [hv]; decide)]; exact rfl
    have cr2 : Hid (Calls Tryd.prog 51 #[.agg #[.slice av P cv, vm, vj]] W (fun e w' => e = .returned (.tuple #[.pointer none, .bool false]) ∧ Below W.heap.size W w')) := (cr.out).mono (by
      rintro e w4 ⟨hb4, h4⟩
      rw [hv, if_neg (by decide)] at h4
      exact ⟨h4, hb4⟩)
    clear hv cr hP
    go_enter Tryd.func36, Tryd.ntmps36
    go_wp2_with (first | (go_at_call 51; rw [← HW.out]; refine (cr2.out).mono ?_; rintro e w4 ⟨rfl, hb4⟩; have HB4 := hid hb4; clear hb4) | fail)
    go_ret2
    exact ⟨ret_eq HR.out.symm, HB.out.trans (HB4.out.mono HB.out.size)⟩
  · have HOK := hid (ok_of_valid hv)
    obtain ⟨R, hR⟩ : ∃ R, R = o.R := ⟨_, rfl⟩
    obtain ⟨C, hC⟩ : ∃ C, C = o.C := ⟨_, rfl⟩
    have HRR := hid hR
    have HCC := hid hC
    have b1 := HOK.out.p
    have b2 := HOK.out.r
    have b3 := HOK.out.c
    rw [← hP] at b1
    rw [← hR] at b2
    rw [← hC] at b3
    have cr2 : Hid (Calls Tryd.prog 51 #[.agg #[.slice av P cv, vm, vj]] W (fun e w' => ∃ xb, e = .returned (.tuple #[.pointer (some ⟨xb, 0, none⟩), .bool true]) ∧ OvAt w' xb (.slice av P cv) vm vj o ∧ Below W.heap.size W w')) := (cr.out).mono (by
      rintro e w4 ⟨hb4, h4⟩
      rw [hv, if_pos rfl] at h4
      obtain ⟨xb, h5, h6⟩ := h4
      exact ⟨xb, h5, h6, hb4⟩)
    have HV := hid hv
    clear hv cr hP hR hC
    go_enter Tryd.func36, Tryd.ntmps36
    go_upto_region 4 with (first | (go_at_call 51; rw [← HW.out]; refine (cr2.out).mono ?_; rintro e w4 ⟨xb, rfl, hov, hb4⟩; have HOV := hid hov; have HB4 := hid hb4; have y0 := hov.c0; have y3 := hov.c3; have y4 := hov.c4; rw [← HRR.out] at y3; rw [← HCC.out] at y4; have HG4 := hid (isGrid_below HG.out hb4); clear hb4 hov) | fail)
    have KEEP : Hid (∀ w', Below w4.heap.size w4 w' → w'.cell? ⟨xb, 0, none⟩ = some (.slice av P cv) ∧ w'.cell? ⟨xb, 3, none⟩ = some (.int .i64 R) ∧ w'.cell? ⟨xb, 4, none⟩ = some (.int .i64 C) ∧ Hid (Below w4.heap.size w4 w')) := by
      intro w' hb
      have h := ovAt_below HOV.out hb
      exact ⟨h.c0, by rw [HRR.out]; exact h.c3, by rw [HCC.out]; exact h.c4, hb⟩
    cases hf : formB P R C g
    · have HR : Hid (holdsV o g = .tuple #[.bool false, .int .i64 2]) := by
        rw [HP.out, HRR.out, HCC.out] at hf
        unfold holdsV; rw [if_pos HV.out, if_neg (by rw [hf]; decide)]; exact rfl
      have HF := hid hf
      clear hf
      go_region_held3 (fun w' => w'.cell? ⟨xb, 0, none⟩ = some (.slice av P cv) ∧ w'.cell? ⟨xb, 3, none⟩ = some (.int .i64 R) ∧ w'.cell? ⟨xb, 4, none⟩ = some (.int .i64 C) ∧ Hid (Below w4.heap.size w4 w'))
        ((refine KEEP.out _ ?_; repeat (first | exact Below.refl _ _ | (apply Hid.out; assumption) | refine Below.drew ?_)))
        ((first | (go_at_call 55; refine (rowed_any _ g P R C _ (isGrid_below HG4.out (by repeat (first | exact Below.refl _ _ | (apply Hid.out; assumption) | refine Below.drew ?_))) HSG.out (by omega) (by omega) (by omega)).mono ?_; rw [HF.out]; rintro e w5 ⟨rfl, hb5⟩; have HB5 : Hid (Below w4.heap.size w4 w5) := ((Below.refl _ _).drew).trans hb5; clear hb5)))
      all_goals
        go_wp2_with fail
        go_ret2
        refine ⟨ret_eq HR.out.symm, ?_⟩
        have hb := HB.out.trans (HB4.out.mono HB.out.size)
        exact hb.trans (HB5.out.mono hb.size)
    · have hf2 : formB o.P o.R o.C g = true := by rw [← HP.out, ← HRR.out, ← HCC.out]; exact hf
      have HR : Hid (holdsV o g = .tuple #[.bool (o.holds g), .int .i64 0]) := by
        unfold holdsV; rw [if_pos HV.out, if_pos hf2]; exact rfl
      have HF := hid hf
      have HF2 := hid hf2
      clear hf hf2
      go_region_held3 (fun w' => w'.cell? ⟨xb, 0, none⟩ = some (.slice av P cv) ∧ w'.cell? ⟨xb, 3, none⟩ = some (.int .i64 R) ∧ w'.cell? ⟨xb, 4, none⟩ = some (.int .i64 C) ∧ Hid (Below w4.heap.size w4 w'))
        ((refine KEEP.out _ ?_; repeat (first | exact Below.refl _ _ | (apply Hid.out; assumption) | refine Below.drew ?_)))
        ((first | (go_at_call 55; refine (rowed_any _ g P R C _ (isGrid_below HG4.out (by repeat (first | exact Below.refl _ _ | (apply Hid.out; assumption) | refine Below.drew ?_))) HSG.out (by omega) (by omega) (by omega)).mono ?_; rw [HF.out]; rintro e w5 ⟨rfl, hb5⟩; have HB5 : Hid (Below w4.heap.size w4 w5) := ((Below.refl _ _).drew).trans hb5; clear hb5)))
      all_goals
        have HOV5 := hid (ovAt_below HOV.out HB5.out)
        have HG5 := hid (isGrid_below HG4.out HB5.out)
        have HBW : Hid (Below w.heap.size w w5) := (HB.out.trans (HB4.out.mono HB.out.size)).trans (HB5.out.mono (HB.out.trans (HB4.out.mono HB.out.size)).size)
        clear KEEP y0 y3 y4
        go_upto_region 6 with fail
        have KEEP6 : Hid (∀ w', Below w5.heap.size w5 w' → w'.cell? ⟨xb, 0, none⟩ = some (.slice av P cv) ∧ Hid (Below w5.heap.size w5 w')) := fun w' hb => ⟨(ovAt_below HOV5.out hb).c0, hb⟩
        go_cut [8, 9] (fun v8 v9 wx => ∃ bi m1 m2, v8 = .pointer (some ⟨bi, 0, none⟩) ∧ v9 = .map (some m2) ∧ w5.heap.size ≤ bi ∧ wx.heap[bi]? = some (.cells #[.map (some m1)] 90) ∧ Hid (SetW wx m1 (o.cells.filter (inG g))) ∧ Hid (SetW wx m2 (o.cells.filter (inG o.safe))) ∧ Hid (Below w5.heap.size w5 wx))
        case first =>
          refine wp_region_held_drew (S := fun w' => w'.cell? ⟨xb, 0, none⟩ = some (.slice av P cv) ∧ Hid (Below w5.heap.size w5 w')) (by kernel_rfl) (KEEP6.out _ ((Below.refl _ _).drew)) (fun hHeld => ?_)
          refine take_at (i := 0) 37 (v := .pointer (some ⟨xb, 0, none⟩)) rfl (by kernel_rfl) (by kernel_rfl) (by kernel_rfl) rfl (fun _ _ _ h => h) (by rfl) (fun w hSw => ?_) hHeld ?_
          · (try dsimp only at hSw); go_simp
          simp only [Act.put, List.setIfInBounds_toArray, List.set_cons_zero, List.set_cons_succ]
          refine take_at (i := 1) 38 (v := .slice ag Lg cg) rfl (by kernel_rfl) (by kernel_rfl) (by kernel_rfl) rfl (fun _ _ _ h => h) (by rfl) (fun w hSw => ?_) hHeld ?_
          · (try dsimp only at hSw); go_simp
          simp only [Act.put, List.setIfInBounds_toArray, List.set_cons_zero, List.set_cons_succ]
          refine take_at (i := 3) 40 (v := .pointer (some ⟨xb, 0, none⟩)) rfl (by kernel_rfl) (by kernel_rfl) (by kernel_rfl) rfl (fun _ _ _ h => h) (by rfl) (fun w hSw => ?_) hHeld ?_
          · (try dsimp only at hSw); go_simp
          simp only [Act.put, List.setIfInBounds_toArray, List.set_cons_zero, List.set_cons_succ]
          refine take_at (i := 4) 41 (v := .pointer (some ⟨xb, 0, none⟩)) rfl (by kernel_rfl) (by kernel_rfl) (by kernel_rfl) rfl (fun _ _ _ h => h) (by rfl) (fun w hSw => ?_) hHeld ?_
          · (try dsimp only at hSw); go_simp
          simp only [Act.put, List.setIfInBounds_toArray, List.set_cons_zero, List.set_cons_succ]
          refine take_at (i := 5) 42 (v := .pointer (some ⟨xb, 0, none⟩)) rfl (by kernel_rfl) (by kernel_rfl) (by kernel_rfl) rfl (fun _ _ _ h => h) (by rfl) (fun w hSw => ?_) hHeld ?_
          · (try dsimp only at hSw); go_simp
          simp only [Act.put, List.setIfInBounds_toArray, List.set_cons_zero, List.set_cons_succ]
          refine take_at (i := 6) 43 (v := .pointer (some ⟨xb, 0, none⟩)) rfl (by kernel_rfl) (by kernel_rfl) (by kernel_rfl) rfl (fun _ _ _ h => h) (by rfl) (fun w hSw => ?_) hHeld ?_
          · (try dsimp only at hSw); go_simp
          simp only [Act.put, List.setIfInBounds_toArray, List.set_cons_zero, List.set_cons_succ]
          refine take_at (i := 7) 44 (v := .pointer (some ⟨xb, 0, none⟩)) rfl (by kernel_rfl) (by kernel_rfl) (by kernel_rfl) rfl (fun _ _ _ h => h) (by rfl) (fun w hSw => ?_) hHeld ?_
          · (try dsimp only at hSw); go_simp
          simp only [Act.put, List.setIfInBounds_toArray, List.set_cons_zero, List.set_cons_succ]
          refine take_at (i := 8) 45 (v := .slice av P cv) rfl (by kernel_rfl) (by kernel_rfl) (by kernel_rfl) rfl (fun _ _ _ h => h) (by rfl) (fun w hSw => ?_) hHeld ?_
          · (try dsimp only at hSw); go_simp
          simp only [Act.put, List.setIfInBounds_toArray, List.set_cons_zero, List.set_cons_succ]
          have R0 := R2.start w5 (o.cells.filter (inG g)) (o.cells.filter (inG o.safe))
          refine wpAnyH_ready (rs := [2, 10]) (by kernel_rfl) (by simp) ?_
          refine node_call54 39 37 38 _ _ rfl rfl rfl rfl rfl rfl ((in_any xb _ vm vj o (.slice ag Lg cg) g _ (ovAt_below HOV5.out R0.below) HOK.out (isGrid_below HG5.out R0.below) HF2.out).mono ?_) ?_
          · rintro e w6 ⟨m1, rfl, hm1, hs1, hb6⟩
            have R1 := R0.call1 hb6 hs1
            refine ⟨_, rfl, KEEP6.out _ R1.below, ?_⟩
            clear hm1 hs1 hb6
            clear R0
            simp only [Act.put, List.setIfInBounds_toArray, List.set_cons_zero, List.set_cons_succ]
            refine wpAnyH_ready (rs := [9, 10]) (by kernel_rfl) (by simp) ?_
            refine node_call54 46 40 45 _ _ rfl rfl rfl rfl rfl rfl ((in_any xb _ vm vj o (.slice av P cv) o.safe _ (ovAt_below HOV5.out R1.below) HOK.out (ovAt_below HOV5.out R1.below).ov.safe HOK.out.form).mono ?_) ?_
            · rintro e w6 ⟨m2, rfl, hm2, hs2, hb6⟩
              have R2 := R1.call2 hb6 hs2
              refine ⟨_, rfl, KEEP6.out _ R2.below, ?_⟩
              clear hm2 hs2 hb6
              clear R1
              simp only [Act.put, List.setIfInBounds_toArray, List.set_cons_zero, List.set_cons_succ]
              refine wpAnyH_ready (rs := [10]) (by kernel_rfl) (by simp) ?_
              refine node_alloc90 8 rfl rfl rfl rfl (KEEP6.out _ R2.box.below) (fun hHeld => ?_) AllReadyH.nil
              · have R3 := R2.box
                clear R2
                simp only [Act.put, List.setIfInBounds_toArray, List.set_cons_zero, List.set_cons_succ]
                have hf := R3.fin
                refine wpAnyH_ready (rs := [11]) (by kernel_rfl) (by simp) ?_
                refine node_store90 8 39 _ _ rfl rfl rfl rfl rfl rfl (R3.hx _ rfl).2 (KEEP6.out _ hf.2.2.2.2) ?_ AllReadyH.nil
                have hHeld := KEEP6.out _ hf.2.2.2.2
                refine take_at (i := 12) 9 (v := .map (some m2)) rfl (by kernel_rfl) (by kernel_rfl) (by kernel_rfl) rfl (fun _ _ _ h => h) (by rfl) (fun w hSw => ?_) hHeld ?_
                · (try dsimp only at hSw); go_simp
                simp only [Act.put, List.setIfInBounds_toArray, List.set_cons_zero, List.set_cons_succ]
                refine wpAnyH_done (by kernel_rfl) ?_ _
                go_wp2_with fail
                go_meet
                exact ⟨_, _, _, rfl, rfl, hf.1, hf.2.1, hf.2.2.1, hf.2.2.2.1, hf.2.2.2.2⟩
            refine node_alloc90 8 rfl rfl rfl rfl (KEEP6.out _ R1.box.below) (fun hHeld => ?_) AllReadyH.nil
            · have R2 := R1.box
              clear R1
              simp only [Act.put, List.setIfInBounds_toArray, List.set_cons_zero, List.set_cons_succ]
              refine wpAnyH_ready (rs := [9]) (by kernel_rfl) (by simp) ?_
              refine node_call54 46 40 45 _ _ rfl rfl rfl rfl rfl rfl ((in_any xb _ vm vj o (.slice av P cv) o.safe _ (ovAt_below HOV5.out R2.below) HOK.out (ovAt_below HOV5.out R2.below).ov.safe HOK.out.form).mono ?_) AllReadyH.nil
              · rintro e w6 ⟨m2, rfl, hm2, hs2, hb6⟩
                have R3 := R2.call2 hb6 hs2
                refine ⟨_, rfl, KEEP6.out _ R3.below, ?_⟩
                clear hm2 hs2 hb6
                clear R2
                simp only [Act.put, List.setIfInBounds_toArray, List.set_cons_zero, List.set_cons_succ]
                have hf := R3.fin
                refine wpAnyH_ready (rs := [11]) (by kernel_rfl) (by simp) ?_
                refine node_store90 8 39 _ _ rfl rfl rfl rfl rfl rfl (R3.hx _ rfl).2 (KEEP6.out _ hf.2.2.2.2) ?_ AllReadyH.nil
                have hHeld := KEEP6.out _ hf.2.2.2.2
                refine take_at (i := 12) 9 (v := .map (some m2)) rfl (by kernel_rfl) (by kernel_rfl) (by kernel_rfl) rfl (fun _ _ _ h => h) (by rfl) (fun w hSw => ?_) hHeld ?_
                · (try dsimp only at hSw); go_simp
                simp only [Act.put, List.setIfInBounds_toArray, List.set_cons_zero, List.set_cons_succ]
                refine wpAnyH_done (by kernel_rfl) ?_ _
                go_wp2_with fail
                go_meet
                exact ⟨_, _, _, rfl, rfl, hf.1, hf.2.1, hf.2.2.1, hf.2.2.2.1, hf.2.2.2.2⟩
          refine node_alloc90 8 rfl rfl rfl rfl (KEEP6.out _ R0.box.below) (fun hHeld => ?_) AllReadyH.nil
          · have R1 := R0.box
            clear R0
            simp only [Act.put, List.setIfInBounds_toArray, List.set_cons_zero, List.set_cons_succ]
            refine wpAnyH_ready (rs := [2]) (by kernel_rfl) (by simp) ?_
            refine node_call54 39 37 38 _ _ rfl rfl rfl rfl rfl rfl ((in_any xb _ vm vj o (.slice ag Lg cg) g _ (ovAt_below HOV5.out R1.below) HOK.out (isGrid_below HG5.out R1.below) HF2.out).mono ?_) AllReadyH.nil
            · rintro e w6 ⟨m1, rfl, hm1, hs1, hb6⟩
              have R2 := R1.call1 hb6 hs1
              refine ⟨_, rfl, KEEP6.out _ R2.below, ?_⟩
              clear hm1 hs1 hb6
              clear R1
              simp only [Act.put, List.setIfInBounds_toArray, List.set_cons_zero, List.set_cons_succ]
              refine wpAnyH_ready (rs := [9]) (by kernel_rfl) (by simp) ?_
              refine node_call54 46 40 45 _ _ rfl rfl rfl rfl rfl rfl ((in_any xb _ vm vj o (.slice av P cv) o.safe _ (ovAt_below HOV5.out R2.below) HOK.out (ovAt_below HOV5.out R2.below).ov.safe HOK.out.form).mono ?_) AllReadyH.nil
              · rintro e w6 ⟨m2, rfl, hm2, hs2, hb6⟩
                have R3 := R2.call2 hb6 hs2
                refine ⟨_, rfl, KEEP6.out _ R3.below, ?_⟩
                clear hm2 hs2 hb6
                clear R2
                simp only [Act.put, List.setIfInBounds_toArray, List.set_cons_zero, List.set_cons_succ]
                have hf := R3.fin
                refine wpAnyH_ready (rs := [11]) (by kernel_rfl) (by simp) ?_
                refine node_store90 8 39 _ _ rfl rfl rfl rfl rfl rfl (R3.hx _ rfl).2 (KEEP6.out _ hf.2.2.2.2) ?_ AllReadyH.nil
                have hHeld := KEEP6.out _ hf.2.2.2.2
                refine take_at (i := 12) 9 (v := .map (some m2)) rfl (by kernel_rfl) (by kernel_rfl) (by kernel_rfl) rfl (fun _ _ _ h => h) (by rfl) (fun w hSw => ?_) hHeld ?_
                · (try dsimp only at hSw); go_simp
                simp only [Act.put, List.setIfInBounds_toArray, List.set_cons_zero, List.set_cons_succ]
                refine wpAnyH_done (by kernel_rfl) ?_ _
                go_wp2_with fail
                go_meet
                exact ⟨_, _, _, rfl, rfl, hf.1, hf.2.1, hf.2.2.1, hf.2.2.2.1, hf.2.2.2.2⟩
        case rest =>
          obtain ⟨bi, m1, m2, rfl, rfl, hbi, hbx, HS1, HS2, HBC⟩ := hcut
          have cb := box1 hbx
          have hm2 := setW_lt HS2.out
          clear KEEP6
          go_wp2_with (first
            | (at_range; refine wpl_range_set rfl _ m1 (o.cells.filter (inG g)) rfl rfl HS1.out ?_; intro w6 hr6 hg6 hz6; have HR6 := hid hr6; have hb6 := Below.grown (Below.refl wc.heap.size wc) hg6 (Nat.le_refl _) (fun k hk => by cases hk); have HS6 := hid (setW_below HS2.out hb6 hm2); have hb6x := (hb6.block bi (heap_lt hbx)).trans hbx; have HB6 : Hid (Below w5.heap.size w5 w6) := HBC.out.trans (hb6.mono HBC.out.size); clear hr6 hg6 hb6)
            | fail)
          go_frame
          go_loopw [10] (fun _ wr => ∃ T, Hid (RangeS wr m1 wc.heap.size (o.cells.filter (inG g)) T) ∧ Hid (SetW wr m2 (o.cells.filter (inG o.safe))) ∧ wr.heap[bi]? = some (.cells #[.map (some m1)] 90) ∧ Hid (∀ d ∈ o.cells.filter (inG g), d ∉ T → o.good g d = true) ∧ Hid (Below w5.heap.size w5 wr)) (fun _ wr => wr.rangeLeft m1 wc.heap.size)
          case atStart => exact ⟨_, HR6, HS6, hb6x, fun d hd hn => absurd hd hn, HB6⟩
          case round =>
            obtain ⟨T, HRS, HSw, hbw, HGD, HBR⟩ := hrel
            have HRN := hid HRS.out.nodup
            have hlr := HRS.out.lt
            have hr5 : w5.heap.size ≤ wc.heap.size := HBC.out.size
            have hbil := heap_lt hbx
            have HGR := hid hbw
            clear hbw cb hb6x
            go_wp2_with (first
              | (at_next; refine wpl_next_set3 rfl _ rfl m1 wc.heap.size _ T rfl HRS.out (fun hT => ?_) (fun p x y v w7 hcT hcL hc hr7 hlt7 hg7 hz7 hen7 => ?_); (have HH : Hid (o.holds g = true) := holds_true (hT ▸ HGD.out)); clear hT; rotate_left 1; have HR7 := hid hr7; have HL7 := hid hlt7; have HB7 : Hid (Below w5.heap.size w5 w7) := HBR.out.grown hg7 HBR.out.size (fun k hk => by cases hk; exact hr5); have hs7 := setW_kept HSw.out hg7 (by intro e; cases e; omega); have hb7 := (hg7.block bi (by omega) (by intro e; cases e; omega)).trans HGR.out; obtain ⟨hexc, hgc⟩ := List.mem_filter.1 hcL; have HEX := hid ((mem_cells o _).1 hexc); have HCL := hid hcL; have HCT := hid hcT; have hlk := setW_look (setW_kept (row := none) hs7 (World.grownBy_alloc w7 (Obj.cells #[.int .i64 p, .int .i64 x, .int .i64 y] 87) none) (by simp)) hc; rw [congrFun (dec_in o (inG o.safe)) _, HEX.out, Bool.true_and] at hlk; unfold spv at hlk; simp only at hlk; have hal7 := (Below.refl w7.heap.size w7).alloc (Nat.le_refl _) (.cells #[.int .i64 p, .int .i64 x, .int .i64 y] 87); have HS8 := hid (setW_below hs7 hal7 (setW_lt hs7)); have hb8 := (hal7.block bi (by omega)).trans hb7; have HB8 : Hid (Below w5.heap.size w5 (w7.alloc (.cells #[.int .i64 p, .int .i64 x, .int .i64 y] 87))) := HB7.out.alloc HB7.out.size _; have HR8 := hid (HR7.out.below hal7); have HG8 := hid hb8; clear hr7 hlt7 hg7 hs7 hb7 hexc hgc hcL hcT hal7 hb8; cases hsb : inG o.safe (p, x, y); (rw [hsb] at hlk; have HH : Hid (o.holds g = false) := holds_false HCL.out (by unfold Ov.good; rw [hsb, Bool.false_and]); clear hsb); rotate_left 1; (rw [hsb] at hlk; have HSB := hid hsb; clear hsb))
              | (go_at_call 46; have cm := move_any xb _ vm vj o (p, x, y) 56 #[.pointer (some ⟨bi, 0, none⟩)] _ (w7.alloc (.cells #[.int .i64 p, .int .i64 x, .int .i64 y] 87)) (ovAt_below HOV5.out HB8.out) HOK.out HEX.out (testC56 (box1 HG8.out) HR8.out.1.set); rw [dec_in] at cm; obtain ⟨mv, hmv⟩ : ∃ mv, mv = o.move (fun d => o.ex d && inG g d) (p, x, y) := ⟨_, rfl⟩; rw [← hmv] at cm; refine cm.mono ?_; rintro e w9 ⟨rfl, hb9⟩; have HB9 : Hid (Below w5.heap.size w5 w9) := HB8.out.trans (hb9.mono HB8.out.size); have HR9 := hid (HR8.out.1.below hb9); have HS9 := hid (setW_below HS8.out hb9 (setW_lt HS8.out)); have HG9 := hid ((hb9.block bi (heap_lt HG8.out)).trans HG8.out); have hng := move_neg o (fun d => o.ex d && inG g d) (p, x, y); rw [← hmv] at hng; clear hmv hb9 cm; cases hcm : o.canM (fun d => o.ex d && inG g d) (p, x, y); (have hlt := hng.2 hcm; have HH : Hid (o.holds g = false) := holds_false HCL.out (by unfold Ov.good; rw [hcm, Bool.and_false]); clear hng hcm); rotate_left 1; (have hlt : ¬ mv < 0 := (fun h => by rw [hng.1 h] at hcm; cases hcm); have HGC : Hid (o.good g (p, x, y) = true) := (by show _ = _; unfold Ov.good; rw [hcm, HSB.out]; rfl); clear hng hcm))
              | fail)
            all_goals first
              | (refine ⟨⟨T.erase (p, x, y), HR9.out.1, HS9, HG9.out, good_step HRN.out HGD.out HGC.out, HB9⟩, ?_⟩; show w9.rangeLeft m1 wc.heap.size < wr.rangeLeft m1 wc.heap.size; rw [HR9.out.2, HR8.out.2]; exact HL7.out)
              | (have hE := HR.out; rw [HH.out] at hE; go_ret2; refine ⟨ret_eq hE.symm, ?_⟩; first | exact HBW.out.trans (HB9.out.mono HBW.out.size) | exact HBW.out.trans (HB8.out.mono HBW.out.size) | exact HBW.out.trans (HBR.out.mono HBW.out.size))
end Go.Proofs.YtjonbhimbhidpaaDoor

namespace Go.Proofs.YtjonbhimbhidpaaDoor
open Go.RowKit

section
variable {md : Region.Mode} {ops : Array Oper} {Q : Exit → Act → World → Prop} {S : World → Prop} {fuel : Nat} {listed : Array Bool} {a : Act} {w : World} {i : Nat} {o : Oper} {rs : List Nat}
theorem skip_at (d : Nat) (hi : ops[i]? = some o) (hs : Region.noSelect ops = true) (hf : Region.free md ops listed i = true) (hr : (Region.ready md ops listed).contains i = true)
    (hd : o.dst = some d) (hQ : ∀ c a w, Q (.panic c) (a.put (some d) undef) w → Q (.panic c) a w) (hw : Region.wanted o (yielded ops a.tmps) = false) (hS : S w)
    (h : wpAnyH Tryd.prog md ops Q S fuel (listed.setIfInBounds i true) (a.put (some d) undef) w) : wpAnyH Tryd.prog md ops Q S (fuel + 1) listed a w :=
  wpAnyH_take hi hs hf hr (by rw [hd]; exact hQ) (.inr ⟨hw, rfl⟩) hS (by rw [hd]; exact h)
theorem node_call29 (d k1 k2 : Nat) (v1 v2 : Value) (hi : ops[i]? = some o) (hgd : Region.wanted o (yielded ops a.tmps) = true) (ho : o.op = .call { callee := .value (.func 29), args := #[.tmp k1, .tmp k2], argTypes := #[22, 28] }) (hd : o.dst = some d)
    (hp1 : a.tmps[k1]?.getD undef = v1) (hp2 : a.tmps[k2]?.getD undef = v2)
    (h : Calls Tryd.prog 29 #[v1, v2] w fun e w' => ∃ u, e = .returned u ∧ S w' ∧ wpAnyH Tryd.prog md ops Q S fuel (listed.setIfInBounds i true) (a.put (some d) u) w')
    (hs : AllReadyH Tryd.prog md ops Q S fuel listed a w rs) : AllReadyH Tryd.prog md ops Q S fuel listed a w (i :: rs) := by
  refine AllReadyH.cons hi (fun K hK => ?_) hs
  rw [if_pos hgd]
  unfold Oper.wp execOp
  simp [ho, go_sem, hp1, hp2]
  refine h.mono ?_
  rintro e w' ⟨u, rfl, h1, h2⟩
  have hk := hK.out _ _ h1 (fun _ => h2)
  rw [hd]
  exact hk
theorem node_call22 (d k1 k2 k3 : Nat) (v1 v2 v3 : Value) (hi : ops[i]? = some o) (hgd : Region.wanted o (yielded ops a.tmps) = true) (ho : o.op = .call { callee := .value (.func 22), args := #[.tmp k1, .tmp k2, .tmp k3], argTypes := #[26, 22, 28] }) (hd : o.dst = some d)
    (hp1 : a.tmps[k1]?.getD undef = v1) (hp2 : a.tmps[k2]?.getD undef = v2) (hp3 : a.tmps[k3]?.getD undef = v3)
    (h : Calls Tryd.prog 22 #[v1, v2, v3] w fun e w' => ∃ u, e = .returned u ∧ S w' ∧ wpAnyH Tryd.prog md ops Q S fuel (listed.setIfInBounds i true) (a.put (some d) u) w')
    (hs : AllReadyH Tryd.prog md ops Q S fuel listed a w rs) : AllReadyH Tryd.prog md ops Q S fuel listed a w (i :: rs) := by
  refine AllReadyH.cons hi (fun K hK => ?_) hs
  rw [if_pos hgd]
  unfold Oper.wp execOp
  simp [ho, go_sem, hp1, hp2, hp3]
  refine h.mono ?_
  rintro e w' ⟨u, rfl, h1, h2⟩
  have hk := hK.out _ _ h1 (fun _ => h2)
  rw [hd]
  exact hk
end

theorem holds_all {o : Ov} {g : Grid} (h : ∀ d ∈ o.cells, inG g d = true → o.good g d = true) : o.holds g = true := by
  unfold Ov.holds
  rw [List.all_eq_true]
  intro d hd
  rw [List.mem_filter] at hd
  exact h d hd.1 hd.2
theorem take_snoc {o : Ov} {g : Grid} {i : Nat} (hi : i < o.N) (h : ∀ d ∈ o.cells.take i, inG g d = true → o.good g d = true) (hc : inG g (o.cellAt i) = true → o.good g (o.cellAt i) = true) : ∀ d ∈ o.cells.take (i + 1), inG g d = true → o.good g d = true := by
  intro d hd
  have hl : i < o.cells.length := by rw [cells_len]; exact hi
  rw [List.take_succ_eq_append_getElem hl, List.mem_append, List.mem_singleton] at hd
  rcases hd with hd | rfl
  · exact h d hd
  · have e : o.cells[i] = o.cellAt i := by simp [Ov.cells]
    rw [e]; exact hc

set_option maxHeartbeats 4000000 in
set_option maxRecDepth 100000 in
theorem rHolds_any (vs vm vj v : Value) (o : Ov) (g : Grid) (w : World) (ho : IsOv w vs vm vj o) (hok : o.Ok) (hg : IsGrid w v g) (hf : formB o.P o.R o.C g = true) :
    Calls Tryd.prog 38 #[.agg #[vs, vm, vj], v] w fun e w' => e = .returned (.bool (o.holds g)) ∧ Below w.heap.size w w' := by
  have HO := hid ho
  have HOK := hid hok
  have HG := hid hg
  have HF := hid hf
  obtain ⟨ag, cg, rfl, -, -⟩ := hg
  obtain ⟨⟨a1, k1, rfl, -, -⟩, ⟨a2, k2, rfl, -, -⟩, ⟨a3, k3, rfl, -, -⟩⟩ := ho
  obtain ⟨Lg, hLg⟩ : ∃ Lg, Lg = g.length := ⟨_, rfl⟩
  rw [← hLg] at HG ⊢
  obtain ⟨n1, hn1⟩ : ∃ n1, n1 = o.safe.length := ⟨_, rfl⟩
  obtain ⟨n2, hn2⟩ : ∃ n2, n2 = o.moves.length := ⟨_, rfl⟩
  obtain ⟨n3, hn3⟩ : ∃ n3, n3 = o.jolts.length := ⟨_, rfl⟩
  rw [← hn1, ← hn2, ← hn3] at HO ⊢
  obtain ⟨N, hN⟩ : ∃ N, N = o.N := ⟨_, rfl⟩
  have hN1 := N_pos hok
  have hN2 := N_small hok
  rw [← hN] at hN1 hN2
  have HN := hid hN
  obtain ⟨H, hH⟩ : ∃ H, H = o.holds g := ⟨_, rfl⟩
  have HH := hid hH
  rw [← hH]
  have hbx := heap_alloc_new w (.cells #[.slice a1 n1 k1, .slice a2 n2 k2, .slice a3 n3 k3] 26)
  have hbW : Below w.heap.size w (w.alloc (.cells #[.slice a1 n1 k1, .slice a2 n2 k2, .slice a3 n3 k3] 26)) := (Below.refl _ _).alloc (Nat.le_refl _) _
  have hszW : (w.alloc (.cells #[.slice a1 n1 k1, .slice a2 n2 k2, .slice a3 n3 k3] 26)).heap.size = w.heap.size + 1 := by simp
  obtain ⟨W, hW⟩ : ∃ W, W = (w.alloc (.cells #[.slice a1 n1 k1, .slice a2 n2 k2, .slice a3 n3 k3] 26)) := ⟨_, rfl⟩
  have HW := hid hW
  rw [← hW] at hbW hbx hszW
  have HBW := hid hbW
  have HBX := hid hbx
  have HSZ := hid hszW
  have HRD : Hid (∀ X, Below W.heap.size W X → X.cell? ⟨w.heap.size, 0, none⟩ = some (.slice a1 n1 k1) ∧ X.cell? ⟨w.heap.size, 1, none⟩ = some (.slice a2 n2 k2) ∧ X.cell? ⟨w.heap.size, 2, none⟩ = some (.slice a3 n3 k3) ∧ w.heap.size < X.heap.size) := by
    intro X hX
    have hsz := hX.size
    rw [HSZ.out] at hsz
    obtain ⟨c0, c1, c2⟩ := cells3_of ((hX.block w.heap.size (by rw [HSZ.out]; omega)).trans HBX.out)
    exact ⟨c0, c1, c2, by omega⟩
  clear hN hbW hW hbx hszW hok hf hLg hn1 hn2 hn3 hH
  go_enter Tryd.func38, Tryd.ntmps38
  go_wp2_with (first | (go_at_call 28; rw [← HW.out]; refine (rCells_any _ _ _ o _ (isOv_below HO.out HBW.out) HOK.out).mono ?_; rintro e w5 ⟨v5, rfl, hcs, hb5⟩; have HB5 := hid hb5; have HS5 : Hid (OwnS w5 W.heap.size 28 v5 o.cells) := hcs; obtain ⟨gc, cc, rfl, _⟩ := ownS_some hcs (by intro e; have h := cells_len o; rw [e] at h; have h2 := HN.out; simp at h; omega); clear hb5 hcs) | fail)
  rw [cells_len, ← HN.out] at HS5 ⊢
  go_loopw [6] (fun iv wr => ∃ i : Nat, iv = .int .i64 i ∧ i ≤ N ∧ Hid (∀ d ∈ o.cells.take i, inG g d = true → o.good g d = true) ∧ Hid (OwnS wr W.heap.size 28 (.slice (some ⟨gc, 0, none⟩) N cc) o.cells) ∧ Hid (Below W.heap.size W wr)) (fun iv _ => N - (intOf iv).toNat)
  case atStart => exact ⟨0, rfl, Nat.zero_le _, fun d hd => by simp at hd, HS5, HB5⟩
  case round =>
    clear HS5 HB5
    obtain ⟨i, rfl, hi, HA, HS, HB⟩ := hrel
    obtain ⟨x0, x1, x2, x3⟩ := HRD.out _ HB.out
    by_cases hlt : i < N
    · have hlo : i < o.N := by rw [← HN.out]; exact hlt
      obtain ⟨q0, q1, q2, q3⟩ := ownS_read HS.out i (by rw [cells_len]; exact hlo)
      rw [sAt_cells o i hlo] at q0 q1 q2
      have hex := cellAt_ex o i hlo
      have HUP := hid (HBW.out.trans (HB.out.mono HBW.out.size))
      have HNX : Hid ((inG g (o.cellAt i) = true → o.good g (o.cellAt i) = true) → ∀ d ∈ o.cells.take (i + 1), inG g d = true → o.good g d = true) := take_snoc hlo HA.out
      have HBAD : Hid (inG g (o.cellAt i) = true → o.good g (o.cellAt i) = false → H = false) := fun h1 h2 => by rw [HH.out]; exact holds_false (List.mem_filter.2 ⟨(mem_cells o _).2 hex, h1⟩) h2
      have cA := hid (fun w' (hw : Below w.heap.size w w') => rIn_any _ g o (o.cellAt i) w' (isGrid_below HG.out hw) HOK.out HF.out hex)
      have cB := hid (fun w' (hw : Below w.heap.size w w') => rIn_any _ o.safe o (o.cellAt i) w' (isGrid_below HO.out.safe hw) HOK.out HOK.out.form hex)
      have cC := hid (fun w' (hw : Below w.heap.size w w') => rMove_any _ _ _ _ o g (o.cellAt i) w' (isOv_below HO.out hw) HOK.out (isGrid_below HG.out hw) HF.out hex)
      have hng := move_neg o (fun d => o.ex d && inG g d) (o.cellAt i)
      obtain ⟨mv, hmv⟩ : ∃ mv, mv = o.move (fun d => o.ex d && inG g d) (o.cellAt i) := ⟨_, rfl⟩
      rw [← hmv] at hng cC
      have HGE : Hid (o.good g (o.cellAt i) = (inG o.safe (o.cellAt i) && o.canM (fun d => o.ex d && inG g d) (o.cellAt i))) := rfl
      generalize o.canM (fun d => o.ex d && inG g d) (o.cellAt i) = b3 at *
      generalize inG g (o.cellAt i) = b1 at *
      generalize inG o.safe (o.cellAt i) = b2 at *
      generalize o.good g (o.cellAt i) = gd at *
      generalize o.cellAt i = d at *
      obtain ⟨p, x, y⟩ := d
      simp only at q0 q1 q2
      unfold spv at cA cB cC
      simp only at cA cB cC
      clear hlo hex hmv
      have KEEP : Hid (∀ w', Below wr.heap.size wr w' → w'.cell? ⟨w.heap.size, 0, none⟩ = some (.slice a1 n1 k1) ∧ w'.cell? ⟨w.heap.size, 1, none⟩ = some (.slice a2 n2 k2) ∧ w'.cell? ⟨w.heap.size, 2, none⟩ = some (.slice a3 n3 k3) ∧ w'.cell? ⟨gc, i * 3, none⟩ = some (.int .i64 p) ∧ w'.cell? ⟨gc, i * 3 + 1, none⟩ = some (.int .i64 x) ∧ w'.cell? ⟨gc, i * 3 + 2, none⟩ = some (.int .i64 y) ∧ Hid (Below wr.heap.size wr w')) := by
        intro w' hb
        exact ⟨(hb.cell (p := ⟨w.heap.size, 0, none⟩) x3).trans x0, (hb.cell (p := ⟨w.heap.size, 1, none⟩) x3).trans x1, (hb.cell (p := ⟨w.heap.size, 2, none⟩) x3).trans x2, (hb.cell (p := ⟨gc, i * 3, none⟩) q3).trans q0, (hb.cell (p := ⟨gc, i * 3 + 1, none⟩) q3).trans q1, (hb.cell (p := ⟨gc, i * 3 + 2, none⟩) q3).trans q2, hb⟩
      clear x0 x1 x2 x3 q0 q1 q2 q3
      go_upto_region 5 with fail
      have HBx : Below wr.heap.size wr wr.drew := (Below.refl _ _).drew
      refine wp_region_held_drew (S := fun w' => w'.cell? ⟨w.heap.size, 0, none⟩ = some (.slice a1 n1 k1) ∧ w'.cell? ⟨w.heap.size, 1, none⟩ = some (.slice a2 n2 k2) ∧ w'.cell? ⟨w.heap.size, 2, none⟩ = some (.slice a3 n3 k3) ∧ w'.cell? ⟨gc, i * 3, none⟩ = some (.int .i64 p) ∧ w'.cell? ⟨gc, i * 3 + 1, none⟩ = some (.int .i64 x) ∧ w'.cell? ⟨gc, i * 3 + 2, none⟩ = some (.int .i64 y) ∧ Hid (Below wr.heap.size wr w')) (by kernel_rfl) (KEEP.out _ HBx) (fun hHeld => ?_)
      cases b1
      · clear hng
        refine take_at (i := 0) 15 (v := .slice ag Lg cg) rfl (by kernel_rfl) (by kernel_rfl) (by kernel_rfl) rfl (fun _ _ _ h => h) (by rfl) (fun w hSw => ?_) hHeld ?_
        · (try dsimp only at hSw); go_simp
        simp only [Act.put, List.setIfInBounds_toArray, List.set_cons_zero, List.set_cons_succ]
        refine take_at (i := 1) 16 (v := .slice (some ⟨gc, 0, none⟩) N cc) rfl (by kernel_rfl) (by kernel_rfl) (by kernel_rfl) rfl (fun _ _ _ h => h) (by rfl) (fun w hSw => ?_) hHeld ?_
        · (try dsimp only at hSw); go_simp
        simp only [Act.put, List.setIfInBounds_toArray, List.set_cons_zero, List.set_cons_succ]
        refine take_at (i := 2) 17 (v := .int .i64 i) rfl (by kernel_rfl) (by kernel_rfl) (by kernel_rfl) rfl (fun _ _ _ h => h) (by rfl) (fun w hSw => ?_) hHeld ?_
        · (try dsimp only at hSw); go_simp
        simp only [Act.put, List.setIfInBounds_toArray, List.set_cons_zero, List.set_cons_succ]
        refine take_at (i := 3) 18 (v := .pointer (some ⟨gc, i * 3, none⟩)) rfl (by kernel_rfl) (by kernel_rfl) (by kernel_rfl) rfl (fun _ _ _ h => h) (by rfl) (fun w hSw => ?_) hHeld ?_
        · (try dsimp only at hSw); go_simp
        simp only [Act.put, List.setIfInBounds_toArray, List.set_cons_zero, List.set_cons_succ]
        refine take_at (i := 4) 19 (v := .agg #[.int .i64 p, .int .i64 x, .int .i64 y]) rfl (by kernel_rfl) (by kernel_rfl) (by kernel_rfl) rfl (fun _ _ _ h => h) (by rfl) (fun w hSw => ?_) hHeld ?_
        · (try dsimp only at hSw); go_simp
        simp only [Act.put, List.setIfInBounds_toArray, List.set_cons_zero, List.set_cons_succ]
        refine wpAnyH_ready (rs := [5]) (by kernel_rfl) (by simp) ?_
        refine node_call29 20 15 19 _ _ rfl (by rfl) rfl rfl rfl rfl ((cA.out _ (HUP.out.trans (HBx.mono HUP.out.size))).mono ?_) AllReadyH.nil
        rintro e w6 ⟨rfl, hb6⟩
        replace HBx := HBx.trans (hb6.mono HBx.size)
        replace hHeld := KEEP.out _ HBx
        refine ⟨_, rfl, hHeld, ?_⟩
        clear hb6
        simp only [Act.put, List.setIfInBounds_toArray, List.set_cons_zero, List.set_cons_succ]
        refine take_at (i := 6) 21 (v := .bool false) rfl (by kernel_rfl) (by kernel_rfl) (by kernel_rfl) rfl (fun _ _ _ h => h) (by rfl) (fun w hSw => ?_) hHeld ?_
        · (try dsimp only at hSw); go_simp
        simp only [Act.put, List.setIfInBounds_toArray, List.set_cons_zero, List.set_cons_succ]
        refine skip_at (i := 7) 22 rfl (by kernel_rfl) (by kernel_rfl) (by kernel_rfl) rfl (fun _ _ _ h => h) (by rfl) hHeld ?_
        simp only [Act.put, List.setIfInBounds_toArray, List.set_cons_zero, List.set_cons_succ]
        refine skip_at (i := 8) 23 rfl (by kernel_rfl) (by kernel_rfl) (by kernel_rfl) rfl (fun _ _ _ h => h) (by rfl) hHeld ?_
        simp only [Act.put, List.setIfInBounds_toArray, List.set_cons_zero, List.set_cons_succ]
        refine skip_at (i := 9) 24 rfl (by kernel_rfl) (by kernel_rfl) (by kernel_rfl) rfl (fun _ _ _ h => h) (by rfl) hHeld ?_
        simp only [Act.put, List.setIfInBounds_toArray, List.set_cons_zero, List.set_cons_succ]
        refine skip_at (i := 10) 25 rfl (by kernel_rfl) (by kernel_rfl) (by kernel_rfl) rfl (fun _ _ _ h => h) (by rfl) hHeld ?_
        simp only [Act.put, List.setIfInBounds_toArray, List.set_cons_zero, List.set_cons_succ]
        refine skip_at (i := 11) 26 rfl (by kernel_rfl) (by kernel_rfl) (by kernel_rfl) rfl (fun _ _ _ h => h) (by rfl) hHeld ?_
        simp only [Act.put, List.setIfInBounds_toArray, List.set_cons_zero, List.set_cons_succ]
        refine skip_at (i := 12) 27 rfl (by kernel_rfl) (by kernel_rfl) (by kernel_rfl) rfl (fun _ _ _ h => h) (by rfl) hHeld ?_
        simp only [Act.put, List.setIfInBounds_toArray, List.set_cons_zero, List.set_cons_succ]
        refine skip_at (i := 13) 28 rfl (by kernel_rfl) (by kernel_rfl) (by kernel_rfl) rfl (fun _ _ _ h => h) (by rfl) hHeld ?_
        simp only [Act.put, List.setIfInBounds_toArray, List.set_cons_zero, List.set_cons_succ]
        refine skip_at (i := 14) 29 rfl (by kernel_rfl) (by kernel_rfl) (by kernel_rfl) rfl (fun _ _ _ h => h) (by rfl) hHeld ?_
        simp only [Act.put, List.setIfInBounds_toArray, List.set_cons_zero, List.set_cons_succ]
        refine skip_at (i := 15) 30 rfl (by kernel_rfl) (by kernel_rfl) (by kernel_rfl) rfl (fun _ _ _ h => h) (by rfl) hHeld ?_
        simp only [Act.put, List.setIfInBounds_toArray, List.set_cons_zero, List.set_cons_succ]
        refine skip_at (i := 16) 31 rfl (by kernel_rfl) (by kernel_rfl) (by kernel_rfl) rfl (fun _ _ _ h => h) (by rfl) hHeld ?_
        simp only [Act.put, List.setIfInBounds_toArray, List.set_cons_zero, List.set_cons_succ]
        refine skip_at (i := 17) 32 rfl (by kernel_rfl) (by kernel_rfl) (by kernel_rfl) rfl (fun _ _ _ h => h) (by rfl) hHeld ?_
        simp only [Act.put, List.setIfInBounds_toArray, List.set_cons_zero, List.set_cons_succ]
        refine skip_at (i := 18) 33 rfl (by kernel_rfl) (by kernel_rfl) (by kernel_rfl) rfl (fun _ _ _ h => h) (by rfl) hHeld ?_
        simp only [Act.put, List.setIfInBounds_toArray, List.set_cons_zero, List.set_cons_succ]
        refine skip_at (i := 19) 34 rfl (by kernel_rfl) (by kernel_rfl) (by kernel_rfl) rfl (fun _ _ _ h => h) (by rfl) hHeld ?_
        simp only [Act.put, List.setIfInBounds_toArray, List.set_cons_zero, List.set_cons_succ]
        refine skip_at (i := 20) 35 rfl (by kernel_rfl) (by kernel_rfl) (by kernel_rfl) rfl (fun _ _ _ h => h) (by rfl) hHeld ?_
        simp only [Act.put, List.setIfInBounds_toArray, List.set_cons_zero, List.set_cons_succ]
        refine skip_at (i := 21) 36 rfl (by kernel_rfl) (by kernel_rfl) (by kernel_rfl) rfl (fun _ _ _ h => h) (by rfl) hHeld ?_
        simp only [Act.put, List.setIfInBounds_toArray, List.set_cons_zero, List.set_cons_succ]
        refine skip_at (i := 22) 37 rfl (by kernel_rfl) (by kernel_rfl) (by kernel_rfl) rfl (fun _ _ _ h => h) (by rfl) hHeld ?_
        simp only [Act.put, List.setIfInBounds_toArray, List.set_cons_zero, List.set_cons_succ]
        refine skip_at (i := 23) 38 rfl (by kernel_rfl) (by kernel_rfl) (by kernel_rfl) rfl (fun _ _ _ h => h) (by rfl) hHeld ?_
        simp only [Act.put, List.setIfInBounds_toArray, List.set_cons_zero, List.set_cons_succ]
        refine skip_at (i := 24) 39 rfl (by kernel_rfl) (by kernel_rfl) (by kernel_rfl) rfl (fun _ _ _ h => h) (by rfl) hHeld ?_
        simp only [Act.put, List.setIfInBounds_toArray, List.set_cons_zero, List.set_cons_succ]
        refine take_at (i := 25) 40 (v := .bool false) rfl (by kernel_rfl) (by kernel_rfl) (by kernel_rfl) rfl (fun _ _ _ h => h) (by rfl) (fun w hSw => ?_) hHeld ?_
        · (try dsimp only at hSw); go_simp
        simp only [Act.put, List.setIfInBounds_toArray, List.set_cons_zero, List.set_cons_succ]
        refine wpAnyH_done (by kernel_rfl) ?_ _
        have HAX := hid (HNX.out (fun h => by cases h))
        have HSX := hid (row_below HS.out HBx)
        have HBX2 := hid (HB.out.trans (HBx.mono HB.out.size))
        clear HBx hHeld KEEP
        go_wp2_with fail
        go_roundw
        case rel => exact ⟨i + 1, by go_num, by omega, HAX, HSX, HBX2⟩
        case measure => simp [intOf]; omega
      · cases b2
        · clear hng
          have hF : H = false := HBAD.out rfl (by rw [HGE.out]; rfl)
          subst hF
          refine take_at (i := 0) 15 (v := .slice ag Lg cg) rfl (by kernel_rfl) (by kernel_rfl) (by kernel_rfl) rfl (fun _ _ _ h => h) (by rfl) (fun w hSw => ?_) hHeld ?_
          · (try dsimp only at hSw); go_simp
          simp only [Act.put, List.setIfInBounds_toArray, List.set_cons_zero, List.set_cons_succ]
          refine take_at (i := 1) 16 (v := .slice (some ⟨gc, 0, none⟩) N cc) rfl (by kernel_rfl) (by kernel_rfl) (by kernel_rfl) rfl (fun _ _ _ h => h) (by rfl) (fun w hSw => ?_) hHeld ?_
          · (try dsimp only at hSw); go_simp
          simp only [Act.put, List.setIfInBounds_toArray, List.set_cons_zero, List.set_cons_succ]
          refine take_at (i := 2) 17 (v := .int .i64 i) rfl (by kernel_rfl) (by kernel_rfl) (by kernel_rfl) rfl (fun _ _ _ h => h) (by rfl) (fun w hSw => ?_) hHeld ?_
          · (try dsimp only at hSw); go_simp
          simp only [Act.put, List.setIfInBounds_toArray, List.set_cons_zero, List.set_cons_succ]
          refine take_at (i := 3) 18 (v := .pointer (some ⟨gc, i * 3, none⟩)) rfl (by kernel_rfl) (by kernel_rfl) (by kernel_rfl) rfl (fun _ _ _ h => h) (by rfl) (fun w hSw => ?_) hHeld ?_
          · (try dsimp only at hSw); go_simp
          simp only [Act.put, List.setIfInBounds_toArray, List.set_cons_zero, List.set_cons_succ]
          refine take_at (i := 4) 19 (v := .agg #[.int .i64 p, .int .i64 x, .int .i64 y]) rfl (by kernel_rfl) (by kernel_rfl) (by kernel_rfl) rfl (fun _ _ _ h => h) (by rfl) (fun w hSw => ?_) hHeld ?_
          · (try dsimp only at hSw); go_simp
          simp only [Act.put, List.setIfInBounds_toArray, List.set_cons_zero, List.set_cons_succ]
          refine wpAnyH_ready (rs := [5]) (by kernel_rfl) (by simp) ?_
          refine node_call29 20 15 19 _ _ rfl (by rfl) rfl rfl rfl rfl ((cA.out _ (HUP.out.trans (HBx.mono HUP.out.size))).mono ?_) AllReadyH.nil
          rintro e w6 ⟨rfl, hb6⟩
          replace HBx := HBx.trans (hb6.mono HBx.size)
          replace hHeld := KEEP.out _ HBx
          refine ⟨_, rfl, hHeld, ?_⟩
          clear hb6
          simp only [Act.put, List.setIfInBounds_toArray, List.set_cons_zero, List.set_cons_succ]
          refine take_at (i := 6) 21 (v := .bool true) rfl (by kernel_rfl) (by kernel_rfl) (by kernel_rfl) rfl (fun _ _ _ h => h) (by rfl) (fun w hSw => ?_) hHeld ?_
          · (try dsimp only at hSw); go_simp
          simp only [Act.put, List.setIfInBounds_toArray, List.set_cons_zero, List.set_cons_succ]
          refine take_at (i := 7) 22 (v := .pointer (some ⟨w.heap.size, 0, none⟩)) rfl (by kernel_rfl) (by kernel_rfl) (by kernel_rfl) rfl (fun _ _ _ h => h) (by rfl) (fun w hSw => ?_) hHeld ?_
          · (try dsimp only at hSw); go_simp
          simp only [Act.put, List.setIfInBounds_toArray, List.set_cons_zero, List.set_cons_succ]
          refine take_at (i := 8) 23 (v := .slice a1 n1 k1) rfl (by kernel_rfl) (by kernel_rfl) (by kernel_rfl) rfl (fun _ _ _ h => h) (by rfl) (fun w hSw => ?_) hHeld ?_
          · (try dsimp only at hSw); go_simp
          simp only [Act.put, List.setIfInBounds_toArray, List.set_cons_zero, List.set_cons_succ]
          refine take_at (i := 9) 24 (v := .slice (some ⟨gc, 0, none⟩) N cc) rfl (by kernel_rfl) (by kernel_rfl) (by kernel_rfl) rfl (fun _ _ _ h => h) (by rfl) (fun w hSw => ?_) hHeld ?_
          · (try dsimp only at hSw); go_simp
          simp only [Act.put, List.setIfInBounds_toArray, List.set_cons_zero, List.set_cons_succ]
          refine take_at (i := 10) 25 (v := .int .i64 i) rfl (by kernel_rfl) (by kernel_rfl) (by kernel_rfl) rfl (fun _ _ _ h => h) (by rfl) (fun w hSw => ?_) hHeld ?_
          · (try dsimp only at hSw); go_simp
          simp only [Act.put, List.setIfInBounds_toArray, List.set_cons_zero, List.set_cons_succ]
          refine take_at (i := 11) 26 (v := .pointer (some ⟨gc, i * 3, none⟩)) rfl (by kernel_rfl) (by kernel_rfl) (by kernel_rfl) rfl (fun _ _ _ h => h) (by rfl) (fun w hSw => ?_) hHeld ?_
          · (try dsimp only at hSw); go_simp
          simp only [Act.put, List.setIfInBounds_toArray, List.set_cons_zero, List.set_cons_succ]
          refine take_at (i := 12) 27 (v := .agg #[.int .i64 p, .int .i64 x, .int .i64 y]) rfl (by kernel_rfl) (by kernel_rfl) (by kernel_rfl) rfl (fun _ _ _ h => h) (by rfl) (fun w hSw => ?_) hHeld ?_
          · (try dsimp only at hSw); go_simp
          simp only [Act.put, List.setIfInBounds_toArray, List.set_cons_zero, List.set_cons_succ]
          refine wpAnyH_ready (rs := [13]) (by kernel_rfl) (by simp) ?_
          refine node_call29 28 23 27 _ _ rfl (by rfl) rfl rfl rfl rfl ((cB.out _ (HUP.out.trans (HBx.mono HUP.out.size))).mono ?_) AllReadyH.nil
          rintro e w6 ⟨rfl, hb6⟩
          replace HBx := HBx.trans (hb6.mono HBx.size)
          replace hHeld := KEEP.out _ HBx
          refine ⟨_, rfl, hHeld, ?_⟩
          clear hb6
          simp only [Act.put, List.setIfInBounds_toArray, List.set_cons_zero, List.set_cons_succ]
          refine take_at (i := 14) 29 (v := .bool true) rfl (by kernel_rfl) (by kernel_rfl) (by kernel_rfl) rfl (fun _ _ _ h => h) (by rfl) (fun w hSw => ?_) hHeld ?_
          · (try dsimp only at hSw); go_simp
          simp only [Act.put, List.setIfInBounds_toArray, List.set_cons_zero, List.set_cons_succ]
          refine take_at (i := 15) 30 (v := .bool true) rfl (by kernel_rfl) (by kernel_rfl) (by kernel_rfl) rfl (fun _ _ _ h => h) (by rfl) (fun w hSw => ?_) hHeld ?_
          · (try dsimp only at hSw); go_simp
          simp only [Act.put, List.setIfInBounds_toArray, List.set_cons_zero, List.set_cons_succ]
          refine skip_at (i := 16) 31 rfl (by kernel_rfl) (by kernel_rfl) (by kernel_rfl) rfl (fun _ _ _ h => h) (by rfl) hHeld ?_
          simp only [Act.put, List.setIfInBounds_toArray, List.set_cons_zero, List.set_cons_succ]
          refine skip_at (i := 17) 32 rfl (by kernel_rfl) (by kernel_rfl) (by kernel_rfl) rfl (fun _ _ _ h => h) (by rfl) hHeld ?_
          simp only [Act.put, List.setIfInBounds_toArray, List.set_cons_zero, List.set_cons_succ]
          refine skip_at (i := 18) 33 rfl (by kernel_rfl) (by kernel_rfl) (by kernel_rfl) rfl (fun _ _ _ h => h) (by rfl) hHeld ?_
          simp only [Act.put, List.setIfInBounds_toArray, List.set_cons_zero, List.set_cons_succ]
          refine skip_at (i := 19) 34 rfl (by kernel_rfl) (by kernel_rfl) (by kernel_rfl) rfl (fun _ _ _ h => h) (by rfl) hHeld ?_
          simp only [Act.put, List.setIfInBounds_toArray, List.set_cons_zero, List.set_cons_succ]
          refine skip_at (i := 20) 35 rfl (by kernel_rfl) (by kernel_rfl) (by kernel_rfl) rfl (fun _ _ _ h => h) (by rfl) hHeld ?_
          simp only [Act.put, List.setIfInBounds_toArray, List.set_cons_zero, List.set_cons_succ]
          refine skip_at (i := 21) 36 rfl (by kernel_rfl) (by kernel_rfl) (by kernel_rfl) rfl (fun _ _ _ h => h) (by rfl) hHeld ?_
          simp only [Act.put, List.setIfInBounds_toArray, List.set_cons_zero, List.set_cons_succ]
          refine skip_at (i := 22) 37 rfl (by kernel_rfl) (by kernel_rfl) (by kernel_rfl) rfl (fun _ _ _ h => h) (by rfl) hHeld ?_
          simp only [Act.put, List.setIfInBounds_toArray, List.set_cons_zero, List.set_cons_succ]
          refine skip_at (i := 23) 38 rfl (by kernel_rfl) (by kernel_rfl) (by kernel_rfl) rfl (fun _ _ _ h => h) (by rfl) hHeld ?_
          simp only [Act.put, List.setIfInBounds_toArray, List.set_cons_zero, List.set_cons_succ]
          refine take_at (i := 24) 39 (v := .bool true) rfl (by kernel_rfl) (by kernel_rfl) (by kernel_rfl) rfl (fun _ _ _ h => h) (by rfl) (fun w hSw => ?_) hHeld ?_
          · (try dsimp only at hSw); go_simp
          simp only [Act.put, List.setIfInBounds_toArray, List.set_cons_zero, List.set_cons_succ]
          refine take_at (i := 25) 40 (v := .bool true) rfl (by kernel_rfl) (by kernel_rfl) (by kernel_rfl) rfl (fun _ _ _ h => h) (by rfl) (fun w hSw => ?_) hHeld ?_
          · (try dsimp only at hSw); go_simp
          simp only [Act.put, List.setIfInBounds_toArray, List.set_cons_zero, List.set_cons_succ]
          refine wpAnyH_done (by kernel_rfl) ?_ _
          have HBy := hid HBx
          clear HBx hHeld KEEP
          go_wp2_with fail
          go_ret
          exact ⟨rfl, HUP.out.trans (HBy.out.mono HUP.out.size)⟩
        · cases b3
          · have hlt : mv < 0 := hng.2 rfl
            have hF : H = false := HBAD.out rfl (by rw [HGE.out]; rfl)
            subst hF
            clear hng
            refine take_at (i := 0) 15 (v := .slice ag Lg cg) rfl (by kernel_rfl) (by kernel_rfl) (by kernel_rfl) rfl (fun _ _ _ h => h) (by rfl) (fun w hSw => ?_) hHeld ?_
            · (try dsimp only at hSw); go_simp
            simp only [Act.put, List.setIfInBounds_toArray, List.set_cons_zero, List.set_cons_succ]
            refine take_at (i := 1) 16 (v := .slice (some ⟨gc, 0, none⟩) N cc) rfl (by kernel_rfl) (by kernel_rfl) (by kernel_rfl) rfl (fun _ _ _ h => h) (by rfl) (fun w hSw => ?_) hHeld ?_
            · (try dsimp only at hSw); go_simp
            simp only [Act.put, List.setIfInBounds_toArray, List.set_cons_zero, List.set_cons_succ]
            refine take_at (i := 2) 17 (v := .int .i64 i) rfl (by kernel_rfl) (by kernel_rfl) (by kernel_rfl) rfl (fun _ _ _ h => h) (by rfl) (fun w hSw => ?_) hHeld ?_
            · (try dsimp only at hSw); go_simp
            simp only [Act.put, List.setIfInBounds_toArray, List.set_cons_zero, List.set_cons_succ]
            refine take_at (i := 3) 18 (v := .pointer (some ⟨gc, i * 3, none⟩)) rfl (by kernel_rfl) (by kernel_rfl) (by kernel_rfl) rfl (fun _ _ _ h => h) (by rfl) (fun w hSw => ?_) hHeld ?_
            · (try dsimp only at hSw); go_simp
            simp only [Act.put, List.setIfInBounds_toArray, List.set_cons_zero, List.set_cons_succ]
            refine take_at (i := 4) 19 (v := .agg #[.int .i64 p, .int .i64 x, .int .i64 y]) rfl (by kernel_rfl) (by kernel_rfl) (by kernel_rfl) rfl (fun _ _ _ h => h) (by rfl) (fun w hSw => ?_) hHeld ?_
            · (try dsimp only at hSw); go_simp
            simp only [Act.put, List.setIfInBounds_toArray, List.set_cons_zero, List.set_cons_succ]
            refine wpAnyH_ready (rs := [5]) (by kernel_rfl) (by simp) ?_
            refine node_call29 20 15 19 _ _ rfl (by rfl) rfl rfl rfl rfl ((cA.out _ (HUP.out.trans (HBx.mono HUP.out.size))).mono ?_) AllReadyH.nil
            rintro e w6 ⟨rfl, hb6⟩
            replace HBx := HBx.trans (hb6.mono HBx.size)
            replace hHeld := KEEP.out _ HBx
            refine ⟨_, rfl, hHeld, ?_⟩
            clear hb6
            simp only [Act.put, List.setIfInBounds_toArray, List.set_cons_zero, List.set_cons_succ]
            refine take_at (i := 6) 21 (v := .bool true) rfl (by kernel_rfl) (by kernel_rfl) (by kernel_rfl) rfl (fun _ _ _ h => h) (by rfl) (fun w hSw => ?_) hHeld ?_
            · (try dsimp only at hSw); go_simp
            simp only [Act.put, List.setIfInBounds_toArray, List.set_cons_zero, List.set_cons_succ]
            refine take_at (i := 7) 22 (v := .pointer (some ⟨w.heap.size, 0, none⟩)) rfl (by kernel_rfl) (by kernel_rfl) (by kernel_rfl) rfl (fun _ _ _ h => h) (by rfl) (fun w hSw => ?_) hHeld ?_
            · (try dsimp only at hSw); go_simp
            simp only [Act.put, List.setIfInBounds_toArray, List.set_cons_zero, List.set_cons_succ]
            refine take_at (i := 8) 23 (v := .slice a1 n1 k1) rfl (by kernel_rfl) (by kernel_rfl) (by kernel_rfl) rfl (fun _ _ _ h => h) (by rfl) (fun w hSw => ?_) hHeld ?_
            · (try dsimp only at hSw); go_simp
            simp only [Act.put, List.setIfInBounds_toArray, List.set_cons_zero, List.set_cons_succ]
            refine take_at (i := 9) 24 (v := .slice (some ⟨gc, 0, none⟩) N cc) rfl (by kernel_rfl) (by kernel_rfl) (by kernel_rfl) rfl (fun _ _ _ h => h) (by rfl) (fun w hSw => ?_) hHeld ?_
            · (try dsimp only at hSw); go_simp
            simp only [Act.put, List.setIfInBounds_toArray, List.set_cons_zero, List.set_cons_succ]
            refine take_at (i := 10) 25 (v := .int .i64 i) rfl (by kernel_rfl) (by kernel_rfl) (by kernel_rfl) rfl (fun _ _ _ h => h) (by rfl) (fun w hSw => ?_) hHeld ?_
            · (try dsimp only at hSw); go_simp
            simp only [Act.put, List.setIfInBounds_toArray, List.set_cons_zero, List.set_cons_succ]
            refine take_at (i := 11) 26 (v := .pointer (some ⟨gc, i * 3, none⟩)) rfl (by kernel_rfl) (by kernel_rfl) (by kernel_rfl) rfl (fun _ _ _ h => h) (by rfl) (fun w hSw => ?_) hHeld ?_
            · (try dsimp only at hSw); go_simp
            simp only [Act.put, List.setIfInBounds_toArray, List.set_cons_zero, List.set_cons_succ]
            refine take_at (i := 12) 27 (v := .agg #[.int .i64 p, .int .i64 x, .int .i64 y]) rfl (by kernel_rfl) (by kernel_rfl) (by kernel_rfl) rfl (fun _ _ _ h => h) (by rfl) (fun w hSw => ?_) hHeld ?_
            · (try dsimp only at hSw); go_simp
            simp only [Act.put, List.setIfInBounds_toArray, List.set_cons_zero, List.set_cons_succ]
            refine wpAnyH_ready (rs := [13]) (by kernel_rfl) (by simp) ?_
            refine node_call29 28 23 27 _ _ rfl (by rfl) rfl rfl rfl rfl ((cB.out _ (HUP.out.trans (HBx.mono HUP.out.size))).mono ?_) AllReadyH.nil
            rintro e w6 ⟨rfl, hb6⟩
            replace HBx := HBx.trans (hb6.mono HBx.size)
            replace hHeld := KEEP.out _ HBx
            refine ⟨_, rfl, hHeld, ?_⟩
            clear hb6
            simp only [Act.put, List.setIfInBounds_toArray, List.set_cons_zero, List.set_cons_succ]
            refine take_at (i := 14) 29 (v := .bool false) rfl (by kernel_rfl) (by kernel_rfl) (by kernel_rfl) rfl (fun _ _ _ h => h) (by rfl) (fun w hSw => ?_) hHeld ?_
            · (try dsimp only at hSw); go_simp
            simp only [Act.put, List.setIfInBounds_toArray, List.set_cons_zero, List.set_cons_succ]
            refine take_at (i := 15) 30 (v := .bool false) rfl (by kernel_rfl) (by kernel_rfl) (by kernel_rfl) rfl (fun _ _ _ h => h) (by rfl) (fun w hSw => ?_) hHeld ?_
            · (try dsimp only at hSw); go_simp
            simp only [Act.put, List.setIfInBounds_toArray, List.set_cons_zero, List.set_cons_succ]
            refine take_at (i := 16) 31 (v := .agg #[.slice a1 n1 k1, .slice a2 n2 k2, .slice a3 n3 k3]) rfl (by kernel_rfl) (by kernel_rfl) (by kernel_rfl) rfl (fun _ _ _ h => h) (by rfl) (fun w hSw => ?_) hHeld ?_
            · (try dsimp only at hSw); go_simp
            simp only [Act.put, List.setIfInBounds_toArray, List.set_cons_zero, List.set_cons_succ]
            refine take_at (i := 17) 32 (v := .slice ag Lg cg) rfl (by kernel_rfl) (by kernel_rfl) (by kernel_rfl) rfl (fun _ _ _ h => h) (by rfl) (fun w hSw => ?_) hHeld ?_
            · (try dsimp only at hSw); go_simp
            simp only [Act.put, List.setIfInBounds_toArray, List.set_cons_zero, List.set_cons_succ]
            refine take_at (i := 18) 33 (v := .slice (some ⟨gc, 0, none⟩) N cc) rfl (by kernel_rfl) (by kernel_rfl) (by kernel_rfl) rfl (fun _ _ _ h => h) (by rfl) (fun w hSw => ?_) hHeld ?_
            · (try dsimp only at hSw); go_simp
            simp only [Act.put, List.setIfInBounds_toArray, List.set_cons_zero, List.set_cons_succ]
            refine take_at (i := 19) 34 (v := .int .i64 i) rfl (by kernel_rfl) (by kernel_rfl) (by kernel_rfl) rfl (fun _ _ _ h => h) (by rfl) (fun w hSw => ?_) hHeld ?_
            · (try dsimp only at hSw); go_simp
            simp only [Act.put, List.setIfInBounds_toArray, List.set_cons_zero, List.set_cons_succ]
            refine take_at (i := 20) 35 (v := .pointer (some ⟨gc, i * 3, none⟩)) rfl (by kernel_rfl) (by kernel_rfl) (by kernel_rfl) rfl (fun _ _ _ h => h) (by rfl) (fun w hSw => ?_) hHeld ?_
            · (try dsimp only at hSw); go_simp
            simp only [Act.put, List.setIfInBounds_toArray, List.set_cons_zero, List.set_cons_succ]
            refine take_at (i := 21) 36 (v := .agg #[.int .i64 p, .int .i64 x, .int .i64 y]) rfl (by kernel_rfl) (by kernel_rfl) (by kernel_rfl) rfl (fun _ _ _ h => h) (by rfl) (fun w hSw => ?_) hHeld ?_
            · (try dsimp only at hSw); go_simp
            simp only [Act.put, List.setIfInBounds_toArray, List.set_cons_zero, List.set_cons_succ]
            refine wpAnyH_ready (rs := [22]) (by kernel_rfl) (by simp) ?_
            refine node_call22 37 31 32 36 _ _ _ rfl (by rfl) rfl rfl rfl rfl rfl ((cC.out _ (HUP.out.trans (HBx.mono HUP.out.size))).mono ?_) AllReadyH.nil
            rintro e w6 ⟨rfl, hb6⟩
            replace HBx := HBx.trans (hb6.mono HBx.size)
            replace hHeld := KEEP.out _ HBx
            refine ⟨_, rfl, hHeld, ?_⟩
            clear hb6
            simp only [Act.put, List.setIfInBounds_toArray, List.set_cons_zero, List.set_cons_succ]
            refine take_at (i := 23) 38 (v := .bool true) rfl (by kernel_rfl) (by kernel_rfl) (by kernel_rfl) rfl (fun _ _ _ h => h) (by rfl) (fun w hSw => ?_) hHeld ?_
            · (try dsimp only at hSw); go_simp
            simp only [Act.put, List.setIfInBounds_toArray, List.set_cons_zero, List.set_cons_succ]
            refine take_at (i := 24) 39 (v := .bool true) rfl (by kernel_rfl) (by kernel_rfl) (by kernel_rfl) rfl (fun _ _ _ h => h) (by rfl) (fun w hSw => ?_) hHeld ?_
            · (try dsimp only at hSw); go_simp
            simp only [Act.put, List.setIfInBounds_toArray, List.set_cons_zero, List.set_cons_succ]
            refine take_at (i := 25) 40 (v := .bool true) rfl (by kernel_rfl) (by kernel_rfl) (by kernel_rfl) rfl (fun _ _ _ h => h) (by rfl) (fun w hSw => ?_) hHeld ?_
            · (try dsimp only at hSw); go_simp
            simp only [Act.put, List.setIfInBounds_toArray, List.set_cons_zero, List.set_cons_succ]
            refine wpAnyH_done (by kernel_rfl) ?_ _
            have HBy := hid HBx
            clear HBx hHeld KEEP
            go_wp2_with fail
            go_ret
            exact ⟨rfl, HUP.out.trans (HBy.out.mono HUP.out.size)⟩
          · have hlt : ¬ mv < 0 := fun h => by have := hng.1 h; cases this
            have HGD : Hid (gd = true) := by rw [HGE.out]; exact rfl
            clear hng
            refine take_at (i := 0) 15 (v := .slice ag Lg cg) rfl (by kernel_rfl) (by kernel_rfl) (by kernel_rfl) rfl (fun _ _ _ h => h) (by rfl) (fun w hSw => ?_) hHeld ?_
            · (try dsimp only at hSw); go_simp
            simp only [Act.put, List.setIfInBounds_toArray, List.set_cons_zero, List.set_cons_succ]
            refine take_at (i := 1) 16 (v := .slice (some ⟨gc, 0, none⟩) N cc) rfl (by kernel_rfl) (by kernel_rfl) (by kernel_rfl) rfl (fun _ _ _ h => h) (by rfl) (fun w hSw => ?_) hHeld ?_
            · (try dsimp only at hSw); go_simp
            simp only [Act.put, List.setIfInBounds_toArray, List.set_cons_zero, List.set_cons_succ]
            refine take_at (i := 2) 17 (v := .int .i64 i) rfl (by kernel_rfl) (by kernel_rfl) (by kernel_rfl) rfl (fun _ _ _ h => h) (by rfl) (fun w hSw => ?_) hHeld ?_
            · (try dsimp only at hSw); go_simp
            simp only [Act.put, List.setIfInBounds_toArray, List.set_cons_zero, List.set_cons_succ]
            refine take_at (i := 3) 18 (v := .pointer (some ⟨gc, i * 3, none⟩)) rfl (by kernel_rfl) (by kernel_rfl) (by kernel_rfl) rfl (fun _ _ _ h => h) (by rfl) (fun w hSw => ?_) hHeld ?_
            · (try dsimp only at hSw); go_simp
            simp only [Act.put, List.setIfInBounds_toArray, List.set_cons_zero, List.set_cons_succ]
            refine take_at (i := 4) 19 (v := .agg #[.int .i64 p, .int .i64 x, .int .i64 y]) rfl (by kernel_rfl) (by kernel_rfl) (by kernel_rfl) rfl (fun _ _ _ h => h) (by rfl) (fun w hSw => ?_) hHeld ?_
            · (try dsimp only at hSw); go_simp
            simp only [Act.put, List.setIfInBounds_toArray, List.set_cons_zero, List.set_cons_succ]
            refine wpAnyH_ready (rs := [5]) (by kernel_rfl) (by simp) ?_
            refine node_call29 20 15 19 _ _ rfl (by rfl) rfl rfl rfl rfl ((cA.out _ (HUP.out.trans (HBx.mono HUP.out.size))).mono ?_) AllReadyH.nil
            rintro e w6 ⟨rfl, hb6⟩
            replace HBx := HBx.trans (hb6.mono HBx.size)
            replace hHeld := KEEP.out _ HBx
            refine ⟨_, rfl, hHeld, ?_⟩
            clear hb6
            simp only [Act.put, List.setIfInBounds_toArray, List.set_cons_zero, List.set_cons_succ]
            refine take_at (i := 6) 21 (v := .bool true) rfl (by kernel_rfl) (by kernel_rfl) (by kernel_rfl) rfl (fun _ _ _ h => h) (by rfl) (fun w hSw => ?_) hHeld ?_
            · (try dsimp only at hSw); go_simp
            simp only [Act.put, List.setIfInBounds_toArray, List.set_cons_zero, List.set_cons_succ]
            refine take_at (i := 7) 22 (v := .pointer (some ⟨w.heap.size, 0, none⟩)) rfl (by kernel_rfl) (by kernel_rfl) (by kernel_rfl) rfl (fun _ _ _ h => h) (by rfl) (fun w hSw => ?_) hHeld ?_
            · (try dsimp only at hSw); go_simp
            simp only [Act.put, List.setIfInBounds_toArray, List.set_cons_zero, List.set_cons_succ]
            refine take_at (i := 8) 23 (v := .slice a1 n1 k1) rfl (by kernel_rfl) (by kernel_rfl) (by kernel_rfl) rfl (fun _ _ _ h => h) (by rfl) (fun w hSw => ?_) hHeld ?_
            · (try dsimp only at hSw); go_simp
            simp only [Act.put, List.setIfInBounds_toArray, List.set_cons_zero, List.set_cons_succ]
            refine take_at (i := 9) 24 (v := .slice (some ⟨gc, 0, none⟩) N cc) rfl (by kernel_rfl) (by kernel_rfl) (by kernel_rfl) rfl (fun _ _ _ h => h) (by rfl) (fun w hSw => ?_) hHeld ?_
            · (try dsimp only at hSw); go_simp
            simp only [Act.put, List.setIfInBounds_toArray, List.set_cons_zero, List.set_cons_succ]
            refine take_at (i := 10) 25 (v := .int .i64 i) rfl (by kernel_rfl) (by kernel_rfl) (by kernel_rfl) rfl (fun _ _ _ h => h) (by rfl) (fun w hSw => ?_) hHeld ?_
            · (try dsimp only at hSw); go_simp
            simp only [Act.put, List.setIfInBounds_toArray, List.set_cons_zero, List.set_cons_succ]
            refine take_at (i := 11) 26 (v := .pointer (some ⟨gc, i * 3, none⟩)) rfl (by kernel_rfl) (by kernel_rfl) (by kernel_rfl) rfl (fun _ _ _ h => h) (by rfl) (fun w hSw => ?_) hHeld ?_
            · (try dsimp only at hSw); go_simp
            simp only [Act.put, List.setIfInBounds_toArray, List.set_cons_zero, List.set_cons_succ]
            refine take_at (i := 12) 27 (v := .agg #[.int .i64 p, .int .i64 x, .int .i64 y]) rfl (by kernel_rfl) (by kernel_rfl) (by kernel_rfl) rfl (fun _ _ _ h => h) (by rfl) (fun w hSw => ?_) hHeld ?_
            · (try dsimp only at hSw); go_simp
            simp only [Act.put, List.setIfInBounds_toArray, List.set_cons_zero, List.set_cons_succ]
            refine wpAnyH_ready (rs := [13]) (by kernel_rfl) (by simp) ?_
            refine node_call29 28 23 27 _ _ rfl (by rfl) rfl rfl rfl rfl ((cB.out _ (HUP.out.trans (HBx.mono HUP.out.size))).mono ?_) AllReadyH.nil
            rintro e w6 ⟨rfl, hb6⟩
            replace HBx := HBx.trans (hb6.mono HBx.size)
            replace hHeld := KEEP.out _ HBx
            refine ⟨_, rfl, hHeld, ?_⟩
            clear hb6
            simp only [Act.put, List.setIfInBounds_toArray, List.set_cons_zero, List.set_cons_succ]
            refine take_at (i := 14) 29 (v := .bool false) rfl (by kernel_rfl) (by kernel_rfl) (by kernel_rfl) rfl (fun _ _ _ h => h) (by rfl) (fun w hSw => ?_) hHeld ?_
            · (try dsimp only at hSw); go_simp
            simp only [Act.put, List.setIfInBounds_toArray, List.set_cons_zero, List.set_cons_succ]
            refine take_at (i := 15) 30 (v := .bool false) rfl (by kernel_rfl) (by kernel_rfl) (by kernel_rfl) rfl (fun _ _ _ h => h) (by rfl) (fun w hSw => ?_) hHeld ?_
            · (try dsimp only at hSw); go_simp
            simp only [Act.put, List.setIfInBounds_toArray, List.set_cons_zero, List.set_cons_succ]
            refine take_at (i := 16) 31 (v := .agg #[.slice a1 n1 k1, .slice a2 n2 k2, .slice a3 n3 k3]) rfl (by kernel_rfl) (by kernel_rfl) (by kernel_rfl) rfl (fun _ _ _ h => h) (by rfl) (fun w hSw => ?_) hHeld ?_
            · (try dsimp only at hSw); go_simp
            simp only [Act.put, List.setIfInBounds_toArray, List.set_cons_zero, List.set_cons_succ]
            refine take_at (i := 17) 32 (v := .slice ag Lg cg) rfl (by kernel_rfl) (by kernel_rfl) (by kernel_rfl) rfl (fun _ _ _ h => h) (by rfl) (fun w hSw => ?_) hHeld ?_
            · (try dsimp only at hSw); go_simp
            simp only [Act.put, List.setIfInBounds_toArray, List.set_cons_zero, List.set_cons_succ]
            refine take_at (i := 18) 33 (v := .slice (some ⟨gc, 0, none⟩) N cc) rfl (by kernel_rfl) (by kernel_rfl) (by kernel_rfl) rfl (fun _ _ _ h => h) (by rfl) (fun w hSw => ?_) hHeld ?_
            · (try dsimp only at hSw); go_simp
            simp only [Act.put, List.setIfInBounds_toArray, List.set_cons_zero, List.set_cons_succ]
            refine take_at (i := 19) 34 (v := .int .i64 i) rfl (by kernel_rfl) (by kernel_rfl) (by kernel_rfl) rfl (fun _ _ _ h => h) (by rfl) (fun w hSw => ?_) hHeld ?_
            · (try dsimp only at hSw); go_simp
            simp only [Act.put, List.setIfInBounds_toArray, List.set_cons_zero, List.set_cons_succ]
            refine take_at (i := 20) 35 (v := .pointer (some ⟨gc, i * 3, none⟩)) rfl (by kernel_rfl) (by kernel_rfl) (by kernel_rfl) rfl (fun _ _ _ h => h) (by rfl) (fun w hSw => ?_) hHeld ?_
            · (try dsimp only at hSw); go_simp
            simp only [Act.put, List.setIfInBounds_toArray, List.set_cons_zero, List.set_cons_succ]
            refine take_at (i := 21) 36 (v := .agg #[.int .i64 p, .int .i64 x, .int .i64 y]) rfl (by kernel_rfl) (by kernel_rfl) (by kernel_rfl) rfl (fun _ _ _ h => h) (by rfl) (fun w hSw => ?_) hHeld ?_
            · (try dsimp only at hSw); go_simp
            simp only [Act.put, List.setIfInBounds_toArray, List.set_cons_zero, List.set_cons_succ]
            refine wpAnyH_ready (rs := [22]) (by kernel_rfl) (by simp) ?_
            refine node_call22 37 31 32 36 _ _ _ rfl (by rfl) rfl rfl rfl rfl rfl ((cC.out _ (HUP.out.trans (HBx.mono HUP.out.size))).mono ?_) AllReadyH.nil
            rintro e w6 ⟨rfl, hb6⟩
            replace HBx := HBx.trans (hb6.mono HBx.size)
            replace hHeld := KEEP.out _ HBx
            refine ⟨_, rfl, hHeld, ?_⟩
            clear hb6
            simp only [Act.put, List.setIfInBounds_toArray, List.set_cons_zero, List.set_cons_succ]
            refine take_at (i := 23) 38 (v := .bool false) rfl (by kernel_rfl) (by kernel_rfl) (by kernel_rfl) rfl (fun _ _ _ h => h) (by rfl) (fun w hSw => ?_) hHeld ?_
            · (try dsimp only at hSw); go_simp
            simp only [Act.put, List.setIfInBounds_toArray, List.set_cons_zero, List.set_cons_succ]
            refine take_at (i := 24) 39 (v := .bool false) rfl (by kernel_rfl) (by kernel_rfl) (by kernel_rfl) rfl (fun _ _ _ h => h) (by rfl) (fun w hSw => ?_) hHeld ?_
            · (try dsimp only at hSw); go_simp
            simp only [Act.put, List.setIfInBounds_toArray, List.set_cons_zero, List.set_cons_succ]
            refine take_at (i := 25) 40 (v := .bool false) rfl (by kernel_rfl) (by kernel_rfl) (by kernel_rfl) rfl (fun _ _ _ h => h) (by rfl) (fun w hSw => ?_) hHeld ?_
            · (try dsimp only at hSw); go_simp
            simp only [Act.put, List.setIfInBounds_toArray, List.set_cons_zero, List.set_cons_succ]
            refine wpAnyH_done (by kernel_rfl) ?_ _
            have HAX := hid (HNX.out (fun _ => HGD.out))
            have HSX := hid (row_below HS.out HBx)
            have HBX2 := hid (HB.out.trans (HBx.mono HB.out.size))
            clear HBx hHeld KEEP
            go_wp2_with fail
            go_roundw
            case rel => exact ⟨i + 1, by go_num, by omega, HAX, HSX, HBX2⟩
            case measure => simp [intOf]; omega
    · obtain rfl : i = N := by omega
      have hT : H = true := by
        rw [HH.out]
        refine holds_all ?_
        have := HA.out
        rwa [List.take_of_length_le (by rw [cells_len, HN.out]; exact Nat.le_refl _)] at this
      subst hT
      go_wp2
      go_ret
      exact ⟨rfl, HBW.out.trans (HB.out.mono HBW.out.size)⟩
end Go.Proofs.YtjonbhimbhidpaaDoor
