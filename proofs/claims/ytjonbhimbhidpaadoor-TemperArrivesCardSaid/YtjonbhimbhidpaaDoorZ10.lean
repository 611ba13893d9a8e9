/-
  Walks over chapter 6: the reference's Same.
  Walks over chapter 6: the program returns the results of the document's examples; the reference's Kernel.
  Walks over chapter 6: the program returns the results of the document's examples.
  Walks over chapter 6: the statements cut their arguments: rows.
-/
import Derived.Test.YtjonbhimbhidpaaDoorZ9
import Derived.Deep.AppendLies
import Derived.Deep.RegionLaw
namespace Go.Proofs.YtjonbhimbhidpaaDoor
open Go.RowKit

theorem strB_inj {a b : Str} (h : strB a = strB b) : a = b := by
  have := congrArg (fun s : ByteArray => s.data.toList) h
  simpa [strB] using this
theorem strB_toList (l : Str) : (strB l).toList = l := by
  show (⟨⟨l⟩⟩ : ByteArray).toList = l
  simp
theorem strB_beq {a b : Str} (h : a ≠ b) : ((strB a).toList == (strB b).toList) = false := by
  rw [strB_toList, strB_toList]
  exact beq_false_of_ne h
theorem take_succ_eq {α : Type} {a b : List α} {i : Nat} (ha : i < a.length) (hb : i < b.length) (h : a.take i = b.take i) (h2 : a[i] = b[i]) : a.take (i + 1) = b.take (i + 1) := by
  rw [List.take_add_one, List.take_add_one, h]
  simp [ha, hb, h2]

set_option maxHeartbeats 4000000 in
set_option maxRecDepth 100000 in
theorem rSame_any (va vb : Value) (a b : Grid) (w : World) (ha : IsGrid w va a) (hb : IsGrid w vb b) :
    Calls Tryd.prog 31 #[va, vb] w fun e w' => e = .returned (.bool (decide (a = b))) ∧ Below w.heap.size w w' := by
  obtain ⟨aa, ca, rfl, hla, hca⟩ := ha
  obtain ⟨ab, cb, rfl, hlb, hcb⟩ := hb
  have HA := hid hca
  have HB := hid hcb
  clear hca hcb
  obtain ⟨F, hF⟩ : ∃ F, F = decide (a = b) := ⟨_, rfl⟩
  rw [← hF]
  by_cases hlen : a.length = b.length
  · obtain ⟨N, hN⟩ : ∃ N, N = a.length := ⟨_, rfl⟩
    rw [← hN] at hla ⊢
    rw [show b.length = N by omega] at hlb ⊢
    have HN := hid hN
    have HN2 : Hid (N = b.length) := hN.trans hlen
    have HF := hid hF
    clear hF hN hlen
    go_enter Tryd.func31, Tryd.ntmps31
    go_wp2
    go_loopw [5] (fun v wr => ∃ i : Nat, v = .int .i64 i ∧ i ≤ N ∧ Hid (a.take i = b.take i) ∧ Hid (Below w.heap.size w wr)) (fun v _ => N - (intOf v).toNat)
    case atStart => exact ⟨0, rfl, Nat.zero_le _, rfl, Below.refl _ _⟩
    case round =>
      obtain ⟨i, rfl, hi, HT, HBe⟩ := hrel
      by_cases hlt : i < N
      · have ha' : i < a.length := by rw [← HN.out]; exact hlt
        have hb' : i < b.length := by rw [← HN2.out]; exact hlt
        obtain ⟨ga, ua, rfl, qa, sa⟩ := HA.out i ha'
        obtain ⟨gb, ub, rfl, qb, sb⟩ := HB.out i hb'
        rw [show a.getD i [] = a[i] by simp [ha']] at sa
        rw [show b.getD i [] = b[i] by simp [hb']] at sb
        have HNE : Hid (a[i] ≠ b[i] → F = false) := by
          intro h
          rw [HF.out]
          refine decide_eq_false fun e => h ?_
          subst e; rfl
        have HEQ : Hid (a[i] = b[i] → a.take (i + 1) = b.take (i + 1)) := fun h => take_succ_eq ha' hb' HT.out h
        generalize a[i] = ra at *
        generalize b[i] = rb at *
        obtain ⟨a2, c2, rfl, hl2, hs2⟩ := sa
        obtain ⟨a3, c3, rfl, hl3, hs3⟩ := sb
        have HSA := hid hs2
        have HSB := hid hs3
        have e0 := (HBe.out.cell (World.block_lt_of_cell? w _ qa)).trans qa
        have e1 := (HBe.out.cell (World.block_lt_of_cell? w _ qb)).trans qb
        clear ha' hb' hs2 hs3 HT
        by_cases h2 : ra.length = rb.length
        · obtain ⟨M, hM⟩ : ∃ M, M = ra.length := ⟨_, rfl⟩
          rw [← hM] at hl2 e0
          rw [show rb.length = M by omega] at hl3 e1
          have HM := hid hM
          have HM2 : Hid (M = rb.length) := hM.trans h2
          clear hM h2
          go_wp2
          go_quiet (fail)
          go_wp2
          clear e0 e1
          go_loopw [6] (fun v wr2 => ∃ y : Nat, v = .int .i64 y ∧ y ≤ M ∧ Hid (ra.take y = rb.take y) ∧ Hid (Below w.heap.size w wr2)) (fun v _ => M - (intOf v).toNat)
          case atStart => exact ⟨0, rfl, Nat.zero_le _, rfl, below_drewN_r HBe.out nq⟩
          case round =>
            obtain ⟨y, rfl, hy, HT, HBy⟩ := hrel
            have e0 := (HBy.out.cell (World.block_lt_of_cell? w _ qa)).trans qa
            have e1 := (HBy.out.cell (World.block_lt_of_cell? w _ qb)).trans qb
            rw [← HM.out] at e0
            rw [← HM2.out] at e1
            by_cases hly : y < M
            · have hya : y < ra.length := by rw [← HM.out]; exact hly
              have hyb : y < rb.length := by rw [← HM2.out]; exact hly
              obtain ⟨g2, rfl, p2⟩ := HSA.out y hya
              obtain ⟨g3, rfl, p3⟩ := HSB.out y hyb
              rw [show ra.getD y [] = ra[y] by simp [hya]] at p2
              rw [show rb.getD y [] = rb[y] by simp [hyb]] at p3
              have e2 := (HBy.out.cell (World.block_lt_of_cell? w _ p2)).trans p2
              have e3 := (HBy.out.cell (World.block_lt_of_cell? w _ p3)).trans p3
              have HNE2 : Hid (ra[y] ≠ rb[y] → F = false) := by
                intro h
                refine HNE.out fun e => h ?_
                subst e; rfl
              have HEQ2 : Hid (ra[y] = rb[y] → ra.take (y + 1) = rb.take (y + 1)) := fun h => take_succ_eq hya hyb HT.out h
              clear p2 p3
              generalize ra[y] = s at *
              generalize rb[y] = t at *
              clear hya hyb HT
              by_cases hst : s = t
              · have H2 := hid (HEQ2.out hst)
                subst hst
                clear HNE2 HEQ2
                go_wp2
                go_quiet (fail)
                go_wp2
                go_roundw
                case rel => exact ⟨y + 1, by go_num, by omega, H2, below_drewN_r HBy.out nq⟩
                case measure => simp [intOf]; omega
              · have hf := HNE2.out hst
                subst hf
                have d := strB_beq hst
                clear hst HNE2 HEQ2
                go_wp2
                go_quiet (fail)
                go_wp2
                go_ret
                exact ⟨rfl, below_drewN_r HBy.out nq⟩
            · obtain rfl : y = M := by omega
              have H2 := hid (HEQ.out (by
                have := HT.out
                rw [List.take_of_length_le (by rw [← HM.out]; exact Nat.le_refl _), List.take_of_length_le (by rw [← HM2.out]; exact Nat.le_refl _)] at this
                exact this))
              go_wp2
              go_roundw
              case rel => exact ⟨i + 1, by go_num, by omega, H2, HBy⟩
              case measure => simp [intOf]; omega
        · have hf := HNE.out (fun e => h2 (by rw [e]))
          subst hf
          have d : (((ra.length : Nat) : Int) != ((rb.length : Nat) : Int)) = true := by simp; omega
          have D := hid d
          clear d h2
          go_wp2
          have d := D.out
          go_quiet (fail)
          go_wp2
          go_ret
          exact ⟨rfl, below_drewN_r HBe.out nq⟩
      · obtain rfl : i = N := by omega
        have hf : F = true := by
          rw [HF.out]
          refine decide_eq_true ?_
          have := HT.out
          rwa [List.take_of_length_le (by rw [← HN.out]; exact Nat.le_refl _), List.take_of_length_le (by rw [← HN2.out]; exact Nat.le_refl _)] at this
        subst hf
        go_wp2
        go_ret
        exact ⟨rfl, HBe.out⟩
  · have hf : F = false := by rw [hF]; exact decide_eq_false (fun e => hlen (by rw [e]))
    subst hf
    clear hF
    go_enter Tryd.func31, Tryd.ntmps31
    go_wp2
    go_ret
    exact ⟨rfl, Below.refl _ _⟩
end Go.Proofs.YtjonbhimbhidpaaDoor

namespace Go.Proofs.YtjonbhimbhidpaaDoor
open Go.RowKit

theorem grid_lit {W : World} {g1 g2 : Nat} {s : Str} {t1 t2 : TypeId} {c1 c2 : Nat} (h1 : W.heap[g1]? = some (.cells #[.string (strB s)] t1)) (h2 : W.heap[g2]? = some (.cells #[.slice (some ⟨g1, 0, none⟩) 1 c1] t2)) : IsGrid W (.slice (some ⟨g2, 0, none⟩) 1 c2) [[s]] := by
  refine ⟨_, _, rfl, by simp, fun i hi => ?_⟩
  obtain rfl : i = 0 := by simp at hi; omega
  refine ⟨g2, _, rfl, box1 h2, _, _, rfl, by simp, fun j hj => ?_⟩
  obtain rfl : j = 0 := by simp at hj; omega
  exact ⟨g1, rfl, box1 h1⟩
theorem jl_lit2 {W : World} {g : Nat} {a b c d : Int} {t : TypeId} {cp : Nat} (h : W.heap[g]? = some (.cells #[.int .i64 a, .int .i64 b, .int .i64 c, .int .i64 d] t)) : IsJl W (.slice (some ⟨g, 0, none⟩) 2 cp) [(a, b), (c, d)] := by
  refine ⟨_, _, rfl, by simp, fun i hi => ?_⟩
  have hi2 : i = 0 ∨ i = 1 := by simp at hi; omega
  refine ⟨g, rfl, ?_⟩
  rcases hi2 with rfl | rfl <;> simp [World.cell?, h, jlAt]
theorem jl_lit1 {W : World} {g : Nat} {a b : Int} {t : TypeId} {cp : Nat} (h : W.heap[g]? = some (.cells #[.int .i64 a, .int .i64 b] t)) : IsJl W (.slice (some ⟨g, 0, none⟩) 1 cp) [(a, b)] := by
  refine ⟨_, _, rfl, by simp, fun i hi => ?_⟩
  obtain rfl : i = 0 := by simp at hi; omega
  refine ⟨g, rfl, ?_⟩
  simp [World.cell?, h, jlAt]
theorem mv_lit2 {W : World} {g : Nat} {a b c d a' b' c' d' : Int} {t : TypeId} {cp : Nat} (h : W.heap[g]? = some (.cells #[.int .i64 a, .int .i64 b, .int .i64 c, .int .i64 d, .int .i64 a', .int .i64 b', .int .i64 c', .int .i64 d'] t)) : IsMv W (.slice (some ⟨g, 0, none⟩) 2 cp) [(a, b, c, d), (a', b', c', d')] := by
  refine ⟨_, _, rfl, by simp, fun i hi => ?_⟩
  have hi2 : i = 0 ∨ i = 1 := by simp at hi; omega
  refine ⟨g, rfl, ?_⟩
  rcases hi2 with rfl | rfl <;> simp [World.cell?, h, mvAt]

/-- four blocks are made -/
theorem alloc4 (w : World) (a b c d : Obj) : Below w.heap.size w ((((w.alloc a).alloc b).alloc c).alloc d) ∧ ((((w.alloc a).alloc b).alloc c).alloc d).heap[w.heap.size]? = some a ∧ ((((w.alloc a).alloc b).alloc c).alloc d).heap[w.heap.size + 1]? = some b ∧ ((((w.alloc a).alloc b).alloc c).alloc d).heap[w.heap.size + 1 + 1]? = some c ∧ ((((w.alloc a).alloc b).alloc c).alloc d).heap[w.heap.size + 1 + 1 + 1]? = some d := by
  obtain ⟨h1, h2, h3, h4, h5⟩ := alloc3 w a b c
  refine ⟨h1.alloc (by omega) _, ?_, ?_, ?_, ?_⟩
  · exact (Below.heap_alloc _ _ _ (by omega)).trans h3
  · exact (Below.heap_alloc _ _ _ (by omega)).trans h4
  · exact (Below.heap_alloc _ _ _ (by omega)).trans h5
  · exact heap_alloc_at (by omega)

def rowOv (s : Str) (js : List (Int × Int)) : Ov := ⟨[[s]], [(0, 0, 1, 0), (0, 0, -1, 0)], js⟩

set_option maxHeartbeats 2000000 in
set_option maxRecDepth 100000 in
theorem row_any (s : Str) (aj : Option Addr) (nj cj : Nat) (js : List (Int × Int)) (w : World) (hj : IsJl w (.slice aj nj cj) js) :
    Calls Tryd.prog 49 #[.string (strB s), .slice aj nj cj] w fun e w' => ∃ vs vm, e = .returned (.agg #[vs, vm, .slice aj nj cj]) ∧ IsOv w' vs vm (.slice aj nj cj) (rowOv s js) ∧ Below w.heap.size w w' := by
  have HJ := hid hj
  clear hj
  go_enter Tryd.func49, Tryd.ntmps49
  go_wp2
  obtain ⟨hb4, k0, k1, k2, k3⟩ := alloc4 w (.cells #[.slice (some ⟨w.heap.size + 1 + 1, 0, none⟩) 1 1, .slice (some ⟨w.heap.size + 1 + 1 + 1, 0, none⟩) 2 2, .slice aj nj cj] 26) (.cells #[.string (strB s)] 9) (.cells #[.slice (some ⟨w.heap.size + 1, 0, none⟩) 1 1] 71)
    (.cells #[.int .i64 0, .int .i64 0, .int .i64 1, .int .i64 0, .int .i64 0, .int .i64 0, .int .i64 (-1), .int .i64 0] 53)
  obtain ⟨s0, s1, s2⟩ := cells3_of k0
  refine bodyPost_ret (v := .agg #[.slice (some ⟨w.heap.size + 1 + 1, 0, none⟩) 1 1, .slice (some ⟨w.heap.size + 1 + 1 + 1, 0, none⟩) 2 2, .slice aj nj cj]) (by simp [results, Tryd.results49, go_sem, s0, s1, s2]) rfl ?_
  exact ⟨_, _, rfl, ⟨grid_lit k1 k2, mv_lit2 k3, isJl_below HJ.out hb4⟩, hb4⟩

/-- the set of the cells that are lost in no number of steps -/
theorem wKK (o : Ov) (hok : o.Ok) (c : Sp) (h : o.ex c = true) : o.whereS (o.listOf fun c => lossN (o.LL c)) 1000000 c = o.KK c := loss_where o o.N (by have := N_small hok; omega) c h
set_option maxHeartbeats 2000000 in
set_option maxRecDepth 100000 in
theorem rKernel_any (vs vm vj : Value) (o : Ov) (w : World) (ho : IsOv w vs vm vj o) (hok : o.Ok) :
    Calls Tryd.prog 23 #[.agg #[vs, vm, vj]] w fun e w' => ∃ v, e = .returned v ∧ OwnG w' w.heap.size v (o.gridOf o.KK) ∧ Below w.heap.size w w' := by
  have HO := hid ho
  have HOK := hid hok
  have HGG : Hid (o.gridOf (o.whereS (o.listOf fun c => lossN (o.LL c)) 1000000) = o.gridOf o.KK) := gridOf_ext o _ _ (wKK o hok)
  clear ho hok
  go_enter Tryd.func23, Tryd.ntmps23
  go_wp2
  go_region_with (first
    | (go_at_call 20; refine Calls.mono (rLosses_any vs vm vj o _ (isOv_below HO.out (by repeat (first | exact Below.refl _ _ | (apply Hid.out; assumption) | refine Below.drew ?_ | refine below_drewN_r ?_ _ | refine Below.alloc ?_ (by first | omega | (simp; done) | (simp; omega)) _))) HOK.out) ?_; rintro e w5 ⟨v5, rfl, hi5, hb5⟩; have z0 := fun hg => hb5.cell (p := ⟨w.heap.size, 0, none⟩) hg; have z1 := fun hg => hb5.cell (p := ⟨w.heap.size, 1, none⟩) hg; have z2 := fun hg => hb5.cell (p := ⟨w.heap.size, 2, none⟩) hg; have hz : ∀ X : World, X.drew.heap = X.heap := (fun _ => rfl); have hsz5 := hb5.size; simp only [hz, World.size_alloc] at hsz5; simp [hz, go_sem] at z0 z1 z2; have HI5 := hid (ownI_ints hi5 (by rw [listOf_len]; have := N_small HOK.out; omega)); have HB5 : Hid (Below w.heap.size w w5) := (Below.trans (b := _) (by repeat (first | exact Below.refl _ _ | (apply Hid.out; assumption) | refine Below.drew ?_ | refine below_drewN_r ?_ _ | refine Below.alloc ?_ (by first | omega | (simp; done) | (simp; omega)) _)) (hb5.mono (by simp only [hz, World.size_alloc]; omega))); clear hi5 hb5)
    | (go_at_call 50; refine Calls.mono (rWhere_any vs vm vj v5 o _ 1000000 _ (isOv_below HO.out (by repeat (first | exact Below.refl _ _ | (apply Hid.out; assumption) | refine Below.drew ?_ | refine below_drewN_r ?_ _ | refine Below.alloc ?_ (by first | omega | (simp; done) | (simp; omega)) _))) HOK.out (isInts_below HI5.out (by repeat (first | exact Below.refl _ _ | refine Below.drew ?_ | refine below_drewN_r ?_ _))) (listOf_len o _)) ?_; rintro e w6 ⟨v6, rfl, hg6, hb6⟩; have HB6 : Hid (Below w.heap.size w w6) := (Below.trans (b := _) (by repeat (first | exact Below.refl _ _ | (apply Hid.out; assumption) | refine Below.drew ?_ | refine below_drewN_r ?_ _ | refine Below.alloc ?_ (by first | omega | (simp; done) | (simp; omega)) _)) (hb6.mono (by first | omega | (have := HB5.out.size; simp; omega)))); have HG6 : Hid (OwnG w6 w.heap.size v6 (o.gridOf o.KK)) := (by rw [← HGG.out]; exact ownG_mono hg6 (by first | omega | (have := HB5.out.size; simp; omega))); clear hg6 hb6)
    | fail)
  all_goals
    go_wp2
    go_ret
    exact ⟨_, rfl, HG6.out, HB6.out⟩
end Go.Proofs.YtjonbhimbhidpaaDoor

namespace Go.Proofs.YtjonbhimbhidpaaDoor
open Go.RowKit

def ovA : Ov := rowOv [46, 46, 46] [(1, 0), (-1, 0)]
def ovB : Ov := rowOv [46, 46, 46] [(0, 0)]
theorem numA : ovA.Num := by
  refine ⟨?_, ?_, ?_⟩
  · intro m hm
    simp [ovA, rowOv] at hm
    rcases hm with rfl | rfl <;> (unfold I64; simp)
  · intro m hm
    simp [ovA, rowOv] at hm
    rcases hm with rfl | rfl <;> (unfold I64; simp)
  · intro q hq s hs
    simp [ovA, rowOv] at hq
    subst hq
    simp at hs
    subst hs
    simp
theorem numB : ovB.Num := by
  refine ⟨?_, ?_, ?_⟩
  · intro m hm
    simp [ovB, rowOv] at hm
    rcases hm with rfl | rfl <;> (unfold I64; simp)
  · intro m hm
    simp [ovB, rowOv] at hm
    subst hm; (unfold I64; simp)
  · intro q hq s hs
    simp [ovB, rowOv] at hq
    subst hq
    simp at hs
    subst hs
    simp
theorem validA : ovA.valid = true := by decide +kernel
theorem gridA : ovA.gridOf ovA.KK = [[[46, 35, 46]]] := by decide +kernel
theorem lostA : lostV ovA (0, 1, 0) = .tuple #[.int .i64 1, .int .i64 0] := by
  have h1 : (ovA.valid && ovA.ex (0, 1, 0)) = true := by decide +kernel
  have h2 : ovA.LL (0, 1, 0) = some 1 := by decide +kernel
  unfold lostV
  rw [if_pos h1, h2]; rfl
theorem chooseB : chooseV ovB (0, 2, 0) = .tuple #[.int .i64 1, .int .i64 0] := by
  have h1 : (ovB.valid && ovB.ex (0, 2, 0)) = true := by decide +kernel
  have h2 : ovB.KK (0, 2, 0) = true := by decide +kernel
  have h3 : ovB.move ovB.KK (0, 2, 0) = 1 := by decide +kernel
  unfold chooseV
  rw [if_pos h1, if_pos h2, h3]
theorem kernelA (vs vm vj : Value) (w : World) (ho : IsOv w vs vm vj ovA) : Calls Tryd.prog 25 #[.agg #[vs, vm, vj]] w fun e w' => ∃ v, e = .returned (.tuple #[v, .int .i64 0]) ∧ IsGrid w' v [[[46, 35, 46]]] ∧ Below w.heap.size w w' := by
  refine (kernelP_any vs vm vj ovA w ho numA).mono ?_
  rintro e w' ⟨hb, h⟩
  rw [if_pos validA, gridA] at h
  obtain ⟨v, h1, h2⟩ := h
  exact ⟨v, h1, ownG_isGrid h2 (by simp) (by simp), hb⟩

theorem lostA_any (vs vm vj : Value) (w : World) (ho : IsOv w vs vm vj ovA) : Calls Tryd.prog 16 #[.agg #[vs, vm, vj], .agg #[.int .i64 0, .int .i64 1, .int .i64 0]] w fun e w' => e = .returned (.tuple #[.int .i64 1, .int .i64 0]) ∧ Below w.heap.size w w' := by
  have h := lost_any vs vm vj ovA (0, 1, 0) w ho numA
  rw [lostA] at h
  exact h
theorem chooseB_any (vs vm vj : Value) (w : World) (ho : IsOv w vs vm vj ovB) : Calls Tryd.prog 15 #[.agg #[vs, vm, vj], .agg #[.int .i64 0, .int .i64 2, .int .i64 0]] w fun e w' => e = .returned (.tuple #[.int .i64 1, .int .i64 0]) ∧ Below w.heap.size w w' := by
  have h := choose_any vs vm vj ovB (0, 2, 0) w ho numB
  rw [chooseB] at h
  exact h
theorem below_then {w a b : World} (h : Below w.heap.size w a) (k : Below a.heap.size a b) : Below w.heap.size w b := h.trans (k.mono h.size)
theorem row_any' (s : Str) (aj : Option Addr) (nj cj : Nat) (js : List (Int × Int)) (w : World) (hj : IsJl w (.slice aj nj cj) js) :
    Calls Tryd.prog 49 #[.string (strB s), .slice aj nj cj] w fun e w' => ∃ a1 c1 a2 c2, e = .returned (.agg #[.slice a1 1 c1, .slice a2 2 c2, .slice aj nj cj]) ∧ IsOv w' (.slice a1 1 c1) (.slice a2 2 c2) (.slice aj nj cj) (rowOv s js) ∧ Below w.heap.size w w' := by
  refine (row_any s aj nj cj js w hj).mono ?_
  rintro e w' ⟨vs, vm, rfl, ho, hb⟩
  obtain ⟨a1, c1, e1, _⟩ := ho.safe
  obtain ⟨a2, c2, e2, _⟩ := ho.moves
  subst e1 e2
  exact ⟨a1, c1, a2, c2, rfl, ho, hb⟩

set_option maxHeartbeats 4000000 in
set_option maxRecDepth 100000 in
theorem lives_any (w : World) : Calls Tryd.prog 19 #[] w fun e w' => e = .returned (.bool true) ∧ Below w.heap.size w w' := by
  have hj1 : Hid (IsJl (w.alloc (.cells #[.int .i64 1, .int .i64 0, .int .i64 (-1), .int .i64 0] 55)) (.slice (some ⟨w.heap.size, 0, none⟩) 2 2) [(1, 0), (-1, 0)]) := jl_lit2 (heap_alloc_new w _)
  have HB0 : Hid (Below w.heap.size w (w.alloc (.cells #[.int .i64 1, .int .i64 0, .int .i64 (-1), .int .i64 0] 55))) := (Below.refl _ _).alloc (Nat.le_refl _) _
  go_enter Tryd.func19, Tryd.ntmps19
  go_wp2_with (first
    | (go_at_call 49; first
      | (refine (row_any' [46, 46, 46] _ 1 1 [(0, 0)] _ hj5.out).mono ?_; rintro e w6 ⟨a3, c3, a4, c4, rfl, ho6, hb6⟩; have HO6 : Hid (IsOv w6 (.slice a3 1 c3) (.slice a4 2 c4) (.slice (some ⟨w5.heap.size, 0, none⟩) 1 1) ovB) := ho6; have HG6 := hid (isGrid_below HG5.out (((Below.refl _ _).alloc (Nat.le_refl _) _).trans (hb6.mono (by simp)))); have HB6 := hid hb6; clear ho6 hb6)
      | (refine (row_any' [46, 46, 46] _ 2 2 [(1, 0), (-1, 0)] _ hj1.out).mono ?_; rintro e w3 ⟨a1, c1, a2, c2, rfl, ho3, hb3⟩; have HO3 : Hid (IsOv (w3.alloc (.cells #[.slice a1 1 c1, .slice a2 2 c2, .slice (some ⟨w.heap.size, 0, none⟩) 2 2] 26)) (.slice a1 1 c1) (.slice a2 2 c2) (.slice (some ⟨w.heap.size, 0, none⟩) 2 2) ovA) := isOv_below ho3 ((Below.refl _ _).alloc (Nat.le_refl _) _); have HB3 := hid (HB0.out.trans (hb3.mono HB0.out.size)); clear ho3 hb3))
    | (go_at_call 25; refine (kernelA _ _ _ _ HO3.out).mono ?_; rintro e w4 ⟨vk, rfl, hg4, hb4⟩; have HG4 := hid hg4; have HO4 := hid (isOv_below HO3.out hb4); obtain ⟨z0, z1, z2⟩ := cells3_of ((hb4.block w3.heap.size (by simp)).trans (heap_alloc_new w3 _)); have l4 : w3.heap.size < w4.heap.size := (by have := hb4.size; simp at this; omega); have HB4 := hid hb4; clear hg4 hb4)
    | (go_at_call 16; refine (lostA_any _ _ _ _ HO4.out).mono ?_; rintro e w5 ⟨rfl, hb5⟩; have hj5 : Hid (IsJl (w5.alloc (.cells #[.int .i64 0, .int .i64 0] 55)) (.slice (some ⟨w5.heap.size, 0, none⟩) 1 1) [(0, 0)]) := jl_lit1 (heap_alloc_new w5 _); have HG5 := hid (isGrid_below HG4.out hb5); have HB5 := hid hb5; clear hb5)
    | (go_at_call 15; refine (chooseB_any _ _ _ _ HO6.out).mono ?_; rintro e w7 ⟨rfl, hb7⟩; have HG7 := hid (isGrid_below HG6.out hb7); have HB7 := hid hb7; have hs7 : Hid (IsGrid ((w7.alloc (.cells #[.string (strB [46, 35, 46])] 9)).alloc (.cells #[.slice (some ⟨w7.heap.size, 0, none⟩) 1 1] 71)) (.slice (some ⟨w7.heap.size + 1, 0, none⟩) 1 1) [[[46, 35, 46]]]) := grid_lit (alloc2 w7 _ _).2.2.1 (alloc2 w7 _ _).2.2.2; clear hb7)
    | (go_at_call 31; refine (rSame_any _ _ [[[46, 35, 46]]] [[[46, 35, 46]]] _ (isGrid_below HG7.out (alloc2 w7 _ _).1) hs7.out).mono ?_; rw [decide_eq_true (rfl : ([[[46, 35, 46]]] : Grid) = [[[46, 35, 46]]])]; rintro e w8 ⟨rfl, hb8⟩; have HB8 := hid hb8; clear hb8)
    | fail)
  go_ret
  refine ⟨rfl, ?_⟩
  have b3 := HB3.out
  have b4 := below_then (b3.alloc b3.size _) HB4.out
  have b5 := below_then b4 HB5.out
  have b6 := below_then (b5.alloc b5.size _) HB6.out
  have b7 := below_then b6 HB7.out
  have b8 := b7.alloc b7.size (.cells #[.string (strB [46, 35, 46])] 9)
  exact below_then (b8.alloc b8.size _) HB8.out
end Go.Proofs.YtjonbhimbhidpaaDoor

namespace Go.Proofs.YtjonbhimbhidpaaDoor
open Go.RowKit

/-- an argument that reads as a list of strings, of any length -/
def ArgStrs (w : World) (v : Value) (xs : List Str) : Prop :=
  ∃ a c, v = .slice a xs.length c ∧ xs.length ≤ maxLen ∧ ∀ i, i < xs.length → ∃ ad, a = some ad ∧ ad.block < w.heap.size ∧ w.cell? (ad.add i) = some (.string (strB (xs.getD i [])))
theorem add_block (a : Addr) (i : Nat) : (a.add i).block = a.block := by
  unfold Addr.add; split <;> rfl
theorem argStrs_below {w w' : World} {v : Value} {xs : List Str} (h : ArgStrs w v xs) (hb : Below w.heap.size w w') : ArgStrs w' v xs := by
  obtain ⟨a, c, rfl, hl, hc⟩ := h
  refine ⟨a, c, rfl, hl, fun i hi => ?_⟩
  obtain ⟨ad, ha, hlt, hcell⟩ := hc i hi
  exact ⟨ad, ha, Nat.lt_of_lt_of_le hlt hb.size, by rw [hb.cell (by rw [add_block]; exact hlt)]; exact hcell⟩
theorem strB_take (s : Str) (k : Nat) : ((strB s).extract 0 k).data.toList = s.take k := by
  rw [Lib.extract_from_zero]; rfl
theorem strB_data' (u : ByteArray) : strB u.data.toList = u := strB_data u
/-- append of one string at a step of a region that draws its order -/
theorem step_app_str {ops : Array Oper} {o : Oper} {a : Act} {K : Act → World → Prop} {Q : Exit → Act → World → Prop} {E : Prop} {W : World} {z : ByteArray}
    (s x : Operand) (v : Value) (B : Nat) (xs : List Str) (g : Nat)
    (hgd : o.guard = none) (ho : o.op = .call { callee := .builtin .append, args := #[s, x], argTypes := #[71, 71] })
    (hs : a.eval s = v) (hx : a.eval x = .slice (some ⟨g, 0, none⟩) 1 1) (hz : W.heap[g]? = some (.cells #[.string z] 9 (0, 0)))
    (hown : OwnT W B v xs) (hlen : xs.length < 1000000) (hB : B ≤ W.heap.size)
    (h : ∀ v' w', OwnT w' B v' (xs ++ [z.data.toList]) → Below B W w' → K (a.put o.dst v') w') :
    if Region.wanted o (yielded ops a.tmps) = true then Oper.wp Tryd.prog o a W K Q else E := by
  cases hi0 : Tryd.prog.info? 9 with
  | none => have := info9; rw [hi0] at this; cases this
  | some i =>
    have hi := info9
    rw [hi0] at hi
    simp only [Option.map_some, Option.some.injEq, Prod.mk.injEq] at hi
    obtain ⟨h1, h2, h3⟩ := hi
    refine step_append_lies _ hgd s x 71 ho B 9 i (.string ⟨#[]⟩) 1 16 Tryd.underlying71 hi0 h1 h2 h3 rfl (by decide) v xs.length (strs xs) hs hown ⟨g, 0, none⟩ 1 1 [.string z] hx rfl ?_ (by simp [Value.oneCell']) (by decide) (by unfold maxLen; omega) (by omega) hB _ rfl ?_
    · exact World.news_of_block hz
    · intro g' cap w1 hown1 hgrow hat hlt
      refine h _ _ ?_ ?_
      · unfold OwnT
        rw [strs_append, strB_data, List.length_append]
        exact hown1
      · exact (Below.refl B W).grown hgrow hB (fun k hk => (hown.lt k hk).1)

theorem wpl_app_strB {ops : Array Oper} {rest : List Oper} {o : Oper} {a : Act} {Q : Exit → Act → World → Prop} {W : World} (u : ByteArray)
    (s x : Operand) (v : Value) (B : Nat) (xs : List Str)
    (hgd : o.guard = none) (ho : o.op = .call { callee := .builtin .append, args := #[s, x], argTypes := #[71, 71] })
    (hs : a.eval s = v) (hx : a.eval x = .slice (some ⟨W.heap.size, 0, none⟩) 1 1)
    (hown : OwnT W B v xs) (hlen : xs.length < 1000000) (hB : B ≤ W.heap.size)
    (h : ∀ v' w', OwnT w' B v' (xs ++ [u.data.toList]) → Below B W w' → wpList Tryd.prog ops Q rest (a.put o.dst v') w') :
    wpList Tryd.prog ops Q (o :: rest) a (W.alloc (.cells #[.string u] 9)) := by
  have := wpl_app_str (ops := ops) (rest := rest) (o := o) (a := a) (Q := Q) (W := W) u.data.toList s x v B xs hgd ho hs hx hown hlen hB h
  rwa [strB_data] at this
theorem ownT_slice' {w : World} {B : Nat} {v : Value} {xs : List Str} (h : OwnT w B v xs) : ∃ a n c, v = .slice a n c := by
  obtain ⟨a, c, h⟩ := ownT_slice h
  exact ⟨a, _, c, h⟩

def cutStr (s : Str) : Str := if 16 < s.length then s.take 17 else s.take 8
def cutStrs (xs : List Str) : List Str := (xs.take (if 16 < xs.length then 17 else 8)).map cutStr
theorem cutStrs_len (xs : List Str) : (cutStrs xs).length = min (if 16 < xs.length then 17 else 8) xs.length := by simp [cutStrs]
theorem cutStrs_take (xs : List Str) (i : Nat) (h : i < (cutStrs xs).length) : (cutStrs xs).take (i + 1) = (cutStrs xs).take i ++ [cutStr (xs.getD i [])] := by
  have h1 : i < xs.length := by rw [cutStrs_len] at h; omega
  rw [List.take_add_one, List.getElem?_eq_getElem h]
  congr 2
  simp [cutStrs, h1]

set_option maxHeartbeats 4000000 in
set_option maxRecDepth 100000 in
theorem strings_any (v : Value) (xs : List Str) (w : World) (hx : ArgStrs w v xs) :
    Calls Tryd.prog 43 #[v] w fun e w' => ∃ v', e = .returned v' ∧ OwnT w' w.heap.size v' (cutStrs xs) ∧ Below w.heap.size w w' := by
  obtain ⟨a, c, rfl, hl, hc⟩ := hx
  have HC := hid hc
  obtain ⟨N, hN⟩ : ∃ N, N = xs.length := ⟨_, rfl⟩
  have hT := cutStrs_len xs
  rw [← hN] at hl hT ⊢
  have HN := hid hN
  obtain ⟨T, hTT⟩ : ∃ T, T = (cutStrs xs).length := ⟨_, rfl⟩
  rw [← hTT] at hT
  have HTT := hid hTT
  unfold maxLen at hl
  clear hc hN hTT
  have HM : Hid (OwnT (w.alloc (.cells #[] 9)) w.heap.size (.slice (some ⟨w.heap.size, 0, none⟩) 0 0) []) := ownT_made w _ (Nat.le_refl _)
  have HB0 : Hid (Below w.heap.size w (w.alloc (.cells #[] 9))) := (Below.refl _ _).alloc (Nat.le_refl _) _
  obtain ⟨most, hmost⟩ : ∃ most : Nat, most = if 16 < N then 17 else 8 := ⟨_, rfl⟩
  rw [← hmost] at hT
  have hm2 : (16 < N ∧ most = 17) ∨ (N ≤ 16 ∧ most = 8) := by
    rw [hmost]
    by_cases h : 16 < N
    · exact .inl ⟨h, if_pos h⟩
    · exact .inr ⟨by omega, if_neg h⟩
  clear hmost
  rcases hm2 with ⟨hq, rfl⟩ | ⟨hq, rfl⟩
  all_goals
    have HQ := hid hq
    have d16 : Hid (decide ((16 : Int) < (N : Int)) = decide (16 < N)) := by
      show _ = _
      rw [decide_eq_decide]; omega
    have HQD : Hid (∀ b, decide (16 < N) = b → decide ((16 : Int) < (N : Int)) = b) := fun b h => d16.out.trans h
    first | (have d17 := HQD.out true (decide_eq_true hq)) | (have d17 := HQD.out false (decide_eq_false (by omega)))
    clear hq
    have D17 := hid d17
    clear d17
    go_enter Tryd.func43, Tryd.ntmps43
    have d17 := D17.out
    go_wp2
    clear d17
    go_loopw [3, 5] (fun v iv wr => ∃ (i : Nat) (a : Option Addr) (n c : Nat), iv = .int .i64 i ∧ v = .slice a n c ∧ i ≤ T ∧ Hid (OwnT wr w.heap.size (.slice a n c) ((cutStrs xs).take i)) ∧ Hid (Below w.heap.size w wr)) (fun _ iv _ => T - (intOf iv).toNat)
    case atStart => exact ⟨0, _, 0, 0, rfl, rfl, Nat.zero_le _, by rw [List.take_zero]; exact HM, HB0⟩
    case round =>
      obtain ⟨i, a2, n2, c2, rfl, rfl, hi, HT, HB⟩ := hrel
      by_cases hlt : i < T
      · have hiN : i < N := by omega
        have him1 : i < 17 := by omega
        try (have him2 : i < 8 := by omega)
        obtain ⟨ad, rfl, hadb, hcell⟩ := HC.out i (by rw [← HN.out]; exact hiN)
        have e1 := (HB.out.cell (p := ad.add i) (by rw [add_block]; exact hadb)).trans hcell
        have hadr : ad.block < wr.heap.size := Nat.lt_of_lt_of_le hadb HB.out.size
        have HTK := hid (cutStrs_take xs i (by rw [← HTT.out]; exact hlt))
        have hln : ((cutStrs xs).take i).length < 1000000 := by rw [List.length_take]; omega
        have HLN := hid hln
        have hsz := strB_size (xs.getD i [])
        have HCS : Hid (∀ k : Nat, ((strB (xs.getD i [])).extract 0 k).data.toList = (xs.getD i []).take k) := fun k => strB_take _ k
        have HCU : Hid (cutStr (xs.getD i []) = if 16 < (strB (xs.getD i [])).size then (xs.getD i []).take 17 else (xs.getD i []).take 8) := by rw [hsz]; exact rfl
        have HTS := hid hsz
        have HTS := hid hsz
        clear hcell hln hsz
        generalize xs.getD i [] = s at *
        generalize strB s = t at *
        by_cases h16 : 16 < t.size
        · have HC2 : Hid (cutStr s = (t.extract 0 17).data.toList) := by show _ = _; rw [HCU.out, if_pos h16, HCS.out]
          go_wp2_with (first | (at_builtin; refine wpl_app_strB (t.extract 0 17) _ _ (.slice a2 n2 c2) w.heap.size _ (by rfl) (by rfl) (by rfl) (by rfl) HT.out HLN.out HB.out.size ?_; intro v' w7 ho7 hb7; rw [← HC2.out, ← HTK.out] at ho7; obtain ⟨sa, sn, sc, rfl⟩ := ownT_slice' ho7; have HO7 := hid ho7; have HB7 := hid hb7; clear ho7 hb7) | fail)
          go_roundw
          case rel => exact ⟨i + 1, _, _, _, by go_num, rfl, by omega, HO7, HB.out.trans HB7.out⟩
          case measure => simp [intOf]; omega
        · have hmn : min ((t.size : Nat) : Int) 8 = ((min t.size 8 : Nat) : Int) := by omega
          have hk1 : min t.size 8 ≤ t.size := by omega
          have HC2 : Hid (cutStr s = (t.extract 0 (min t.size 8)).data.toList) := by
            show _ = _
            rw [HCU.out, if_neg h16, HCS.out]
            have hts : t.size = s.length := HTS.out
            rw [hts]
            by_cases h8 : s.length ≤ 8
            · rw [Nat.min_eq_left h8, List.take_of_length_le h8, List.take_of_length_le (Nat.le_refl _)]
            · rw [Nat.min_eq_right (by omega)]
          have HMN := hid hmn
          generalize min t.size 8 = k at *
          have hmn := HMN.out
          go_wp2
          go_region_law (refine step_app_str (.tmp 35) (.tmp 47) (.slice a2 n2 c2) w.heap.size _ _ (by rfl) (by rfl) (by rfl) (by rfl) (heap_alloc_new _ _) (by exact row_below HT.out (by repeat (first | exact Below.refl _ _ | refine Below.drew ?_ | refine below_drewN_r ?_ _ | refine Below.alloc ?_ (by first | exact Nat.le_refl _ | (simp; done)) _))) HLN.out (by have := HB.out.size; simp; omega) ?_; intro v' w7 ho7 hb7)
          all_goals
            rw [← HC2.out, ← HTK.out] at ho7
            obtain ⟨sa, sn, sc, rfl⟩ := ownT_slice' ho7
            have HO7 := hid ho7
            have HBX : Hid (Below w.heap.size w w7) := (Below.trans (b := _) (by repeat (first | exact HB.out | refine Below.drew ?_ | refine below_drewN_r ?_ _ | refine Below.alloc ?_ (by first | exact HB.out.size | (simp; have := HB.out.size; omega)) _)) hb7)
            clear ho7 hb7
            go_wp2
            go_roundw
            case rel => exact ⟨i + 1, _, _, _, by go_num, rfl, by omega, HO7, HBX⟩
            case measure => simp [intOf]; omega
      · obtain rfl : i = T := by omega
        have HE : Hid ((cutStrs xs).take i = cutStrs xs) := by
          show _ = _
          rw [HTT.out, List.take_length]
        by_cases hiN : i < N
        all_goals
          go_wp2
          go_ret
          refine ⟨_, rfl, ?_, HB.out⟩
          have h := HT.out
          rw [HE.out] at h
          exact h
end Go.Proofs.YtjonbhimbhidpaaDoor
