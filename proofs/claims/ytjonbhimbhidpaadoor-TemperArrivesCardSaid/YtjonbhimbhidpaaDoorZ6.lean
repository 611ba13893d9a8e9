/-
  Walks over chapter 6: the reference's tests of form and place.
  Walks over chapter 6: the reference's Form and Valid.
  Walks over chapter 6: the reference's Valid.
-/
import Derived.Test.YtjonbhimbhidpaaDoorZ5
namespace Go.Proofs.YtjonbhimbhidpaaDoor
open Go.RowKit

set_option maxHeartbeats 1000000 in
theorem rin_any (v l h : Int) (w : World) : Calls Tryd.prog 48 #[.int .i64 v, .int .i64 l, .int .i64 h] w fun e w' => e = .returned (.bool (decide (l ≤ v ∧ v ≤ h))) ∧ w' = w := by
  by_cases h1 : l ≤ v
  · by_cases h2 : v ≤ h
    · go_enter Tryd.func48, Tryd.ntmps48
      go_wp2
      go_ret
      exact ⟨ret_bool (by simp; omega), rfl⟩
    · go_enter Tryd.func48, Tryd.ntmps48
      go_wp2
      go_ret
      exact ⟨ret_bool (by simp; omega), rfl⟩
  · go_enter Tryd.func48, Tryd.ntmps48
    go_wp2
    go_ret
    exact ⟨ret_bool (by simp; omega), rfl⟩

theorem letter_ne (s : Str) (x : Nat) (hx : x < (strB s).size) (k : UInt8) (hk : x < s.length) : ((((((strB s)[x]'hx).toNat : Nat) : Int)) != ((k.toNat : Nat) : Int)) = (s[x] != k) := by
  have e : (strB s)[x]'hx = s[x] := by
    show (strB s).data[x] = _
    simp [strB]
  rw [e]
  have h2 : s[x] = k ↔ s[x].toNat = k.toNat := UInt8.toNat_inj.symm
  by_cases h : s[x] = k
  · simp [h]
  · have h3 : ¬ s[x].toNat = k.toNat := fun e => h (h2.2 e)
    have h4 : ((s[x].toNat : Nat) : Int) ≠ ((k.toNat : Nat) : Int) := by omega
    simp only [bne, beq_false_of_ne h4, beq_false_of_ne h]

set_option maxHeartbeats 2000000 in
theorem rows_any (v : Value) (xs : List Str) (C : Nat) (w : World) (hx : IsStrs w v xs) (hs : ∀ s ∈ xs, s.length ≤ 1000) (hC : C ≤ 1000000) :
    Calls Tryd.prog 57 #[v, .int .i64 C] w fun e w' => e = .returned (.bool (rowsOk C xs)) ∧ w' = w := by
  obtain ⟨a, c, rfl, hl, hc⟩ := hx
  have HC := hid hc
  have HS := hid hs
  obtain ⟨F, hF⟩ : ∃ F, F = rowsOk C xs := ⟨_, rfl⟩
  rw [← hF]
  have HF := hid hF
  obtain ⟨N, hN⟩ : ∃ N, N = xs.length := ⟨_, rfl⟩
  rw [← hN] at hl ⊢
  have HN := hid hN
  clear hc hs hF hN
  go_enter Tryd.func57, Tryd.ntmps57
  go_wp2
  go_loopw [5] (fun v wr => ∃ i : Nat, v = .int .i64 i ∧ i ≤ N ∧ Hid ((xs.take i).all (rowOk C) = true) ∧ wr = w) (fun v _ => N - (intOf v).toNat)
  case atStart => exact ⟨0, rfl, Nat.zero_le _, by rw [List.take_zero]; rfl, rfl⟩
  case round =>
    obtain ⟨i, rfl, hi, HA, rfl⟩ := hrel
    by_cases hlt : i < N
    · have hlt' : i < xs.length := by rw [← HN.out]; exact hlt
      obtain ⟨g, rfl, hcell⟩ := HC.out i hlt'
      obtain ⟨s, hse⟩ : ∃ s, s = xs.getD i [] := ⟨_, rfl⟩
      have hse2 : xs[i] = s := by rw [hse]; simp [hlt']
      rw [← hse] at hcell
      have hsl : s.length ≤ 1000 := by rw [← hse2]; exact HS.out _ (List.getElem_mem hlt')
      have HA4 : Hid (∀ b, rowOk C s = b → (xs.take (i + 1)).all (rowOk C) = b ∧ (b = false → F = false)) := by
        intro b hb
        have e : (xs.take (i + 1)).all (rowOk C) = b := by rw [all_take_succ _ _ _ hlt', HA.out, hse2, hb]; rfl
        refine ⟨e, ?_⟩
        rintro rfl
        rw [HF.out]
        exact all_of_take _ _ _ e
      have hsz := strB_size s
      have HSZ := hid hsz
      clear hse hse2 hlt' HA
      go_wp2
      go_loopw [6] (fun v wr2 => ∃ x : Nat, v = .int .i64 x ∧ x ≤ (strB s).size ∧ Hid ((s.take x).all dotx = true) ∧ wr2 = wr) (fun v _ => (strB s).size - (intOf v).toNat)
      case atStart => exact ⟨0, rfl, Nat.zero_le _, by rw [List.take_zero]; rfl, rfl⟩
      case round =>
        obtain ⟨x, rfl, hxs, HD, rfl⟩ := hrel
        by_cases hlx : x < (strB s).size
        · have hlx' : x < s.length := by rw [← HSZ.out]; exact hlx
          have d1 := letter_ne s x hlx 46 hlx'
          have d2 := letter_ne s x hlx 35 hlx'
          have hdx : dotx s[x] = !((s[x] != 46) && (s[x] != 35)) := by unfold dotx; simp [bne]
          have HX : Hid ((s.take (x + 1)).all dotx = !((s[x] != 46) && (s[x] != 35))) := by
            show _ = _
            rw [all_take_succ _ _ _ hlx', HD.out, hdx]; rfl
          have e46 : (((46 : UInt8).toNat : Nat) : Int) = 46 := rfl
          have e35 : (((35 : UInt8).toNat : Nat) : Int) = 35 := rfl
          rw [e46] at d1
          rw [e35] at d2
          clear e46 e35 hdx
          generalize (s[x] != 46) = b1 at *
          generalize (s[x] != 35) = b2 at *
          clear HD hlx'
          cases b1
          · go_wp2
            go_roundw
            case rel => exact ⟨x + 1, by go_num, by omega, HX, trivial⟩
            case measure => simp [intOf]; omega
          · cases b2
            · go_wp2
              go_roundw
              case rel => exact ⟨x + 1, by go_num, by omega, HX, trivial⟩
              case measure => simp [intOf]; omega
            · have h4 := (HA4.out false (by
                have : s.all dotx = false := all_of_take _ _ (x + 1) HX.out
                unfold rowOk; rw [this, Bool.and_false])).2 rfl
              subst h4
              go_wp2
              go_ret
              exact ⟨rfl, rfl⟩
        · obtain rfl : x = (strB s).size := by omega
          have HD2 : Hid (s.all dotx = true) := by
            have := HD.out
            rwa [HSZ.out, List.take_of_length_le (Nat.le_refl _)] at this
          by_cases hw : (strB s).size = C
          · have h4 := (HA4.out true (by unfold rowOk; rw [HD2.out, ← HSZ.out, hw]; simp)).1
            have H4 := hid h4
            clear h4
            subst hw
            go_wp2
            go_roundw
            case rel => exact ⟨i + 1, by go_num, by omega, H4, trivial⟩
            case measure => simp [intOf]; omega
          · have h4 := (HA4.out false (by unfold rowOk; rw [← HSZ.out]; simp [hw])).2 rfl
            subst h4
            have hw' : ¬ (((strB s).size : Nat) : Int) = (C : Int) := by omega
            clear hw
            go_wp2
            go_ret
            exact ⟨rfl, rfl⟩
    · obtain rfl : i = N := by omega
      have h4 : F = true := by
        rw [HF.out]
        unfold rowsOk
        have := HA.out
        rwa [HN.out, List.take_of_length_le (Nat.le_refl _)] at this
      subst h4
      go_wp2
      go_ret
      exact ⟨rfl, rfl⟩
/-- decided ahead -/
theorem quiet_one {P : Program} {f : FuncId} {args : Array Value} {w : World} {n : Nat} {v : Value} (h : Calls P f args (w.drewN n) fun e w' => e = .returned v ∧ w' = w.drewN n) :
    Calls P f args (w.drewN n) fun e w'' => e = .returned v ∧ ∃ m, w'' = w.drewN m := h.mono fun _ _ ⟨he, hm⟩ => ⟨he, n, hm⟩
theorem quiet_add {P : Program} {f : FuncId} {args : Array Value} {w : World} {a n : Nat} {v : Value} (h : Calls P f args (w.drewN (a + n)) fun e w' => e = .returned v ∧ w' = w.drewN (a + n)) :
    Calls P f args (w.drewN (a + n)) fun e w'' => e = .returned v ∧ ∃ m, w'' = w.drewN (a + m) := h.mono fun _ _ ⟨he, hm⟩ => ⟨he, n, hm⟩
theorem rin_t (v l h : Int) (w : World) (hh : l ≤ v ∧ v ≤ h) : Calls Tryd.prog 48 #[.int .i64 v, .int .i64 l, .int .i64 h] w fun e w' => e = .returned (.bool true) ∧ w' = w := by
  have := rin_any v l h w
  rwa [decide_eq_true hh] at this
theorem rin_f (v l h : Int) (w : World) (hh : ¬ (l ≤ v ∧ v ≤ h)) : Calls Tryd.prog 48 #[.int .i64 v, .int .i64 l, .int .i64 h] w fun e w' => e = .returned (.bool false) ∧ w' = w := by
  have := rin_any v l h w
  rwa [decide_eq_false hh] at this

/-- the first row of an oven, as the reference reads it -/
theorem first_row {w : World} {vs : Value} {g : Grid} (h : IsGrid w vs g) (hP : 1 ≤ g.length) : ∃ ga ca gb cb, vs = .slice (some ⟨ga, 0, none⟩) g.length ca ∧ w.cell? ⟨ga, 0, none⟩ = some (.slice gb (g.getD 0 []).length cb) ∧ (1 ≤ (g.getD 0 []).length → ∃ k, gb = some ⟨k, 0, none⟩ ∧ w.cell? ⟨k, 0, none⟩ = some (.string (strB ((g.getD 0 []).getD 0 [])))) := by
  obtain ⟨a, ca, rfl, hl, hc⟩ := h
  obtain ⟨ga, u, rfl, hcell, hs⟩ := hc 0 (by omega)
  obtain ⟨a2, cb, rfl, hl2, hc2⟩ := hs
  refine ⟨ga, ca, a2, cb, rfl, hcell, fun h1 => ?_⟩
  obtain ⟨k, rfl, hcell2⟩ := hc2 0 (by omega)
  exact ⟨k, rfl, hcell2⟩
/-- the sizes of an oven's lists -/
structure Ov.Dim (o : Ov) : Prop where
  p : 1 ≤ o.P
  r : 1 ≤ o.R
  pm : o.P ≤ 1000000
  rm : o.R ≤ 1000000
  cm : o.C ≤ 1000000
theorem dim_of_ok {o : Ov} (h : o.Ok) : o.Dim := ⟨h.p.1, h.r.1, by have := h.p; omega, by have := h.r; omega, by have := h.c; omega⟩

set_option maxHeartbeats 2000000 in
set_option maxRecDepth 100000 in
theorem exists_any (vs vm vj : Value) (o : Ov) (c : Sp) (w : World) (ho : IsOv w vs vm vj o) (hd : o.Dim) :
    Calls Tryd.prog 18 #[.agg #[vs, vm, vj], spv c] w fun e w' => e = .returned (.bool (o.ex c)) ∧ Below w.heap.size w w' := by
  obtain ⟨p, x, y⟩ := c
  obtain ⟨ga, ca, gb, cb, rfl, hc0, hc9⟩ := first_row ho.safe hd.p
  obtain ⟨k, rfl, hc1⟩ := hc9 hd.r
  clear hc9
  obtain ⟨hp1, hr1, hpm, hrm, hcm⟩ := hd
  obtain ⟨P, hP⟩ : ∃ P, P = o.P := ⟨_, rfl⟩
  obtain ⟨R, hR⟩ : ∃ R, R = o.R := ⟨_, rfl⟩
  obtain ⟨C, hC⟩ : ∃ C, C = (strB ((o.safe.getD 0 []).getD 0 [])).size := ⟨_, rfl⟩
  have hC2 : C = o.C := by rw [hC, strB_size]; rfl
  rw [show o.safe.length = P from hP.symm]
  rw [show (o.safe.getD 0 []).length = R from hR.symm] at hc0
  rw [← hP] at hpm hp1
  rw [← hR] at hrm hr1
  rw [← hC2] at hcm
  have hex : o.ex (p, x, y) = (decide (0 ≤ p ∧ p ≤ (P : Int) - 1) && decide (0 ≤ y ∧ y ≤ (R : Int) - 1) && decide (0 ≤ x ∧ x ≤ (C : Int) - 1)) := by
    unfold Ov.ex
    rw [← hP, ← hR, ← hC2, Bool.eq_iff_iff]
    simp only [decide_eq_true_eq, Bool.and_eq_true]
    omega
  rw [hex]
  have q1 := fun w => hid (rin_any p 0 ((P : Int) - 1) w)
  have q2 := fun w => hid (rin_any y 0 ((R : Int) - 1) w)
  have q3 := fun w => hid (rin_any x 0 ((C : Int) - 1) w)
  generalize decide (0 ≤ p ∧ p ≤ (P : Int) - 1) = b1 at *
  generalize decide (0 ≤ y ∧ y ≤ (R : Int) - 1) = b2 at *
  generalize decide (0 ≤ x ∧ x ≤ (C : Int) - 1) = b3 at *
  have hl0 := World.block_lt_of_cell? w _ hc0
  have hl1 := World.block_lt_of_cell? w _ hc1
  simp only at hl0 hl1
  generalize strB ((o.safe.getD 0 []).getD 0 []) = s at *
  subst hC
  clear hP hR hC2 hex ho
  unfold spv
  simp only
  cases b1
  · go_enter Tryd.func18, Tryd.ntmps18
    go_wp2
    go_quiet ((go_at_call 48; first | with_reducible exact quiet_one ((q1 _).out) | with_reducible exact quiet_one ((q2 _).out) | with_reducible exact quiet_one ((q3 _).out)))
    go_wp2
    go_ret
    exact ⟨rfl, below_drewN_r (((Below.refl _ _).alloc (Nat.le_refl _) _).alloc (by simp) _) nq⟩
  · cases b2
    · go_enter Tryd.func18, Tryd.ntmps18
      go_wp2
      go_quiet ((go_at_call 48; first | with_reducible exact quiet_one ((q1 _).out) | with_reducible exact quiet_one ((q2 _).out) | with_reducible exact quiet_one ((q3 _).out)))
      go_wp2
      go_ret
      exact ⟨rfl, below_drewN_r (((Below.refl _ _).alloc (Nat.le_refl _) _).alloc (by simp) _) nq⟩
    · go_enter Tryd.func18, Tryd.ntmps18
      go_wp2
      go_quiet ((go_at_call 48; first | with_reducible exact quiet_one ((q1 _).out) | with_reducible exact quiet_one ((q2 _).out) | with_reducible exact quiet_one ((q3 _).out)))
      go_wp2
      go_ret
      exact ⟨ret_bool (by simp), below_drewN_r (((Below.refl _ _).alloc (Nat.le_refl _) _).alloc (by simp) _) nq⟩
end Go.Proofs.YtjonbhimbhidpaaDoor

namespace Go.Proofs.YtjonbhimbhidpaaDoor
open Go.RowKit

set_option maxHeartbeats 4000000 in
set_option maxRecDepth 100000 in
theorem form_any (vs vm vj u : Value) (o : Ov) (g : Grid) (w : World) (ho : IsOv w vs vm vj o) (hd : o.Dim) (hg : IsGrid w u g) (hs : ShortG g) :
    Calls Tryd.prog 37 #[.agg #[vs, vm, vj], u] w fun e w' => e = .returned (.bool (formB o.P o.R o.C g)) ∧ Below w.heap.size w w' := by
  obtain ⟨ga, ca, gb, cb, rfl, hc0, hc9⟩ := first_row ho.safe hd.p
  obtain ⟨k, rfl, hc1⟩ := hc9 hd.r
  clear hc9
  obtain ⟨hp1, hr1, hpm, hrm, hcm⟩ := hd
  obtain ⟨P, hP⟩ : ∃ P, P = o.P := ⟨_, rfl⟩
  obtain ⟨R, hR⟩ : ∃ R, R = o.R := ⟨_, rfl⟩
  obtain ⟨C, hC⟩ : ∃ C, C = (strB ((o.safe.getD 0 []).getD 0 [])).size := ⟨_, rfl⟩
  have hC2 : C = o.C := by rw [hC, strB_size]; rfl
  rw [show o.safe.length = P from hP.symm]
  rw [show (o.safe.getD 0 []).length = R from hR.symm] at hc0
  rw [← hP] at hpm hp1 ⊢
  rw [← hR] at hrm hr1 ⊢
  rw [← hC2] at hcm ⊢
  have hl0 := World.block_lt_of_cell? w _ hc0
  have hl1 := World.block_lt_of_cell? w _ hc1
  simp only at hl0 hl1
  generalize strB ((o.safe.getD 0 []).getD 0 []) = s at *
  subst hC
  clear hP hR hC2 ho
  obtain ⟨a, cu, rfl, hl, hcg⟩ := hg
  have HC := hid hcg
  have HS := hid hs
  obtain ⟨hbW, hzW⟩ : Below w.heap.size w (w.alloc (.cells #[.slice (some ⟨ga, 0, none⟩) P ca, vm, vj] 26)) ∧ True := ⟨(Below.refl _ _).alloc (Nat.le_refl _) _, trivial⟩
  have hbx := heap_alloc_new w (.cells #[.slice (some ⟨ga, 0, none⟩) P ca, vm, vj] 26)
  have hszW : (w.alloc (.cells #[.slice (some ⟨ga, 0, none⟩) P ca, vm, vj] 26)).heap.size = w.heap.size + 1 := by simp
  obtain ⟨W, hW⟩ : ∃ W, W = (w.alloc (.cells #[.slice (some ⟨ga, 0, none⟩) P ca, vm, vj] 26)) := ⟨_, rfl⟩
  have HW := hid hW
  rw [← hW] at hbW hbx hszW
  have HBW := hid hbW
  have HBX := hid hbx
  have HSZ := hid hszW
  clear hcg hs hzW hbW hbx hW hszW
  by_cases hlen : g.length = P
  · subst hlen
    obtain ⟨F, hF⟩ : ∃ F, F = formB g.length R s.size g := ⟨_, rfl⟩
    rw [← hF]
    have HF : Hid (F = g.all (phaseOk R s.size)) := by rw [hF]; simp [formB, Hid]
    obtain ⟨N, hN⟩ : ∃ N, N = g.length := ⟨_, rfl⟩
    have HN := hid hN
    rw [← hN] at hl hp1 hpm HW HBX ⊢
    clear hF hN
    go_enter Tryd.func37, Tryd.ntmps37
    go_wp2
    go_loopw [5] (fun v wr => ∃ i : Nat, v = .int .i64 i ∧ i ≤ N ∧ Hid ((g.take i).all (phaseOk R s.size) = true) ∧ Hid (Below W.heap.size W wr)) (fun v _ => N - (intOf v).toNat)
    case atStart => exact ⟨0, rfl, Nat.zero_le _, by rw [List.take_zero]; rfl, by rw [HW.out]; exact Below.refl _ _⟩
    case round =>
      obtain ⟨i, rfl, hi, HA, HB⟩ := hrel
      by_cases hlt : i < N
      · have hlt' : i < g.length := by rw [← HN.out]; exact hlt
        obtain ⟨gu, ui, rfl, hcell, hst⟩ := HC.out i hlt'
        obtain ⟨p, hp⟩ : ∃ p, p = g.getD i [] := ⟨_, rfl⟩
        have hpe : g[i] = p := by rw [hp]; simp [hlt']
        rw [← hp] at hst
        have HUP := hid (HBW.out.trans (HB.out.mono HBW.out.size))
        have HST := hid (isStrs_below hst HUP.out)
        have hsp : ∀ s ∈ p, s.length ≤ 1000 := by have := HS.out g[i] (List.getElem_mem hlt'); rwa [hpe] at this
        have HA2 : Hid (∀ b, phaseOk R s.size p = b → (g.take (i + 1)).all (phaseOk R s.size) = b ∧ (b = false → F = false)) := by
          intro b hb
          have e : (g.take (i + 1)).all (phaseOk R s.size) = b := by rw [all_take_succ _ _ _ hlt', HA.out, hpe, hb]; rfl
          refine ⟨e, ?_⟩
          rintro rfl
          rw [HF.out, all_of_take _ _ _ e]
        obtain ⟨ap, cp, rfl, hlp, _⟩ := hst
        have e0 := (HUP.out.cell (World.block_lt_of_cell? w _ hcell)).trans hcell
        have e1 := (HUP.out.cell (World.block_lt_of_cell? w _ hc0)).trans hc0
        have e2 := (HUP.out.cell (World.block_lt_of_cell? w _ hc1)).trans hc1
        obtain ⟨e3, _⟩ := cells3_of ((HB.out.block w.heap.size (by rw [HSZ.out]; exact Nat.lt_succ_self _)).trans HBX.out)
        have HSP := hid hsp
        clear hp hpe hlt' hcell HA hsp hl0 hl1
        obtain ⟨M, hM⟩ : ∃ M, M = p.length := ⟨_, rfl⟩
        rw [← hM] at e0 hlp HST
        by_cases h2 : M = R
        · subst h2
          have q := fun x => hid (rows_any (.slice ap M cp) p s.size (wr.drewN x) HST.out HSP.out hcm)
          cases hr : rowsOk s.size p
          · rw [hr] at q
            have h4 := (HA2.out false (by unfold phaseOk; rw [hr, Bool.and_false])).2 rfl
            subst h4
            clear hr hM
            go_wp2
            go_quiet ((go_at_call 57; with_reducible exact quiet_one ((q _).out)))
            go_wp2
            go_ret
            exact ⟨rfl, below_drewN_r (HBW.out.trans (HB.out.mono HBW.out.size)) nq⟩
          · rw [hr] at q
            have H4 := hid (HA2.out true (by unfold phaseOk; rw [hr, Bool.and_true]; exact decide_eq_true hM.symm)).1
            clear hr hM
            go_wp2
            go_quiet ((go_at_call 57; with_reducible exact quiet_one ((q _).out)))
            go_wp2
            go_roundw
            case rel => exact ⟨i + 1, by go_num, by omega, H4, below_drewN_r HB.out nq⟩
            case measure => simp [intOf]; omega
        · have h4 := (HA2.out false (by unfold phaseOk; rw [decide_eq_false (fun e => h2 (hM.trans e)), Bool.false_and])).2 rfl
          subst h4
          have d : (((M : Nat) : Int) != ((R : Nat) : Int)) = true := by simp; omega
          have D := hid d
          clear d h2 hM
          go_wp2
          have d := D.out
          go_quiet (fail)
          go_wp2
          go_ret
          exact ⟨rfl, below_drewN_r (HBW.out.trans (HB.out.mono HBW.out.size)) nq⟩
      · obtain rfl : i = N := by omega
        have h4 : F = true := by
          have := HA.out
          rw [HN.out, List.take_of_length_le (Nat.le_refl _)] at this
          rw [HF.out, this]
        subst h4
        go_wp2
        go_ret
        exact ⟨rfl, HBW.out.trans (HB.out.mono HBW.out.size)⟩
  · have hF : formB P R s.size g = false := by simp [formB, hlen]
    rw [hF]
    clear hF
    go_enter Tryd.func37, Tryd.ntmps37
    go_wp2
    go_ret
    exact ⟨rfl, (Below.refl _ _).alloc (Nat.le_refl _) _⟩
end Go.Proofs.YtjonbhimbhidpaaDoor

namespace Go.Proofs.YtjonbhimbhidpaaDoor
open Go.RowKit

theorem num_C {o : Ov} (hn : o.Num) (hP : 1 ≤ o.P) (hR : 1 ≤ o.R) : o.C ≤ 1000 := by
  have h1 : o.safe.getD 0 [] ∈ o.safe := by
    have : 0 < o.safe.length := hP
    rw [List.getD_eq_getElem?_getD, List.getElem?_eq_getElem this]
    exact List.getElem_mem this
  have h2 : rowAt o.safe 0 0 ∈ o.safe.getD 0 [] := by
    have : 0 < (o.safe.getD 0 []).length := hR
    unfold rowAt
    generalize o.safe.getD 0 [] = q at *
    rw [List.getD_eq_getElem?_getD, List.getElem?_eq_getElem this]
    exact List.getElem_mem this
  exact hn.short _ h1 _ h2

set_option maxHeartbeats 8000000 in
set_option maxRecDepth 100000 in
theorem valid_any (vs vm vj : Value) (o : Ov) (w : World) (ho : IsOv w vs vm vj o) (hn : o.Num) :
    Calls Tryd.prog 17 #[.agg #[vs, vm, vj]] w fun e w' => e = .returned (.bool o.valid) ∧ Below w.heap.size w w' := by
  have HO := hid ho
  have HN := hid hn
  obtain ⟨⟨a1, c1, rfl, hl1, hc1⟩, ⟨a2, c2, rfl, hl2, hc2⟩, ⟨a3, c3, rfl, hl3, hc3⟩⟩ := ho
  have HC1 := hid hc1
  have HC2 := hid hc2
  have HC3 := hid hc3
  clear hc1 hc2 hc3 hn
  have HB0 : Hid (Below w.heap.size w (w.alloc (.cells #[.slice a1 o.safe.length c1, .slice a2 o.moves.length c2, .slice a3 o.jolts.length c3] 26))) := (Below.refl _ _).alloc (Nat.le_refl _) _
  obtain ⟨P, hP⟩ : ∃ P, P = o.P := ⟨_, rfl⟩
  obtain ⟨M, hM⟩ : ∃ M, M = o.moves.length := ⟨_, rfl⟩
  obtain ⟨J, hJ⟩ : ∃ J, J = o.jolts.length := ⟨_, rfl⟩
  have HP := hid hP
  have HM := hid hM
  have HJ := hid hJ
  have hPl : o.safe.length = P := hP.symm
  rw [hPl, ← hM, ← hJ] at HB0 ⊢
  rw [hPl] at hl1
  rw [← hM] at hl2
  rw [← hJ] at hl3
  clear hP hM hJ hPl
  obtain ⟨V, hV⟩ : ∃ V, V = o.valid := ⟨_, rfl⟩
  rw [← hV]
  have HVV := hid hV
  clear hV
  by_cases hA : 1 ≤ P ∧ P ≤ 4
  · obtain ⟨p1, p2⟩ := hA
    obtain ⟨g1, u1, rfl, hcell1, hs1⟩ := HC1.out 0 (by have h1 := HP.out; unfold Ov.P at h1; omega)
    obtain ⟨a4, c4, rfl, hl4, hc4⟩ := hs1
    have HC4 := hid hc4
    obtain ⟨R, hR⟩ : ∃ R, R = (o.safe.getD 0 []).length := ⟨_, rfl⟩
    rw [← hR] at hcell1 hl4
    have HR : Hid (R = o.R) := hR
    have lt1 := World.block_lt_of_cell? w _ hcell1
    clear hc4 hR
    by_cases hB : 1 ≤ R ∧ R ≤ 16
    · obtain ⟨r1, r2⟩ := hB
      have hC1000 := num_C HN.out (by rw [← HP.out]; exact p1) (by rw [← HR.out]; exact r1)
      obtain ⟨g2, rfl, hcell2⟩ := HC4.out 0 (by have h1 := HR.out; unfold Ov.R at h1; omega)
      obtain ⟨C, hC⟩ : ∃ C, C = (strB ((o.safe.getD 0 []).getD 0 [])).size := ⟨_, rfl⟩
      have HC : Hid (C = o.C) := by rw [hC, strB_size]; rfl
      rw [← HC.out] at hC1000
      have lt2 := World.block_lt_of_cell? w _ hcell2
      generalize strB ((o.safe.getD 0 []).getD 0 []) = s0 at hC hcell2
      subst hC
      by_cases hD : 1 ≤ s0.size ∧ s0.size ≤ 16
      · obtain ⟨s1, s2⟩ := hD
        by_cases hE : M ≤ 16
        · by_cases hF : 1 ≤ J ∧ J ≤ 4
          · obtain ⟨j1, j2⟩ := hF
            have HX0 := hid (heap_alloc_new w (.cells #[.slice (some ⟨g1, 0, none⟩) P c1, .slice a2 M c2, .slice a3 J c3] 26))
            have cf := hid (form_any (.slice (some ⟨g1, 0, none⟩) P c1) (.slice a2 M c2) (.slice a3 J c3) (.slice (some ⟨g1, 0, none⟩) P c1) o o.safe (w.alloc (.cells #[.slice (some ⟨g1, 0, none⟩) P c1, .slice a2 M c2, .slice a3 J c3] 26)) (by have := isOv_below HO.out (w' := _) (by have := HB0.out; exact this); rw [show o.safe.length = P from HP.out.symm, show o.moves.length = M from HM.out.symm, show o.jolts.length = J from HJ.out.symm] at this; exact this)
              ⟨by rw [← HP.out]; exact p1, by rw [← HR.out]; exact r1, by rw [← HP.out]; omega, by rw [← HR.out]; omega, by rw [← HC.out]; omega⟩ (by have := (isOv_below HO.out (w' := _) (by have := HB0.out; exact this)).safe; rw [show o.safe.length = P from HP.out.symm] at this; exact this) HN.out.short)
            rw [← HP.out, ← HR.out, ← HC.out] at cf
            obtain ⟨W0, hW0⟩ : ∃ W0, W0 = (w.alloc (.cells #[.slice (some ⟨g1, 0, none⟩) P c1, .slice a2 M c2, .slice a3 J c3] 26)) := ⟨_, rfl⟩
            rw [← hW0] at HB0 HX0 cf
            have HWW := hid hW0
            have hsz0 : W0.heap.size = w.heap.size + 1 := by rw [hW0]; simp
            have HSZ := hid hsz0
            clear hW0 hsz0
            cases hG : formB P R s0.size o.safe
            · have hv : V = false := by rw [HVV.out]; exact valid_form (by rw [← HP.out, ← HR.out, ← HC.out]; exact hG)
              subst hv
              rw [hG] at cf
              clear hG
              go_enter Tryd.func17, Tryd.ntmps17
              go_wp2_with (first | (go_at_call 48; first | (refine (rin_t _ _ _ _ (by omega)).mono ?_; rintro e w3 ⟨rfl, rfl⟩) | (refine (rin_f _ _ _ _ (by omega)).mono ?_; rintro e w3 ⟨rfl, rfl⟩)) | (go_at_call 37; rw [← HWW.out]; refine (cf.out).mono ?_; rintro e w3 ⟨rfl, hb3⟩; have HB3 := hid hb3; obtain ⟨x0, x1, x2⟩ := cells3_of ((hb3.block w.heap.size (by rw [HSZ.out]; exact Nat.lt_succ_self _)).trans HX0.out); clear hb3) | fail)
              go_ret
              exact ⟨rfl, HB0.out.trans (HB3.out.mono HB0.out.size)⟩
            · rw [hG] at cf
              have HG := hid hG
              clear hG
              go_enter Tryd.func17, Tryd.ntmps17
              go_wp2_with (first | (go_at_call 48; first | (refine (rin_t _ _ _ _ (by omega)).mono ?_; rintro e w3 ⟨rfl, rfl⟩) | (refine (rin_f _ _ _ _ (by omega)).mono ?_; rintro e w3 ⟨rfl, rfl⟩)) | (go_at_call 37; rw [← HWW.out]; refine (cf.out).mono ?_; rintro e w3 ⟨rfl, hb3⟩; have HB3 := hid hb3; obtain ⟨x0, x1, x2⟩ := cells3_of ((hb3.block w.heap.size (by rw [HSZ.out]; exact Nat.lt_succ_self _)).trans HX0.out); clear hb3) | fail)
              go_loopw [3] (fun v wr => ∃ i : Nat, v = .int .i64 i ∧ i ≤ M ∧ Hid ((o.moves.take i).all (mvOk o.P) = true) ∧ Hid (Below W0.heap.size W0 wr) ∧ Hid (wr.heap[w.heap.size]? = some (.cells #[.slice (some ⟨g1, 0, none⟩) P c1, .slice a2 M c2, .slice a3 J c3] 26))) (fun v _ => M - (intOf v).toNat)
              case atStart => exact ⟨0, rfl, Nat.zero_le _, by rw [List.take_zero]; rfl, HB3, (HB3.out.block w.heap.size (by rw [HSZ.out]; exact Nat.lt_succ_self _)).trans HX0.out⟩
              case round =>
                clear x0 x1 x2
                obtain ⟨i, rfl, hi, HAl, HBl, HXl⟩ := hrel
                obtain ⟨x0, x1, x2⟩ := cells3_of HXl.out
                have hlw0 := heap_lt HXl.out
                by_cases hlt : i < M
                · have hlt' : i < o.moves.length := by rw [← HM.out]; exact hlt
                  obtain ⟨g3, rfl, n0, n1, n2, n3⟩ := HC2.out i hlt'
                  have em : mvAt o.moves i = o.moves[i] := by simp [mvAt, hlt']
                  have lt3 := World.block_lt_of_cell? w _ n0
                  have up := HB0.out.trans (HBl.out.mono HB0.out.size)
                  have HMV : Hid (∀ b, mvOk o.P o.moves[i] = b → (o.moves.take (i + 1)).all (mvOk o.P) = b ∧ (b = false → V = false)) := by
                    intro b hb
                    have e : (o.moves.take (i + 1)).all (mvOk o.P) = b := by rw [all_take_succ _ _ _ hlt', HAl.out, hb]; rfl
                    refine ⟨e, ?_⟩
                    rintro rfl
                    rw [HVV.out]
                    exact valid_mv (all_of_take _ _ _ e)
                  rw [em] at n0 n1 n2 n3
                  generalize o.moves[i] = m at *
                  obtain ⟨a, b, x, y⟩ := m
                  simp only at n0 n1 n2 n3
                  replace n0 := (up.cell lt3).trans n0
                  replace n1 := (up.cell (p := ⟨g3, i * 4 + 1, none⟩) lt3).trans n1
                  replace n2 := (up.cell (p := ⟨g3, i * 4 + 2, none⟩) lt3).trans n2
                  replace n3 := (up.cell (p := ⟨g3, i * 4 + 3, none⟩) lt3).trans n3
                  have hlw : g3 < wr.heap.size := Nat.lt_of_lt_of_le lt3 up.size
                  have HBa : Hid (Below W0.heap.size W0 (wr.alloc (.cells #[.int .i64 a, .int .i64 b, .int .i64 x, .int .i64 y] 53))) := HBl.out.alloc HBl.out.size _
                  have HBb : Hid (Below w.heap.size w (wr.alloc (.cells #[.int .i64 a, .int .i64 b, .int .i64 x, .int .i64 y] 53))) := up.alloc up.size _
                  have HXa : Hid ((wr.alloc (.cells #[.int .i64 a, .int .i64 b, .int .i64 x, .int .i64 y] 53)).heap[w.heap.size]? = some (.cells #[.slice (some ⟨g1, 0, none⟩) P c1, .slice (some ⟨g3, 0, none⟩) M c2, .slice a3 J c3] 26)) := (Below.heap_alloc _ _ _ hlw0).trans HXl.out
                  clear em up HAl hlt'
                  by_cases e1 : 0 ≤ a ∧ a ≤ (P : Int) - 1
                  · by_cases e2 : 0 ≤ b ∧ b ≤ (P : Int) - 1
                    · by_cases e3 : -5 ≤ x ∧ x ≤ 5
                      · by_cases e4 : -5 ≤ y ∧ y ≤ 5
                        · have HV := hid ((HMV.out true (by unfold mvOk within5; rw [← HP.out]; simp; omega)).1)
                          go_wp2_with (first | (go_at_call 48; first | (refine (rin_t _ _ _ _ (by omega)).mono ?_; rintro e w3 ⟨rfl, rfl⟩) | (refine (rin_f _ _ _ _ (by omega)).mono ?_; rintro e w3 ⟨rfl, rfl⟩)) | fail)
                          go_roundw
                          case rel => exact ⟨i + 1, by go_num, by omega, HV, HBa, HXa⟩
                          case measure => simp [intOf]; omega
                        · have hv := (HMV.out false (by unfold mvOk within5; rw [← HP.out]; simp; omega)).2 rfl
                          subst hv
                          go_wp2_with (first | (go_at_call 48; first | (refine (rin_t _ _ _ _ (by omega)).mono ?_; rintro e w3 ⟨rfl, rfl⟩) | (refine (rin_f _ _ _ _ (by omega)).mono ?_; rintro e w3 ⟨rfl, rfl⟩)) | fail)
                          go_ret
                          exact ⟨rfl, HBb.out⟩
                      · have hv := (HMV.out false (by unfold mvOk within5; rw [← HP.out]; simp; omega)).2 rfl
                        subst hv
                        go_wp2_with (first | (go_at_call 48; first | (refine (rin_t _ _ _ _ (by omega)).mono ?_; rintro e w3 ⟨rfl, rfl⟩) | (refine (rin_f _ _ _ _ (by omega)).mono ?_; rintro e w3 ⟨rfl, rfl⟩)) | fail)
                        go_ret
                        exact ⟨rfl, HBb.out⟩
                    · have hv := (HMV.out false (by unfold mvOk within5; rw [← HP.out]; simp; omega)).2 rfl
                      subst hv
                      go_wp2_with (first | (go_at_call 48; first | (refine (rin_t _ _ _ _ (by omega)).mono ?_; rintro e w3 ⟨rfl, rfl⟩) | (refine (rin_f _ _ _ _ (by omega)).mono ?_; rintro e w3 ⟨rfl, rfl⟩)) | fail)
                      go_ret
                      exact ⟨rfl, HBb.out⟩
                  · have hv := (HMV.out false (by unfold mvOk within5; rw [← HP.out]; simp; omega)).2 rfl
                    subst hv
                    go_wp2_with (first | (go_at_call 48; first | (refine (rin_t _ _ _ _ (by omega)).mono ?_; rintro e w3 ⟨rfl, rfl⟩) | (refine (rin_f _ _ _ _ (by omega)).mono ?_; rintro e w3 ⟨rfl, rfl⟩)) | fail)
                    go_ret
                    exact ⟨rfl, HBb.out⟩
                · obtain rfl : i = M := by omega
                  have HMA : Hid (o.moves.all (mvOk o.P) = true) := by
                    have := HAl.out
                    rw [HM.out, List.take_of_length_le (Nat.le_refl _)] at this
                    exact this
                  clear HAl
                  go_wp2
                  clear x0 x1 x2
                  go_loopw [5] (fun v wr2 => ∃ k : Nat, v = .int .i64 k ∧ k ≤ J ∧ Hid ((o.jolts.take k).all jlOk = true) ∧ wr2 = wr) (fun v _ => J - (intOf v).toNat)
                  case atStart => exact ⟨0, rfl, Nat.zero_le _, by rw [List.take_zero]; rfl, rfl⟩
                  case round =>
                    obtain ⟨k, rfl, hk, HAl, rfl⟩ := hrel
                    obtain ⟨x0, x1, x2⟩ := cells3_of HXl.out
                    have HBb := hid (HB0.out.trans (HBl.out.mono HB0.out.size))
                    by_cases hlt : k < J
                    · have hlt' : k < o.jolts.length := by rw [← HJ.out]; exact hlt
                      obtain ⟨g3, rfl, n0, n1⟩ := HC3.out k hlt'
                      have em : jlAt o.jolts k = o.jolts[k] := by simp [jlAt, hlt']
                      have lt3 := World.block_lt_of_cell? w _ n0
                      have HMV : Hid (∀ b, jlOk o.jolts[k] = b → (o.jolts.take (k + 1)).all jlOk = b ∧ (b = false → V = false)) := by
                        intro b hb
                        have e : (o.jolts.take (k + 1)).all jlOk = b := by rw [all_take_succ _ _ _ hlt', HAl.out, hb]; rfl
                        refine ⟨e, ?_⟩
                        rintro rfl
                        rw [HVV.out]
                        exact valid_jl (all_of_take _ _ _ e)
                      rw [em] at n0 n1
                      generalize o.jolts[k] = m at *
                      obtain ⟨x, y⟩ := m
                      simp only at n0 n1
                      replace n0 := (HBb.out.cell lt3).trans n0
                      replace n1 := (HBb.out.cell (p := ⟨g3, k * 2 + 1, none⟩) lt3).trans n1
                      clear em HAl hlt'
                      by_cases e3 : -5 ≤ x ∧ x ≤ 5
                      · by_cases e4 : -5 ≤ y ∧ y ≤ 5
                        · have HV := hid ((HMV.out true (by unfold jlOk within5; simp; omega)).1)
                          go_wp2_with (first | (go_at_call 48; first | (refine (rin_t _ _ _ _ (by omega)).mono ?_; rintro e w3 ⟨rfl, rfl⟩) | (refine (rin_f _ _ _ _ (by omega)).mono ?_; rintro e w3 ⟨rfl, rfl⟩)) | fail)
                          go_roundw
                          case rel => exact ⟨k + 1, by go_num, by omega, HV, trivial⟩
                          case measure => simp [intOf]; omega
                        · have hv := (HMV.out false (by unfold jlOk within5; simp; omega)).2 rfl
                          subst hv
                          go_wp2_with (first | (go_at_call 48; first | (refine (rin_t _ _ _ _ (by omega)).mono ?_; rintro e w3 ⟨rfl, rfl⟩) | (refine (rin_f _ _ _ _ (by omega)).mono ?_; rintro e w3 ⟨rfl, rfl⟩)) | fail)
                          go_ret
                          exact ⟨rfl, HBb.out⟩
                      · have hv := (HMV.out false (by unfold jlOk within5; simp; omega)).2 rfl
                        subst hv
                        go_wp2_with (first | (go_at_call 48; first | (refine (rin_t _ _ _ _ (by omega)).mono ?_; rintro e w3 ⟨rfl, rfl⟩) | (refine (rin_f _ _ _ _ (by omega)).mono ?_; rintro e w3 ⟨rfl, rfl⟩)) | fail)
                        go_ret
                        exact ⟨rfl, HBb.out⟩
                    · obtain rfl : k = J := by omega
                      have HJA : Hid (o.jolts.all jlOk = true) := by
                        have := HAl.out
                        rw [HJ.out, List.take_of_length_le (Nat.le_refl _)] at this
                        exact this
                      have hv : V = true := by
                        rw [HVV.out]
                        exact valid_true ⟨by rw [← HP.out]; exact p1, by rw [← HP.out]; exact p2, by rw [← HM.out]; exact hE, by rw [← HJ.out]; exact j1, by rw [← HJ.out]; exact j2⟩ (by rw [← HR.out]; exact ⟨r1, r2⟩) (by rw [← HC.out]; exact ⟨s1, s2⟩) (by rw [← HP.out, ← HR.out, ← HC.out]; exact HG.out) HMA.out HJA.out
                      subst hv
                      go_wp2
                      go_ret
                      exact ⟨rfl, HBb.out⟩
          · have hv : V = false := by
              rw [HVV.out]; exact valid_lens (fun h => hF (by rw [HJ.out]; exact ⟨h.2.2.2.1, h.2.2.2.2⟩))
            subst hv
            go_enter Tryd.func17, Tryd.ntmps17
            go_wp2_with (first | (go_at_call 48; first | (refine (rin_t _ _ _ _ (by omega)).mono ?_; rintro e w3 ⟨rfl, rfl⟩) | (refine (rin_f _ _ _ _ (by omega)).mono ?_; rintro e w3 ⟨rfl, rfl⟩)) | fail)
            go_ret
            exact ⟨rfl, HB0.out⟩
        · have hv : V = false := by
            rw [HVV.out]; exact valid_lens (fun h => hE (by rw [HM.out]; exact h.2.2.1))
          subst hv
          go_enter Tryd.func17, Tryd.ntmps17
          go_wp2_with (first | (go_at_call 48; first | (refine (rin_t _ _ _ _ (by omega)).mono ?_; rintro e w3 ⟨rfl, rfl⟩) | (refine (rin_f _ _ _ _ (by omega)).mono ?_; rintro e w3 ⟨rfl, rfl⟩)) | fail)
          go_ret
          exact ⟨rfl, HB0.out⟩
      · have hv : V = false := by rw [HVV.out]; exact valid_C (by rw [← HC.out]; exact hD)
        subst hv
        go_enter Tryd.func17, Tryd.ntmps17
        go_wp2_with (first | (go_at_call 48; first | (refine (rin_t _ _ _ _ (by omega)).mono ?_; rintro e w3 ⟨rfl, rfl⟩) | (refine (rin_f _ _ _ _ (by omega)).mono ?_; rintro e w3 ⟨rfl, rfl⟩)) | fail)
        go_ret
        exact ⟨rfl, HB0.out⟩
    · have hv : V = false := by rw [HVV.out]; exact valid_R (by rw [← HR.out]; exact hB)
      subst hv
      go_enter Tryd.func17, Tryd.ntmps17
      go_wp2_with (first | (go_at_call 48; first | (refine (rin_t _ _ _ _ (by omega)).mono ?_; rintro e w3 ⟨rfl, rfl⟩) | (refine (rin_f _ _ _ _ (by omega)).mono ?_; rintro e w3 ⟨rfl, rfl⟩)) | fail)
      go_ret
      exact ⟨rfl, HB0.out⟩
  · have hv : V = false := by rw [HVV.out]; exact valid_lens (fun h => hA (by rw [HP.out]; exact ⟨h.1, h.2.1⟩))
    subst hv
    go_enter Tryd.func17, Tryd.ntmps17
    go_wp2_with (first | (go_at_call 48; first | (refine (rin_t _ _ _ _ (by omega)).mono ?_; rintro e w3 ⟨rfl, rfl⟩) | (refine (rin_f _ _ _ _ (by omega)).mono ?_; rintro e w3 ⟨rfl, rfl⟩)) | fail)
    go_ret
    exact ⟨rfl, HB0.out⟩
end Go.Proofs.YtjonbhimbhidpaaDoor
