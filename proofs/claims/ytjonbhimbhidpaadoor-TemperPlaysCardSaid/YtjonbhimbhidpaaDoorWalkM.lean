/-
  Walks over chapter 6: the reference's tests of form and place.
-/
import Derived.Test.YtjonbhimbhidpaaDoorWalkL
namespace Go.Proofs.YtjonbhimbhidpaaDoor
open Go.RowKit

set_option maxHeartbeats 1000000 in
theorem rin_any (v l h : Int) (w : World) : Calls Tryd.prog 48 #[.int .i64 v, .int .i64 l, .int .i64 h] w fun e w' => e = .returned (.bool (decide (l ≤ v ∧ v ≤ h))) ∧ w' = w := by
  by_cases h1 : l ≤ v
  · by_cases h2 : v ≤ h
    · go_enter Tryd.func48, Tryd.ntmps48
      go_wp2
      go_ret
      exact ⟨ret_bool (by simp; omega), rfl⟩
    · go_enter Tryd.func48, Tryd.ntmps48
      go_wp2
      go_ret
      exact ⟨ret_bool (by simp; omega), rfl⟩
  · go_enter Tryd.func48, Tryd.ntmps48
    go_wp2
    go_ret
    exact ⟨ret_bool (by simp; omega), rfl⟩

theorem letter_ne (s : Str) (x : Nat) (hx : x < (strB s).size) (k : UInt8) (hk : x < s.length) : ((((((strB s)[x]'hx).toNat : Nat) : Int)) != ((k.toNat : Nat) : Int)) = (s[x] != k) := by
  have e : (strB s)[x]'hx = s[x] := by
    show (strB s).data[x] = _
    simp [strB]
  rw [e]
  have h2 : s[x] = k ↔ s[x].toNat = k.toNat := UInt8.toNat_inj.symm
  by_cases h : s[x] = k
  · simp [h]
  · have h3 : ¬ s[x].toNat = k.toNat := fun e => h (h2.2 e)
    have h4 : ((s[x].toNat : Nat) : Int) ≠ ((k.toNat : Nat) : Int) := by omega
    simp only [bne, beq_false_of_ne h4, beq_false_of_ne h]

set_option maxHeartbeats 2000000 in
theorem rows_any (v : Value) (xs : List Str) (C : Nat) (w : World) (hx : IsStrs w v xs) (hs : ∀ s ∈ xs, s.length ≤ 1000) (hC : C ≤ 1000000) :
    Calls Tryd.prog 57 #[v, .int .i64 C] w fun e w' => e = .returned (.bool (rowsOk C xs)) ∧ w' = w := by
  obtain ⟨a, c, rfl, hl, hc⟩ := hx
  have HC := hid hc
  have HS := hid hs
  obtain ⟨F, hF⟩ : ∃ F, F = rowsOk C xs := ⟨_, rfl⟩
  rw [← hF]
  have HF := hid hF
  obtain ⟨N, hN⟩ : ∃ N, N = xs.length := ⟨_, rfl⟩
  rw [← hN] at hl ⊢
  have HN := hid hN
  clear hc hs hF hN
  go_enter Tryd.func57, Tryd.ntmps57
  go_wp2
  go_loopw [5] (fun v wr => ∃ i : Nat, v = .int .i64 i ∧ i ≤ N ∧ Hid ((xs.take i).all (rowOk C) = true) ∧ wr = w) (fun v _ => N - (intOf v).toNat)
  case atStart => exact ⟨0, rfl, Nat.zero_le _, by rw [List.take_zero]; rfl, rfl⟩
  case round =>
    obtain ⟨i, rfl, hi, HA, rfl⟩ := hrel
    by_cases hlt : i < N
    · have hlt' : i < xs.length := by rw [← HN.out]; exact hlt
      obtain ⟨g, rfl, hcell⟩ := HC.out i hlt'
      obtain ⟨s, hse⟩ : ∃ s, s = xs.getD i [] := ⟨_, rfl⟩
      have hse2 : xs[i] = s := by rw [hse]; simp [hlt']
      rw [← hse] at hcell
      have hsl : s.length ≤ 1000 := by rw [← hse2]; exact HS.out _ (List.getElem_mem hlt')
      have HA4 : Hid (∀ b, rowOk C s = b → (xs.take (i + 1)).all (rowOk C) = b ∧ (b = false → F = false)) := by
        intro b hb
        have e : (xs.take (i + 1)).all (rowOk C) = b := by rw [all_take_succ _ _ _ hlt', HA.out, hse2, hb]; rfl
        refine ⟨e, ?_⟩
        rintro rfl
        rw [HF.out]
        exact all_of_take _ _ _ e
      have hsz := strB_size s
      have HSZ := hid hsz
      clear hse hse2 hlt' HA
      go_wp2
      go_loopw [6] (fun v wr2 => ∃ x : Nat, v = .int .i64 x ∧ x ≤ (strB s).size ∧ Hid ((s.take x).all dotx = true) ∧ wr2 = wr) (fun v _ => (strB s).size - (intOf v).toNat)
      case atStart => exact ⟨0, rfl, Nat.zero_le _, by rw [List.take_zero]; rfl, rfl⟩
      case round =>
        obtain ⟨x, rfl, hxs, HD, rfl⟩ := hrel
        by_cases hlx : x < (strB s).size
        · have hlx' : x < s.length := by rw [← HSZ.out]; exact hlx
          have d1 := letter_ne s x hlx 46 hlx'
          have d2 := letter_ne s x hlx 35 hlx'
          have hdx : dotx s[x] = !((s[x] != 46) && (s[x] != 35)) := by unfold dotx; simp [bne]
          have HX : Hid ((s.take (x + 1)).all dotx = !((s[x] != 46) && (s[x] != 35))) := by
            show _ = _
            rw [all_take_succ _ _ _ hlx', HD.out, hdx]; rfl
          have e46 : (((46 : UInt8).toNat : Nat) : Int) = 46 := rfl
          have e35 : (((35 : UInt8).toNat : Nat) : Int) = 35 := rfl
          rw [e46] at d1
          rw [e35] at d2
          clear e46 e35 hdx
          generalize (s[x] != 46) = b1 at *
          generalize (s[x] != 35) = b2 at *
          clear HD hlx'
          cases b1
          · go_wp2
            go_roundw
            case rel => exact ⟨x + 1, by go_num, by omega, HX, trivial⟩
            case measure => simp [intOf]; omega
          · cases b2
            · go_wp2
              go_roundw
              case rel => exact ⟨x + 1, by go_num, by omega, HX, trivial⟩
              case measure => simp [intOf]; omega
            · have h4 := (HA4.out false (by
                have : s.all dotx = false := all_of_take _ _ (x + 1) HX.out
                unfold rowOk; rw [this, Bool.and_false])).2 rfl
              subst h4
              go_wp2
              go_ret
              exact ⟨rfl, rfl⟩
        · obtain rfl : x = (strB s).size := by omega
          have HD2 : Hid (s.all dotx = true) := by
            have := HD.out
            rwa [HSZ.out, List.take_of_length_le (Nat.le_refl _)] at this
          by_cases hw : (strB s).size = C
          · have h4 := (HA4.out true (by unfold rowOk; rw [HD2.out, ← HSZ.out, hw]; simp)).1
            have H4 := hid h4
            clear h4
            subst hw
            go_wp2
            go_roundw
            case rel => exact ⟨i + 1, by go_num, by omega, H4, trivial⟩
            case measure => simp [intOf]; omega
          · have h4 := (HA4.out false (by unfold rowOk; rw [← HSZ.out]; simp [hw])).2 rfl
            subst h4
            have hw' : ¬ (((strB s).size : Nat) : Int) = (C : Int) := by omega
            clear hw
            go_wp2
            go_ret
            exact ⟨rfl, rfl⟩
    · obtain rfl : i = N := by omega
      have h4 : F = true := by
        rw [HF.out]
        unfold rowsOk
        have := HA.out
        rwa [HN.out, List.take_of_length_le (Nat.le_refl _)] at this
      subst h4
      go_wp2
      go_ret
      exact ⟨rfl, rfl⟩
/-- decided ahead -/
theorem quiet_one {P : Program} {f : FuncId} {args : Array Value} {w : World} {n : Nat} {v : Value} (h : Calls P f args (w.drewN n) fun e w' => e = .returned v ∧ w' = w.drewN n) :
    Calls P f args (w.drewN n) fun e w'' => e = .returned v ∧ ∃ m, w'' = w.drewN m := h.mono fun _ _ ⟨he, hm⟩ => ⟨he, n, hm⟩
theorem quiet_add {P : Program} {f : FuncId} {args : Array Value} {w : World} {a n : Nat} {v : Value} (h : Calls P f args (w.drewN (a + n)) fun e w' => e = .returned v ∧ w' = w.drewN (a + n)) :
    Calls P f args (w.drewN (a + n)) fun e w'' => e = .returned v ∧ ∃ m, w'' = w.drewN (a + m) := h.mono fun _ _ ⟨he, hm⟩ => ⟨he, n, hm⟩
theorem rin_t (v l h : Int) (w : World) (hh : l ≤ v ∧ v ≤ h) : Calls Tryd.prog 48 #[.int .i64 v, .int .i64 l, .int .i64 h] w fun e w' => e = .returned (.bool true) ∧ w' = w := by
  have := rin_any v l h w
  rwa [decide_eq_true hh] at this
theorem rin_f (v l h : Int) (w : World) (hh : ¬ (l ≤ v ∧ v ≤ h)) : Calls Tryd.prog 48 #[.int .i64 v, .int .i64 l, .int .i64 h] w fun e w' => e = .returned (.bool false) ∧ w' = w := by
  have := rin_any v l h w
  rwa [decide_eq_false hh] at this

/-- the first row of an oven, as the reference reads it -/
theorem first_row {w : World} {vs : Value} {g : Grid} (h : IsGrid w vs g) (hP : 1 ≤ g.length) : ∃ ga ca gb cb, vs = .slice (some ⟨ga, 0, none⟩) g.length ca ∧ w.cell? ⟨ga, 0, none⟩ = some (.slice gb (g.getD 0 []).length cb) ∧ (1 ≤ (g.getD 0 []).length → ∃ k, gb = some ⟨k, 0, none⟩ ∧ w.cell? ⟨k, 0, none⟩ = some (.string (strB ((g.getD 0 []).getD 0 [])))) := by
  obtain ⟨a, ca, rfl, hl, hc⟩ := h
  obtain ⟨ga, u, rfl, hcell, hs⟩ := hc 0 (by omega)
  obtain ⟨a2, cb, rfl, hl2, hc2⟩ := hs
  refine ⟨ga, ca, a2, cb, rfl, hcell, fun h1 => ?_⟩
  obtain ⟨k, rfl, hcell2⟩ := hc2 0 (by omega)
  exact ⟨k, rfl, hcell2⟩
/-- the sizes of an oven's lists -/
structure Ov.Dim (o : Ov) : Prop where
  p : 1 ≤ o.P
  r : 1 ≤ o.R
  pm : o.P ≤ 1000000
  rm : o.R ≤ 1000000
  cm : o.C ≤ 1000000
theorem dim_of_ok {o : Ov} (h : o.Ok) : o.Dim := ⟨h.p.1, h.r.1, by have := h.p; omega, by have := h.r; omega, by have := h.c; omega⟩

set_option maxHeartbeats 2000000 in
set_option maxRecDepth 100000 in
theorem exists_any (vs vm vj : Value) (o : Ov) (c : Sp) (w : World) (ho : IsOv w vs vm vj o) (hd : o.Dim) :
    Calls Tryd.prog 18 #[.agg #[vs, vm, vj], spv c] w fun e w' => e = .returned (.bool (o.ex c)) ∧ Below w.heap.size w w' := by
  obtain ⟨p, x, y⟩ := c
  obtain ⟨ga, ca, gb, cb, rfl, hc0, hc9⟩ := first_row ho.safe hd.p
  obtain ⟨k, rfl, hc1⟩ := hc9 hd.r
  clear hc9
  obtain ⟨hp1, hr1, hpm, hrm, hcm⟩ := hd
  obtain ⟨P, hP⟩ : ∃ P, P = o.P := ⟨_, rfl⟩
  obtain ⟨R, hR⟩ : ∃ R, R = o.R := ⟨_, rfl⟩
  obtain ⟨C, hC⟩ : ∃ C, C = (strB ((o.safe.getD 0 []).getD 0 [])).size := ⟨_, rfl⟩
  have hC2 : C = o.C := by rw [hC, strB_size]; rfl
  rw [show o.safe.length = P from hP.symm]
  rw [show (o.safe.getD 0 []).length = R from hR.symm] at hc0
  rw [← hP] at hpm hp1
  rw [← hR] at hrm hr1
  rw [← hC2] at hcm
  have hex : o.ex (p, x, y) = (decide (0 ≤ p ∧ p ≤ (P : Int) - 1) && decide (0 ≤ y ∧ y ≤ (R : Int) - 1) && decide (0 ≤ x ∧ x ≤ (C : Int) - 1)) := by
    unfold Ov.ex
    rw [← hP, ← hR, ← hC2, Bool.eq_iff_iff]
    simp only [decide_eq_true_eq, Bool.and_eq_true]
    omega
  rw [hex]
  have q1 := fun w => hid (rin_any p 0 ((P : Int) - 1) w)
  have q2 := fun w => hid (rin_any y 0 ((R : Int) - 1) w)
  have q3 := fun w => hid (rin_any x 0 ((C : Int) - 1) w)
  generalize decide (0 ≤ p ∧ p ≤ (P : Int) - 1) = b1 at *
  generalize decide (0 ≤ y ∧ y ≤ (R : Int) - 1) = b2 at *
  generalize decide (0 ≤ x ∧ x ≤ (C : Int) - 1) = b3 at *
  have hl0 := World.block_lt_of_cell? w _ hc0
  have hl1 := World.block_lt_of_cell? w _ hc1
  simp only at hl0 hl1
  generalize strB ((o.safe.getD 0 []).getD 0 []) = s at *
  subst hC
  clear hP hR hC2 hex ho
  unfold spv
  simp only
  cases b1
  · go_enter Tryd.func18, Tryd.ntmps18
    go_wp2
    go_quiet ((go_at_call 48; first | with_reducible exact quiet_one ((q1 _).out) | with_reducible exact quiet_one ((q2 _).out) | with_reducible exact quiet_one ((q3 _).out)))
    go_wp2
    go_ret
    exact ⟨rfl, below_drewN_r (((Below.refl _ _).alloc (Nat.le_refl _) _).alloc (by simp) _) nq⟩
  · cases b2
    · go_enter Tryd.func18, Tryd.ntmps18
      go_wp2
      go_quiet ((go_at_call 48; first | with_reducible exact quiet_one ((q1 _).out) | with_reducible exact quiet_one ((q2 _).out) | with_reducible exact quiet_one ((q3 _).out)))
      go_wp2
      go_ret
      exact ⟨rfl, below_drewN_r (((Below.refl _ _).alloc (Nat.le_refl _) _).alloc (by simp) _) nq⟩
    · go_enter Tryd.func18, Tryd.ntmps18
      go_wp2
      go_quiet ((go_at_call 48; first | with_reducible exact quiet_one ((q1 _).out) | with_reducible exact quiet_one ((q2 _).out) | with_reducible exact quiet_one ((q3 _).out)))
      go_wp2
      go_ret
      exact ⟨ret_bool (by simp), below_drewN_r (((Below.refl _ _).alloc (Nat.le_refl _) _).alloc (by simp) _) nq⟩
end Go.Proofs.YtjonbhimbhidpaaDoor
