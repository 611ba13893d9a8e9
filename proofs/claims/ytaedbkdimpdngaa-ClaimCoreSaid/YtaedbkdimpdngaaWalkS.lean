/-
  Walks over chapter 12: one list within another.
-/
import Derived.Test.YtaedbkdimpdngaaWalkR
namespace Go.Proofs.Ytaedbkdimpdngaa
open Go.RowKit
/-- a list that one can read, wherever it begins -/
def IsW (w : World) (v : Value) (xs : List Value) : Prop :=
  ∃ a c o, v = .slice a xs.length c ∧ xs.length ≤ 1000000 ∧ ∀ i, i < xs.length → ∃ g, a = some ⟨g, o, none⟩ ∧ w.cell? ⟨g, o + i, none⟩ = some (xs.getD i undef)
theorem isV_isW {w : World} {v : Value} {xs : List Value} (h : IsV w v xs) : IsW w v xs := by
  obtain ⟨a, c, rfl, hl, hc⟩ := h
  refine ⟨a, c, 0, rfl, hl, fun i hi => ?_⟩
  rw [Nat.zero_add]
  exact hc i hi
theorem isW_below {w w' : World} {v : Value} {xs : List Value} (h : IsW w v xs) (hb : Below w.heap.size w w') : IsW w' v xs := by
  obtain ⟨a, c, o, rfl, hl, hc⟩ := h
  refine ⟨a, c, o, rfl, hl, fun i hi => ?_⟩
  obtain ⟨g, ha, hcell⟩ := hc i hi
  exact ⟨g, ha, by rw [hb.cell (World.block_lt_of_cell? w _ hcell)]; exact hcell⟩
theorem any_take' {α : Type} (f : α → Bool) (xs : List α) (d : α) (i : Nat) (h : i < xs.length) : (xs.take (i + 1)).any f = ((xs.take i).any f || f (xs.getD i d)) := any_take f xs d i h
theorem all_take {α : Type} (f : α → Bool) (xs : List α) (d : α) (i : Nat) (h : i < xs.length) : (xs.take (i + 1)).all f = ((xs.take i).all f && f (xs.getD i d)) := by
  rw [List.take_add_one, List.all_append, List.getD_eq_getElem?_getD, List.getElem?_eq_getElem h]; simp
/-- every claim of one list is in the other -/
def inL (x y : List Nat) : Bool := x.all fun a => y.any fun b => a == b
set_option maxRecDepth 100000 in
set_option maxHeartbeats 2000000 in
theorem within_any (u v : Value) (x y : List Nat) (w : World) (hu : IsW w u (x.map iv)) (hv : IsV w v (y.map iv)) :
    Calls Try.prog 46 #[u, v] w fun e w' => e = .returned (.bool (inL x y)) ∧ Below w.heap.size w w' := by
  have HU := hid hu
  have HV := hid hv
  obtain ⟨a, c, o, rfl, hl1, hu3⟩ := hu
  obtain ⟨a2, c2, rfl⟩ := isV_slice hv
  have hl2 : y.length ≤ 1000000 := by
    obtain ⟨_, _, _, h, _⟩ := hv
    rwa [List.length_map] at h
  rw [List.length_map] at hl1 hu3 HU HV ⊢
  rw [List.length_map]
  have CX : Hid (∀ i, i < x.length → ∃ g, a = some ⟨g, o, none⟩ ∧ ∀ w', Below w.heap.size w w' → w'.cell? ⟨g, o + i, none⟩ = some (.int .i64 ((x.getD i 0 : Nat) : Int))) := fun i hi => by
    obtain ⟨g, ha, hc⟩ := hu3 i hi
    rw [getD_map iv _ 0 i hi] at hc
    exact ⟨g, ha, fun w' hb => (hb.cell (World.block_lt_of_cell? w _ hc)).trans hc⟩
  have CY : Hid (∀ i, i < y.length → ∃ g, a2 = some ⟨g, 0, none⟩ ∧ ∀ w', Below w.heap.size w w' → w'.cell? ⟨g, i, none⟩ = some (.int .i64 ((y.getD i 0 : Nat) : Int))) := fun i hi => by
    obtain ⟨g, ha, -, hc⟩ := isV_at hv i (by rw [List.length_map]; exact hi)
    rw [getD_map iv _ 0 i hi] at hc
    exact ⟨g, ha, fun w' hb => (hb.cell (World.block_lt_of_cell? w _ hc)).trans hc⟩
  clear hu3 hv HU HV
  obtain ⟨r, hr⟩ : ∃ r, r = inL x y := ⟨_, rfl⟩
  rw [← hr]
  have ST : Hid (∀ i, i < x.length → (x.take (i + 1)).all (fun a => y.any fun b => a == b) = ((x.take i).all (fun a => y.any fun b => a == b) && y.any fun b => x.getD i 0 == b)) := fun i hi => all_take (fun a => y.any fun b => a == b) x 0 i hi
  have RN : Hid (∀ i, i < x.length → (y.any fun b => x.getD i 0 == b) = false → r = false) := fun i hi h => by
    rw [hr]
    unfold inL
    rw [List.all_eq_false]
    refine ⟨x.getD i 0, ?_, by rw [h]; decide⟩
    rw [List.getD_eq_getElem?_getD, List.getElem?_eq_getElem hi]
    exact List.getElem_mem hi
  have RY : Hid ((x.take x.length).all (fun a => y.any fun b => a == b) = true → r = true) := fun h => by
    rw [hr]
    unfold inL
    rw [List.take_length] at h
    exact h
  clear hr
  obtain ⟨P, hP⟩ : ∃ P : Nat → Bool, P = fun i => (x.take i).all (fun a => y.any fun b => a == b) := ⟨_, rfl⟩
  obtain ⟨n, hn⟩ : ∃ n, n = x.length := ⟨_, rfl⟩
  obtain ⟨m, hm⟩ : ∃ m, m = y.length := ⟨_, rfl⟩
  have HM := hid hm
  have ST2 : Hid (∀ i, i < n → P (i + 1) = (P i && y.any fun b => x.getD i 0 == b)) := by rw [hP, hn]; exact ST
  have RY2 : Hid (P n = true → r = true) := by rw [hP, hn]; exact RY
  have P0 : Hid (P 0 = true) := by rw [hP]; exact (rfl : _ = _)
  clear ST RY hP
  rw [← hn] at hl1 CX RN ⊢
  rw [← hm] at hl2 CY ⊢
  clear hn hm
  go_enter Try.func46, Try.ntmps46
  go_wp2_with fail
  go_loopw [5] (fun zv wr => ∃ i : Nat, zv = .int .i64 i ∧ i ≤ n ∧ Hid (P i = true) ∧ Hid (Below w.heap.size w wr)) (fun zv _ => n - (intOf zv).toNat)
  case atStart => exact ⟨0, rfl, Nat.zero_le _, P0, Below.refl _ _⟩
  case round =>
    obtain ⟨i, rfl, hi, HPi, HBr⟩ := hrel
    by_cases hlt : i < n
    · obtain ⟨g, rfl, hcx⟩ := CX.out i hlt
      have HCX := hid hcx
      have HST := hid (ST2.out i hlt)
      have HRN := hid (RN.out i hlt)
      clear hcx CX RN ST2
      generalize x.getD i 0 = p at *
      obtain ⟨A, hA⟩ : ∃ A : Nat → Bool, A = fun k => (y.take k).any fun b => p == b := ⟨_, rfl⟩
      have AS : Hid (∀ k, k < m → A (k + 1) = (A k || p == y.getD k 0)) := fun k hk => by
        rw [hA]
        exact any_take' (fun b => p == b) y 0 k (by rw [← HM.out]; exact hk)
      have A0 : Hid (A 0 = false) := by rw [hA]; exact (rfl : _ = _)
      have AM : Hid (A m = y.any fun b => p == b) := by rw [hA, HM.out]; show (y.take y.length).any _ = _; rw [List.take_length]
      clear hA
      go_wp2_with fail
      go_loopw [7, 6] (fun zv bv wr => ∃ k : Nat, zv = .int .i64 k ∧ k ≤ m ∧ bv = .bool (A k) ∧ Hid (Below w.heap.size w wr)) (fun zv _ _ => m - (intOf zv).toNat)
      case atStart => exact ⟨0, rfl, Nat.zero_le _, by rw [A0.out], HBr⟩
      case round =>
        clear HBr
        obtain ⟨k, rfl, hk, hbv, HBr⟩ := hrel
        by_cases hkm : k < m
        · obtain ⟨g2, rfl, hcy⟩ := CY.out k hkm
          have HA := hid (AS.out k hkm)
          have c0 := HCX.out wr HBr.out
          have c1 := hcy wr HBr.out
          have HCY := hid hcy
          clear hcy AS
          generalize y.getD k 0 = q at *
          cases hb0 : A k with
          | true =>
            rw [hb0] at hbv
            subst hbv
            have HA2 : Hid (A (k + 1) = true) := by show _ = _; rw [HA.out, hb0]; rfl
            clear HA hb0
            go_upto_region 8 with fail
            go_quiet (fail)
            go_wp2_with fail
            go_roundw
            case rel => exact ⟨k + 1, by go_num, by omega, by rw [HA2.out], below_drewN_r HBr.out _⟩
            case measure => simp [intOf]; omega
          | false =>
            rw [hb0] at hbv
            subst hbv
            by_cases hpq : p = q
            · subst hpq
              have HA2 : Hid (A (k + 1) = true) := by show _ = _; rw [HA.out, hb0]; simp
              clear HA hb0
              go_upto_region 8 with fail
              go_quiet (fail)
              go_wp2_with fail
              go_roundw
              case rel => exact ⟨k + 1, by go_num, by omega, by rw [HA2.out], below_drewN_r HBr.out _⟩
              case measure => simp [intOf]; omega
            · have hne : ¬ (p : Int) = (q : Int) := by omega
              have HA2 : Hid (A (k + 1) = false) := by show _ = _; rw [HA.out, hb0, beq_eq_false_iff_ne.2 hpq]; rfl
              clear HA hb0
              go_upto_region 8 with fail
              go_quiet (fail)
              go_wp2_with fail
              go_roundw
              case rel => exact ⟨k + 1, by go_num, by omega, by rw [HA2.out, beq_eq_false_iff_ne.2 hne], below_drewN_r HBr.out _⟩
              case measure => simp [intOf]; omega
        · have hkk : k = m := by omega
          subst hkk
          cases hb0 : A k with
          | true =>
            rw [hb0] at hbv
            subst hbv
            have HP2 : Hid (P (i + 1) = true) := by show _ = _; rw [HST.out, HPi.out, ← AM.out, hb0]; rfl
            clear hb0
            go_wp2_with fail
            go_roundw
            case rel => exact ⟨i + 1, by go_num, by omega, HP2, HBr⟩
            case measure => simp [intOf]; omega
          | false =>
            rw [hb0] at hbv
            subst hbv
            have HF := hid (HRN.out (by rw [← AM.out, hb0]))
            clear hb0
            go_wp2_with fail
            go_ret
            exact ⟨by rw [HF.out]; rfl, HBr.out⟩
    · have hin : i = n := by omega
      subst hin
      have HF := hid (RY2.out HPi.out)
      go_wp2_with fail
      go_ret
      exact ⟨by rw [HF.out]; rfl, HBr.out⟩
end Go.Proofs.Ytaedbkdimpdngaa
