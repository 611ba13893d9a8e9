/-
  Walks over chapter 12: a set that came as a list.
-/
import Derived.Test.YtaedbkdimpdngaaPlainI
namespace Go.Proofs.Ytaedbkdimpdngaa
open Go.RowKit
/-- what members returns -/
def Memb (w : World) (n : Int) (l : List Pr) (ys : List Int) (e : Ending) (w' : World) : Prop :=
  Below w.heap.size w w' ∧ ((validP n l = false ∧ e = .returned (.tuple #[.pointer none, .int .u16 0, .int .i64 1])) ∨ (validP n l = true ∧ okS n ys = false ∧ e = .returned (.tuple #[.pointer none, .int .u16 0, .int .i64 2])) ∨
    (validP n l = true ∧ okS n ys = true ∧ ∃ D, e = .returned (.tuple #[.pointer (some ⟨D, 0, none⟩), sv (setS ys), .int .i64 0]) ∧ DAt w' D (dsp n.toNat l)))
theorem zcell {w : World} {a : Option Addr} {n c : Nat} {ys : List Int} (h : IsV w (.slice a n c) (ys.map zv)) : ∀ i, i < ys.length → ∃ g, a = some ⟨g, 0, none⟩ ∧ w.cell? ⟨g, i, none⟩ = some (.int .i64 (zAt ys i)) := fun i hi => by
  obtain ⟨g, ha, -, hc⟩ := isV_at h i (by rw [List.length_map]; exact hi)
  rw [getD_map zv _ 0 i hi] at hc
  exact ⟨g, ha, hc⟩
set_option maxRecDepth 100000 in
set_option maxHeartbeats 2000000 in
theorem members_any (n : Int) (v u : Value) (l : List Pr) (ys : List Int) (w : World) (hv : IsPr w v l) (hu : IsV w u (ys.map zv)) :
    Calls Try.prog 74 #[.int .i64 n, v, u] w (Memb w n l ys) := by
  obtain ⟨a, c, rfl⟩ := isV_slice hu
  rw [List.length_map] at hu ⊢
  cases hva : validP n l with
  | false =>
    have HR := hid (read_no hv hva)
    have HVA := hid hva
    clear hv hva hu
    go_enter Try.func74, Try.ntmps74
    go_wp2_with (first | (go_at_call 47; refine (HR.out).mono ?_; rintro e w6 ⟨rfl, hb6⟩; have HB6 := hid hb6; clear hb6) | fail)
    refine bodyPost_ret (results_tmp3 rfl _ _ _) rfl ?_
    exact ⟨HB6.out, .inl ⟨HVA.out, rfl⟩⟩
  | true =>
    have HR := hid (read_ok hv hva)
    have hn := valid_n hva
    have hl0 : ys.length ≤ 1000000 := by
      obtain ⟨_, _, _, h, _⟩ := hu
      rwa [List.length_map] at h
    have HVA := hid hva
    have HU := hid hu
    have HL : Hid (∀ k, k ≤ ys.length → (List.range k).all (okAt n ys) = true → orT ys k < 2 ^ n.toNat) := fun k hk h => by
      have e : n = (n.toNat : Int) := by omega
      rw [e] at h
      exact orT_lt k hk h
    have ON : Hid (∀ (i : Nat) (w : World), i < 16 → Calls Try.prog 52 #[.int .i64 i] w fun e w' => e = .returned (.int .u16 ((2 ^ i : Nat) : Int)) ∧ Below w.heap.size w w') := fun i w hi => one_any i w hi
    clear hv hva hu
    obtain ⟨m, hm⟩ : ∃ m, m = ys.length := ⟨_, rfl⟩
    have HM := hid hm
    rw [← hm] at HU hl0 HL ⊢
    clear hm
    go_enter Try.func74, Try.ntmps74
    go_upto_region 6 with (first | (go_at_call 47; refine (HR.out).mono ?_; rintro e w6 ⟨D, rfl, hd6, hb6⟩; have HD6 := hid hd6; have HB6 := hid hb6; clear hb6 hd6) | fail)
    go_loopw [24, 11] (fun kv ov wr => ∃ (k : Nat), kv = .int .i64 k ∧ k ≤ m ∧ ov = .int .u16 (orT ys k : Nat) ∧ Hid ((List.range k).all (okAt n ys) = true) ∧ Hid (Below w.heap.size w wr) ∧ Hid (Below w6.heap.size w6 wr)) (fun kv _ _ => m - (intOf kv).toNat)
    case atStart => exact ⟨0, rfl, Nat.zero_le _, rfl, by show _ = _; rfl, HB6, Below.refl _ _⟩
    case round =>
      obtain ⟨k, rfl, hk, rfl, HA, HBr, HBs⟩ := hrel
      by_cases hlt : k < m
      · have hly : k < ys.length := by rw [← HM.out]; exact hlt
        obtain ⟨g, rfl, c0⟩ := zcell (isV_below HU.out HBr.out) k hly
        have HNO : Hid (okAt n ys k = false → okS n ys = false) := okS_no hly
        have HST := hid (okS_step (n := n) (ys := ys) k)
        have HOR := hid (orT_succ ys k hly)
        have HOL := hid (HL.out k (by omega) HA.out)
        have HC1 : Hid (0 < k → wr.cell? ⟨g, k - 1, none⟩ = some (.int .i64 (zAt ys (k - 1)))) := fun h => by
          obtain ⟨g', e, h1⟩ := zcell (isV_below HU.out HBr.out) (k - 1) (by omega)
          cases e
          exact h1
        have HAT : Hid (okAt n ys k = (decide (0 ≤ zAt ys k) && decide (zAt ys k < n) && (k == 0 || decide (zAt ys (k - 1) < zAt ys k)))) := (rfl : _ = _)
        generalize zAt ys k = y at *
        generalize zAt ys (k - 1) = z at *
        generalize okAt n ys k = b at *
        have BAD : Hid (b = false → ∀ w', Below w.heap.size w w' → Memb w n l ys (.returned (.tuple #[.pointer none, .int .u16 0, .int .i64 2])) w') := fun h w' hb => ⟨hb, .inr (.inl ⟨HVA.out, HNO.out h, rfl⟩)⟩
        by_cases hy0 : y < 0
        · have HF := hid (BAD.out (by rw [HAT.out, decide_eq_false (by omega : ¬ 0 ≤ y)]; rfl) wr HBr.out)
          clear HAT BAD HNO HST HOR HC1
          go_wp2_with fail
          refine bodyPost_ret (results_tmp3 rfl _ _ _) rfl ?_
          exact HF.out
        · by_cases hyn : n ≤ y
          · have HF := hid (BAD.out (by rw [HAT.out, decide_eq_false (by omega : ¬ y < n)]; simp) wr HBr.out)
            clear HAT BAD HNO HST HOR HC1
            go_wp2_with fail
            refine bodyPost_ret (results_tmp3 rfl _ _ _) rfl ?_
            exact HF.out
          · obtain ⟨j, rfl⟩ : ∃ j : Nat, y = (j : Int) := ⟨y.toNat, by omega⟩
            have hj : j < 16 := by omega
            have ho : orT ys k < 65536 := Nat.lt_of_lt_of_le HOL.out (Nat.le_trans (Nat.pow_le_pow_right (by decide) (by omega : n.toNat ≤ 16)) (by decide))
            have hp : 2 ^ j < 65536 := Nat.lt_of_lt_of_le (Nat.pow_lt_pow_right (by decide) hj) (by decide)
            have HONE := hid (ON.out j)
            rw [Int.toNat_natCast] at HOR
            have hor := or16 ho hp
            generalize orT ys k = o at *
            generalize 2 ^ j = t at *
            have HQ : Hid (orT ys (k + 1) = o ||| t) := HOR.out
            clear HOR
            generalize o ||| t = q at *
            by_cases hk0 : k = 0
            · subst hk0
              have HA2 : Hid ((List.range (0 + 1)).all (okAt n ys) = true) := by
                show _ = _
                rw [HST.out, HA.out, HAT.out, decide_eq_true (by omega : 0 ≤ (j : Int)), decide_eq_true (by omega : (j : Int) < n)]; rfl
              clear HAT BAD HNO HST HC1
              go_wp2_with (first | (go_at_call 52; refine (HONE.out _ hj).mono ?_; rintro e w7 ⟨rfl, hb7⟩; have HB7 := hid hb7; clear hb7) | fail)
              go_roundw
              case rel => exact ⟨1, by go_num, by omega, by rw [show orT ys 1 = q from HQ.out], HA2, below_step HBr.out HB7.out, below_step HBs.out HB7.out⟩
              case measure => simp [intOf]; omega
            · have c1 := HC1.out (by omega)
              have hk1 : 1 ≤ k := by omega
              by_cases hzy : (j : Int) ≤ z
              · have HF := hid (BAD.out (by rw [HAT.out, decide_eq_false (by omega : ¬ z < (j : Int)), beq_eq_false_iff_ne.2 hk0]; simp) wr HBr.out)
                clear HAT BAD HNO HST HC1
                go_wp2_with fail
                refine bodyPost_ret (results_tmp3 rfl _ _ _) rfl ?_
                exact HF.out
              · have HA2 : Hid ((List.range (k + 1)).all (okAt n ys) = true) := by
                  show _ = _
                  rw [HST.out, HA.out, HAT.out, decide_eq_true (by omega : 0 ≤ (j : Int)), decide_eq_true (by omega : (j : Int) < n), decide_eq_true (by omega : z < (j : Int))]; simp
                clear HAT BAD HNO HST HC1
                go_wp2_with (first | (go_at_call 52; refine (HONE.out _ hj).mono ?_; rintro e w7 ⟨rfl, hb7⟩; have HB7 := hid hb7; clear hb7) | fail)
                go_roundw
                case rel => exact ⟨k + 1, by go_num, by omega, by rw [HQ.out], HA2, below_step HBr.out HB7.out, below_step HBs.out HB7.out⟩
                case measure => simp [intOf]; omega
      · have hkm : k = m := by omega
        subst hkm
        have HF : Hid (Memb w n l ys (.returned (.tuple #[.pointer (some ⟨D, 0, none⟩), .int .u16 (orT ys k : Nat), .int .i64 0])) wr) := ⟨HBr.out, .inr (.inr ⟨HVA.out, by unfold okS; rw [← HM.out]; exact HA.out, D, by unfold sv setS; rw [← HM.out], dAt_below HD6.out HBs.out⟩)⟩
        go_wp2_with fail
        refine bodyPost_ret (results_tmp3 rfl _ _ _) rfl ?_
        exact HF.out
end Go.Proofs.Ytaedbkdimpdngaa
