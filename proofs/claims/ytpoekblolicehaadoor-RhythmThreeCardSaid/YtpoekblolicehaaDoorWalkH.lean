/-
  The walk over the reference: the runs of a rhythm.
-/
import Derived.Test.YtpoekblolicehaaDoorWalkG
namespace Go.Proofs.YtpoekblolicehaaDoor
open Go.RowKit

theorem rperiod_part (s : ByteArray) (i j : Nat) (q : Int) (p : Nat) (w : World) (hs : s.size ≤ 1000) (hq : q = p) (hp : p ≤ j - i) (hj : j ≤ s.size) :
    Calls Tryd.prog 47 #[.string (s.extract i j), .int .i64 q] w fun e w' => e = .returned (.bool (period (part s.data.toList i j) p)) ∧ ∃ n, w' = w.drewN n := by
  have hz := extract_size s i j hj
  have := rperiod_at (s.extract i j) q p w hq (by omega) (by omega)
  rw [part_eq] at this
  exact this
theorem rfirst_part (s : ByteArray) (i j : Nat) (w : World) (hs : s.size ≤ 1000) (hij : i < j) (hj : j ≤ s.size) :
    Calls Tryd.prog 26 #[.string (s.extract i j)] w fun e w' => ∃ (g n c : Nat), e = .returned (.slice (some ⟨g, 0, none⟩) n c) ∧ 0 < n ∧ g < w'.heap.size ∧ w'.cell? ⟨g, 0, none⟩ = some (.int .i64 (lst s.data.toList i j)) ∧ Hid (Below w.heap.size w w') := by
  have hz := extract_size s i j hj
  have := rperiods_first (s.extract i j) w (by omega) (by omega)
  rw [part_eq] at this
  exact this

set_option maxHeartbeats 1000000 in
set_option maxRecDepth 100000 in
theorem rruns_ok (s : ByteArray) (w : World) (hs : s.size ≤ 1000) :
    Calls Tryd.prog 33 #[.string s] w fun e w' => ∃ v, e = .returned v ∧ OwnR w' w.heap.size v (runs s.data.toList) ∧ Below w.heap.size w w' := by
  go_enter Tryd.func33, Tryd.ntmps33
  go_wp2_with fail
  go_loopg [3, 4] (s.size + 1) (fun g v x wr => ∃ i : Nat, i ≤ s.size ∧ g = s.size + 1 - i ∧ x = .int .i64 i ∧ OwnR wr w.heap.size v (runsTo s.data.toList i) ∧ Below w.heap.size w wr)
  case atStart => exact ⟨0, Nat.zero_le _, by omega, rfl, ownR_made0 _ _ (Nat.le_refl _), (Below.refl _ _).alloc (Nat.le_refl _) _⟩
  case round =>
    obtain ⟨i, hi, hgk, rfl, hown, hbel⟩ := hrel
    have HGK := hid hgk; clear hgk
    have hbz := hbel.size
    have Hown := hid hown; clear hown
    have Hbel := hid hbel; clear hbel
    by_cases hlt : i < s.size
    · go_wp2_with fail
      go_loopg [3, 5] (s.size - 1 - i) (fun g v j wr2 => ∃ d : Nat, d ≤ s.size - 1 - i ∧ g = s.size - 1 - i - d ∧ j = .int .i64 ((i : Int) + 2 + d) ∧ OwnR wr2 w.heap.size v (runsTo s.data.toList i ++ runsIn s.data.toList i d) ∧ Below w.heap.size w wr2)
      case atStart => exact ⟨0, Nat.zero_le _, by omega, by go_num, by simpa [runsIn] using Hown.out, Hbel.out⟩
      case round =>
        obtain ⟨d, hd, hgd, rfl, hown2, hbel2⟩ := hrel
        have HGD := hid hgd; clear hgd
        have hbz2 := hbel2.size
        have Hown2 := hid hown2; clear hown2
        have Hbel2 := hid hbel2; clear hbel2
        by_cases hdl : d < s.size - 1 - i
        · have hL := lst_le s.data.toList i (i + 2 + d) (by omega) (by rw [data_size]; omega)
          have c0 := fun w => rfirst_part s i (i + 2 + d) w hs (by omega) (by omega)
          have hrun : isRun s.data.toList i (i + 2 + d) = (decide (2 * lst s.data.toList i (i + 2 + d) ≤ d + 2) && !(decide (0 < i) && period (part s.data.toList (i - 1) (i + 2 + d)) (lst s.data.toList i (i + 2 + d))) && !(decide (i + 2 + d < s.size) && period (part s.data.toList i (i + 2 + d + 1)) (lst s.data.toList i (i + 2 + d)))) := by
            unfold isRun lft rgt
            rw [show i + 2 + d - i = d + 2 by omega]
            rfl
          have c1 := fun w (h : 0 < i) => rperiod_part s (i - 1) (i + 2 + d) _ (lst s.data.toList i (i + 2 + d)) w hs rfl (by omega) (by omega)
          have c2 := fun w (h : i + 2 + d < s.size) => rperiod_part s i (i + 2 + d + 1) _ (lst s.data.toList i (i + 2 + d)) w hs rfl (by omega) (by omega)
          have hyes : Hid (isRun s.data.toList i (i + 2 + d) = true → runsIn s.data.toList i (d + 1) = runsIn s.data.toList i d ++ [(i, i + 2 + d, lst s.data.toList i (i + 2 + d))]) := runsIn_yes _ _ _
          have hnoo : Hid (isRun s.data.toList i (i + 2 + d) = false → runsIn s.data.toList i (d + 1) = runsIn s.data.toList i d) := runsIn_no _ _ _
          have hlen : Hid ((runsTo s.data.toList i ++ runsIn s.data.toList i d).length < 100000000) := by
            have e1 := runsTo_length s.data.toList i
            have e2 := runsIn_length s.data.toList i d
            rw [data_size] at e1
            have e3 : i * s.size ≤ 1000 * s.size := Nat.mul_le_mul_right _ (by omega)
            unfold Hid
            rw [List.length_append]
            omega
          generalize lst s.data.toList i (i + 2 + d) = p at *
          generalize period (part s.data.toList (i - 1) (i + 2 + d)) p = b1 at *
          generalize period (part s.data.toList i (i + 2 + d + 1)) p = b2 at *
          obtain ⟨hp1, hp2⟩ := hL
          have hp3 : p ≤ d + 2 := by omega
          clear hp2
          have C0 := hid c0
          have C1 := hid c1
          have C2 := hid c2
          have HR := hid hrun
          clear c0 c1 c2 hrun
          have Hst := hid (show ((i : Int) + 2 + d + 1) = (i : Int) + 2 + ((d + 1 : Nat) : Int) by omega)
          go_wp2_with fail
          refine (C0.out _).mono ?_
          rintro e w3 ⟨g, n, c, rfl, hn, hg, hcell, hb3⟩
          have hsz3 := hb3.out.size
          have Hbel3 := hid (Hbel2.out.trans (hb3.out.mono hbz2))
          have Hown3 := hid (ownR_below Hown2.out hb3.out)
          have hbz3 := Nat.le_trans hbz2 hsz3
          clear hb3
          by_cases hw : 2 * p ≤ d + 2
          · have hwd : decide ((i : Int) + 2 + d - i < 2 * (p : Int)) = false := by simp; omega
            by_cases h1 : 0 < i
            · go_wp2_with fail
              refine (C1.out _ h1).mono ?_
              rintro e w4 ⟨rfl, n4, rfl⟩
              cases b1
              · by_cases h2 : i + 2 + d < s.size
                · go_wp2_with fail
                  refine (C2.out _ h2).mono ?_
                  rintro e w5 ⟨rfl, n5, rfl⟩
                  cases b2
                  · go_wp2_with (at_builtin; refine wpl_app_run _ _ _ (i, i + 2 + d, p) (by rfl) (by rfl) (by rfl) (.tmp 63) (.tmp 68) u3 w.heap.size (runsTo s.data.toList i ++ runsIn s.data.toList i d) (by rfl) (by rfl) (by rfl) (by rfl) (by exact Hown3.out) (by exact hlen.out) (by exact hbz3) ?_; intro v' w' hown' hgrow)
                    have Hown' := hid hown'
                    have Hg := hid hgrow
                    clear hown' hgrow
                    go_wp2_with fail
                    go_roundg (s.size - 1 - i - (d + 1))
                    case measure => have := HGD.out; omega
                    case rel =>
                      exact ⟨d + 1, by omega, rfl, by rw [Hst.out], by rw [hyes.out (by rw [HR.out]; simp [hw, h1, h2]), ← List.append_assoc]; exact Hown'.out, (below_drewN_r Hbel3.out _).trans ((Below.refl _ _).alloc (by exact hbz3) _ |>.trans (below_app Hg.out (by simp; omega) (fun k hk => (World.ownsRow.lt Hown3.out k hk).1)))⟩
                  · go_wp2_with fail
                    go_roundg (s.size - 1 - i - (d + 1))
                    case measure => have := HGD.out; omega
                    case rel => exact ⟨d + 1, by omega, rfl, by rw [Hst.out], by rw [hnoo.out (by rw [HR.out]; simp [hw, h1, h2])]; exact Hown3.out, below_drewN_r Hbel3.out _⟩
                · go_wp2_with (at_builtin; refine wpl_app_run _ _ _ (i, i + 2 + d, p) (by rfl) (by rfl) (by rfl) (.tmp 63) (.tmp 68) u3 w.heap.size (runsTo s.data.toList i ++ runsIn s.data.toList i d) (by rfl) (by rfl) (by rfl) (by rfl) (by exact Hown3.out) (by exact hlen.out) (by exact hbz3) ?_; intro v' w' hown' hgrow)
                  have Hown' := hid hown'
                  have Hg := hid hgrow
                  clear hown' hgrow
                  go_wp2_with fail
                  go_roundg (s.size - 1 - i - (d + 1))
                  case measure => have := HGD.out; omega
                  case rel =>
                    exact ⟨d + 1, by omega, rfl, by rw [Hst.out], by rw [hyes.out (by rw [HR.out]; simp [hw, h1, h2]), ← List.append_assoc]; exact Hown'.out, (below_drewN_r Hbel3.out _).trans ((Below.refl _ _).alloc (by exact hbz3) _ |>.trans (below_app Hg.out (by simp; omega) (fun k hk => (World.ownsRow.lt Hown3.out k hk).1)))⟩
              · go_wp2_with fail
                go_roundg (s.size - 1 - i - (d + 1))
                case measure => have := HGD.out; omega
                case rel => exact ⟨d + 1, by omega, rfl, by rw [Hst.out], by rw [hnoo.out (by rw [HR.out]; simp [hw, h1])]; exact Hown3.out, below_drewN_r Hbel3.out _⟩
            · by_cases h2 : i + 2 + d < s.size
              · go_wp2_with fail
                refine (C2.out _ h2).mono ?_
                rintro e w5 ⟨rfl, n5, rfl⟩
                cases b2
                · go_wp2_with (at_builtin; refine wpl_app_run _ _ _ (i, i + 2 + d, p) (by rfl) (by rfl) (by rfl) (.tmp 63) (.tmp 68) u3 w.heap.size (runsTo s.data.toList i ++ runsIn s.data.toList i d) (by rfl) (by rfl) (by rfl) (by rfl) (by exact Hown3.out) (by exact hlen.out) (by exact hbz3) ?_; intro v' w' hown' hgrow)
                  have Hown' := hid hown'
                  have Hg := hid hgrow
                  clear hown' hgrow
                  go_wp2_with fail
                  go_roundg (s.size - 1 - i - (d + 1))
                  case measure => have := HGD.out; omega
                  case rel =>
                    exact ⟨d + 1, by omega, rfl, by rw [Hst.out], by rw [hyes.out (by rw [HR.out]; simp [hw, h1, h2]), ← List.append_assoc]; exact Hown'.out, (below_drewN_r Hbel3.out _).trans ((Below.refl _ _).alloc (by exact hbz3) _ |>.trans (below_app Hg.out (by simp; omega) (fun k hk => (World.ownsRow.lt Hown3.out k hk).1)))⟩
                · go_wp2_with fail
                  go_roundg (s.size - 1 - i - (d + 1))
                  case measure => have := HGD.out; omega
                  case rel => exact ⟨d + 1, by omega, rfl, by rw [Hst.out], by rw [hnoo.out (by rw [HR.out]; simp [hw, h1, h2])]; exact Hown3.out, below_drewN_r Hbel3.out _⟩
              · go_wp2_with (at_builtin; refine wpl_app_run _ _ _ (i, i + 2 + d, p) (by rfl) (by rfl) (by rfl) (.tmp 63) (.tmp 68) u3 w.heap.size (runsTo s.data.toList i ++ runsIn s.data.toList i d) (by rfl) (by rfl) (by rfl) (by rfl) (by exact Hown3.out) (by exact hlen.out) (by exact hbz3) ?_; intro v' w' hown' hgrow)
                have Hown' := hid hown'
                have Hg := hid hgrow
                clear hown' hgrow
                go_wp2_with fail
                go_roundg (s.size - 1 - i - (d + 1))
                case measure => have := HGD.out; omega
                case rel =>
                  exact ⟨d + 1, by omega, rfl, by rw [Hst.out], by rw [hyes.out (by rw [HR.out]; simp [hw, h1, h2]), ← List.append_assoc]; exact Hown'.out, Hbel3.out.trans ((Below.refl _ _).alloc (by exact hbz3) _ |>.trans (below_app Hg.out (by simp; omega) (fun k hk => (World.ownsRow.lt Hown3.out k hk).1)))⟩
          · have hwd : decide ((i : Int) + 2 + d - i < 2 * (p : Int)) = true := by simp; omega
            go_wp2_with fail
            go_roundg (s.size - 1 - i - (d + 1))
            case measure => have := HGD.out; omega
            case rel => exact ⟨d + 1, by omega, rfl, by rw [Hst.out], by rw [hnoo.out (by rw [HR.out]; simp [hw])]; exact Hown3.out, Hbel3.out⟩
        · have hno : ¬ (i : Int) + 2 + d ≤ s.size := by omega
          go_wp2_with fail
          go_roundg (s.size + 1 - (i + 1))
          case measure => have := HGK.out; omega
          case rel =>
            obtain rfl : d = s.size - 1 - i := by omega
            exact ⟨i + 1, by omega, rfl, by go_num, by rw [runsTo_succ]; exact Hown2.out, Hbel2.out⟩
    · go_wp2_with fail
      go_ret
      obtain rfl : i = s.size := by omega
      exact ⟨_, rfl, Hown.out, Hbel.out⟩
end Go.Proofs.YtpoekblolicehaaDoor
