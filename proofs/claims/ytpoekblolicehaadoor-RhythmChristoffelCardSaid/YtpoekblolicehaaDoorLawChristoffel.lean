/-
  The statement RhythmChristoffel: the law answers true for all numbers.
-/
import Derived.Test.YtpoekblolicehaaDoorLawBalances
import Derived.Test.YtpoekblolicehaaDoorPlainL
import Derived.Test.YtpoekblolicehaaDoorLawTwo
import Derived.Deep.RegionHeld3
import Derived.Deep.DrawnRows
import Derived.Test.YtpoekblolicehaaDoorWalkO
namespace Go.Proofs.YtpoekblolicehaaDoor
open Go.RowKit

attribute [local go_sem ↓] Go.wp_at_zero Go.wp_at_succ
theorem even_letters (p q : Nat) : (even p q).all letter = true := by
  rw [List.all_eq_true]
  intro c hc
  unfold even evenTo at hc
  obtain ⟨i, _, rfl⟩ := List.mem_map.1 hc
  unfold evl
  split <;> decide

set_option maxHeartbeats 1000000 in
set_option maxRecDepth 100000 in
theorem RhythmChristoffel_ok (p q : Int) (w : World) (hp : (Lit.int .u8 p).wf = true) (hq : (Lit.int .u8 q).wf = true) :
    Calls Tryd.prog 18 #[.int .u8 p, .int .u8 q] w fun e w' => e = .returned (.bool true) ∧ Below w.heap.size w w' := by
  have cL := hid lives_any
  obtain ⟨p0, p1⟩ := wf_u8 hp
  obtain ⟨q0, q1⟩ := wf_u8 hq
  clear hp hq
  obtain ⟨a, ha⟩ : ∃ a : Nat, p % 100 = a := ⟨(p % 100).toNat, by omega⟩
  obtain ⟨b, hb⟩ : ∃ b : Nat, q % 100 = b := ⟨(q % 100).toNat, by omega⟩
  have ha1 : a ≤ 99 := by omega
  have hb1 : b ≤ 99 := by omega
  have cG := fun w => gcd_any ((a : Int) + 1) ((b : Int) + 1) w (by omega) (by omega) (by omega) (by omega)
  rw [show ((a : Int) + 1).toNat = a + 1 by omega, show ((b : Int) + 1).toNat = b + 1 by omega] at cG
  have hg1 : 1 ≤ Nat.gcd (a + 1) (b + 1) := Nat.gcd_pos_of_pos_left _ (by omega)
  obtain ⟨A, hA⟩ := Nat.gcd_dvd_left (a + 1) (b + 1)
  obtain ⟨B, hB⟩ := Nat.gcd_dvd_right (a + 1) (b + 1)
  have hAB : Nat.gcd A B = 1 := by
    have : Nat.gcd (Nat.gcd (a + 1) (b + 1) * A) (Nat.gcd (a + 1) (b + 1) * B) = Nat.gcd (a + 1) (b + 1) * 1 := by
      rw [← hA, ← hB, Nat.mul_one]
    rw [Nat.gcd_mul_left] at this
    exact Nat.eq_of_mul_eq_mul_left hg1 this
  generalize Nat.gcd (a + 1) (b + 1) = g at *
  have hA1 : 1 ≤ A := Nat.pos_of_ne_zero (by rintro rfl; simp at hA)
  have hB1 : 1 ≤ B := Nat.pos_of_ne_zero (by rintro rfl; simp at hB)
  have hA2 : A ≤ a + 1 := by rw [hA]; exact Nat.le_mul_of_pos_left _ hg1
  have hB2 : B ≤ b + 1 := by rw [hB]; exact Nat.le_mul_of_pos_left _ hg1
  have hg2 : g ≤ a + 1 := by rw [hA]; exact Nat.le_mul_of_pos_right _ hA1
  have dA : ((a : Int) + 1) / (g : Int) = (A : Int) := by
    rw [show (a : Int) + 1 = ((a + 1 : Nat) : Int) from rfl, hA]
    rw [← Int.natCast_ediv, Nat.mul_div_cancel_left _ hg1]
  have dB : ((b : Int) + 1) / (g : Int) = (B : Int) := by
    rw [show (b : Int) + 1 = ((b + 1 : Nat) : Int) from rfl, hB]
    rw [← Int.natCast_ediv, Nat.mul_div_cancel_left _ hg1]
  have cE := hid (fun w => even_ok A B w hA1 hB1 (by omega) hAB)
  have hgq : Nat.gcd B (A + B) = 1 := by rw [Nat.gcd_add_self_right, Nat.gcd_comm]; exact hAB
  obtain ⟨s, hs⟩ : ∃ s : ByteArray, s = ⟨(even A B).toArray⟩ := ⟨_, rfl⟩
  rw [← hs] at cE
  have hsl : s.data.toList = even A B := by rw [hs]
  have hsz : s.size = A + B := by rw [← data_size, hsl, even_length]
  have hsc : chk s.data.toList = 0 := by
    rw [hsl, chk_good (by rw [even_length]; omega) (even_letters A B), if_neg]
    intro h
    have := congrArg List.length (List.isEmpty_iff.1 h)
    rw [even_length] at this
    simp at this; omega
  have cB := fun w => bs_any s w (by omega)
  rw [hsl, even_bs A B hA1] at cB
  have cBal := fun w => balanced_any s w (by omega)
  have cLy := fun w => lyndon_fin s w (by omega)
  simp only [hsc, if_true] at cBal cLy
  rw [hsl, even_balanced A B hA1] at cBal
  rw [hsl, lyn_self _ (even_lyn A B hA1 hB1 hgq)] at cLy
  have F1 := hid (fun i (h1 : 1 ≤ i) (h2 : i + 1 < A + B) (hi : i < s.size) (hj : s.size - 1 - i < s.size) => show (s[i]'hi) = (s[s.size - 1 - i]'hj) by
    have e1 : some (s[i]'hi) = some (evl A B i) := by
      rw [← even_at A B i (by omega), ← hsl]
      exact (List.getElem?_eq_getElem (by rw [data_size]; exact hi)).symm
    have e2 : some (s[s.size - 1 - i]'hj) = some (evl A B (s.size - 1 - i)) := by
      rw [← even_at A B (s.size - 1 - i) (by omega), ← hsl]
      exact (List.getElem?_eq_getElem (by rw [data_size]; exact hj)).symm
    rw [Option.some.inj e1, Option.some.inj e2, even_pal A B i hA1 hgq h1 h2, hsz])
  have CG := hid cG
  have CB := hid cB
  have CBal := hid cBal
  have CLy := hid cLy
  have HA := hid ha
  have HB := hid hb
  have y6 : IntKind.i64.wrap (A : Int) = A := IntWalk.i64_in _ (by omega)
  have y7 : IntKind.i64.wrap (B : Int) = B := IntWalk.i64_in _ (by omega)
  have z2 : IntKind.i64.wrap ((A : Int) + B) = (A : Int) + B := IntWalk.i64_in _ (by omega)
  have hss : s.size ≤ 200 := by omega
  clear hsc hsl hs hgq hAB hA hB cG cB cBal cLy hA2 hB2
  have hsA : (s.size : Int) = (A : Int) + B := by omega
  have HSA := hid hsA
  clear hsA
  have x1 : IntKind.i64.wrap ((a : Int) + 1) = (a : Int) + 1 := IntWalk.i64_in _ (by omega)
  have x2 : IntKind.i64.wrap ((b : Int) + 1) = (b : Int) + 1 := IntWalk.i64_in _ (by omega)
  have y1 : ((g : Int) == 0) = false := by simp; omega
  have y2 : ¬ (g : Int) = 0 := by omega
  have y3 : g ≠ 0 := by omega
  have y4 : (g == 0) = false := by simp; omega
  have y5 : ((g : Int) == -1) = false := by rw [beq_eq_false_iff_ne]; omega
  have z1 : ((s.size : Int) == (A : Int) + B) = true := by rw [HSA.out]; simp
  have z3 : ((B : Int) == (B : Int)) = true := by simp
  have y8 : Int.tdiv ((a : Int) + 1) (g : Int) = (A : Int) := by rw [Int.tdiv_eq_ediv_of_nonneg (by omega)]; exact dA
  have y9 : Int.tdiv ((b : Int) + 1) (g : Int) = (B : Int) := by rw [Int.tdiv_eq_ediv_of_nonneg (by omega)]; exact dB
  go_enter Tryd.func18, Tryd.ntmps18
  go_wp2_with fail
  refine (CG.out _).mono ?_
  rintro e w1 ⟨rfl, n1, rfl⟩
  go_upto_region 3 with fail
  go_cut [8, 9] (fun s' e' wx => s' = .string s ∧ e' = .int .i64 0 ∧ Hid (Below w.heap.size w wx))
  case first =>
    go_region_held3 (fun _ => True) (trivial) ((go_at_call 34; refine (cE.out _).mono ?_; rintro e w2 ⟨rfl, hb2⟩))
    all_goals (go_wp2_with fail; go_meet)
    all_goals exact ⟨rfl, rfl, below_of_drewN (by first | exact hb2 | exact below_of_drewN hb2)⟩
  case rest =>
    obtain ⟨rfl, rfl, HB2⟩ := hcut
    go_upto_region 4 with fail
    go_cut [61] (fun r wx => r = .bool false ∧ Hid (Below w.heap.size w wx))
    case first =>
      go_region_held3 (fun _ => True) (trivial) ((first | (go_at_call 54; refine (CB.out _).mono ?_; rintro e w3 ⟨rfl, n3, rfl⟩) | (go_at_call 24; refine (cL.out _).mono ?_; rintro e w4 ⟨rfl, hb4⟩)))
      all_goals (go_wp2_with fail; go_meet)
      exact ⟨rfl, HB2.out.trans ((below_of_drewN hb4).mono HB2.out.size)⟩
    case rest =>
      obtain ⟨rfl, HB3⟩ := hcut
      clear z1
      have hss2 : 2 ≤ s.size := by omega
      have HSZ := hid hsz
      clear hsz
      go_wp2_with fail
      refine (CBal.out _).mono ?_
      rintro e w5 ⟨rfl, hb5⟩
      have HB5 := hid (HB3.out.trans (hb5.mono HB3.out.size))
      clear hb5
      go_wp2_with fail
      refine (CLy.out _).mono ?_
      rintro e w6 ⟨v, rfl, hv, hb6⟩
      have HB6 := hid (HB5.out.trans ((by first | exact hb6 | exact below_of_drewN hb6 : Below w5.heap.size w5 w6).mono HB5.out.size))
      obtain ⟨va, vc, rfl, hvl, hvc⟩ := hv
      clear hb6 hvl hvc
      have hone : (([even A B].length : Nat) : Int) = 1 := rfl
      go_wp2_with fail
      go_loopg [14] (s.size - 1) (fun g i wr => ∃ x : Nat, 1 ≤ x ∧ x ≤ s.size ∧ g = s.size - x ∧ i = .int .i64 (x : Int) ∧ ∃ m, wr = w6.drewN m)
      case atStart => exact ⟨1, by omega, by omega, by omega, rfl, 0, rfl⟩
      case round =>
        obtain ⟨x, hx1, hx, hgx, rfl, m, rfl⟩ := hrel
        have HGX := hid hgx; clear hgx
        have v1 : IntKind.i64.wrap ((s.size : Int) - 1) = (s.size : Int) - 1 := IntWalk.i64_in _ (by omega)
        by_cases hxl : x + 1 < s.size
        · have v2 : (x : Int) < (s.size : Int) - 1 := by omega
          obtain ⟨y, hy⟩ : ∃ y, y = s.size - 1 - x := ⟨_, rfl⟩
          have v3 : (s.size : Int) - 1 - (x : Int) = (y : Int) := by omega
          have v4 : IntKind.i64.wrap (y : Int) = y := IntWalk.i64_in _ (by omega)
          have v5 : (y : Int) < s.size := by omega
          have v6 : (x : Int) < s.size := by omega
          have hyl : y < s.size := by omega
          have hxs : x < s.size := by omega
          have v7 : (s[x]'hxs) = (s[y]'hyl) := by
            have := F1.out x hx1 (by have := HSZ.out; omega) hxs (by omega)
            rw [this]; congr 1; exact hy.symm
          have v8 : ((s[x]'hxs).toNat == (s[y]'hyl).toNat) = true := by rw [v7]; simp
          have HY := hid hy
          clear hy v7
          go_wp2_with fail
          go_quiet (fail)
          go_wp2_with fail
          go_roundg (s.size - (x + 1))
          case measure => have := HGX.out; omega
          case rel => exact ⟨x + 1, by omega, by omega, rfl, by go_num, (by first | exact ⟨_, rfl⟩ | exact drew2 _ _ _)⟩
        · have v2 : ¬ (x : Int) < (s.size : Int) - 1 := by omega
          have v9 : decide ((x : Int) < (s.size : Int) - 1) = false := by simp; omega
          go_wp2_with fail
          go_ret
          exact ⟨rfl, below_drewN_r HB6.out _⟩
end Go.Proofs.YtpoekblolicehaaDoor
