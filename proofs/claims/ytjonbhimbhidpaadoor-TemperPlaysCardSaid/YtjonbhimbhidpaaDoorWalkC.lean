/-
  Walks over chapter 6: all cells are visited, in order, by any closure with a contract.
-/
import Derived.Test.YtjonbhimbhidpaaDoorWalkB
namespace Go.Proofs.YtjonbhimbhidpaaDoor
open Go.RowKit

/-- what a closure does at the i-th cell -/
def VisitC (o : Ov) (g : FuncId) (lb : Array Value) (J : Nat → World → Prop) : Prop :=
  (∀ args w, (callFunc g args).run Tryd.prog w = .ok (.enter g args) w) ∧
  ∀ i W, i < o.N → J i W → Calls Tryd.prog g (#[spv (o.cellAt i)] ++ lb) W fun e W' => e = .returned (.tuple #[]) ∧ J (i + 1) W'

set_option maxHeartbeats 1000000 in
set_option maxRecDepth 100000 in
theorem cells_any (b : Nat) (vs vm vj : Value) (o : Ov) (g : FuncId) (lb : Array Value) (J : Nat → World → Prop) (w : World) (ho : ∀ i W, J i W → OvAt W b vs vm vj o) (hok : o.Ok)
    (h0 : J 0 w) (ht : VisitC o g lb J) :
    Calls Tryd.prog 61 #[.pointer (some ⟨b, 0, none⟩), .func (.func g) #[] lb] w fun e w' => e = .returned (.tuple #[]) ∧ J o.N w' := by
  have ho0 := ho 0 w h0
  obtain ⟨⟨⟨a1, cs, rfl, hsl, hsc⟩, hm, hj⟩, c0, c1, c2, c3, c4⟩ := ho0
  have HT := hid ht
  have HO := hid ho
  have HJ0 := hid h0
  have HOK := hid hok
  obtain ⟨P, hP⟩ : ∃ P, P = o.P := ⟨_, rfl⟩
  obtain ⟨R, hR⟩ : ∃ R, R = o.R := ⟨_, rfl⟩
  obtain ⟨C, hC⟩ : ∃ C, C = o.C := ⟨_, rfl⟩
  have b1 := hok.p
  have b2 := hok.r
  have b3 := hok.c
  rw [← hP] at b1
  rw [← hR] at b2
  rw [← hC] at b3
  rw [show o.safe.length = P from hP.symm] at c0 hsl
  have HP := hid hP
  have HR := hid hR
  have HC := hid hC
  clear ht ho h0 hok hP hR hC hsc hm hj c1 c2 c3 c4
  go_enter Tryd.func61, Tryd.ntmps61
  go_wp2
  go_loopw [4, 13] (fun _ i wr => ∃ p : Nat, p ≤ P ∧ i = .int .i64 p ∧ Hid (J ((p * R + 0) * C + 0) wr)) (fun _ i _ => P - (intOf i).toNat)
  case atStart => exact ⟨0, Nat.zero_le _, rfl, by rw [Nat.zero_mul, Nat.zero_add, Nat.zero_mul]; exact HJ0.out⟩
  case round =>
    obtain ⟨p, hp, rfl, HJ⟩ := hrel
    have hcr := (HO.out _ _ HJ.out).c3
    rw [← HR.out] at hcr
    by_cases hlp : p < P
    · go_wp2
      clear hcr
      go_loopw [5, 20] (fun _ i wr => ∃ y : Nat, y ≤ R ∧ i = .int .i64 y ∧ Hid (J ((p * R + y) * C + 0) wr)) (fun _ i _ => R - (intOf i).toNat)
      case atStart => exact ⟨0, Nat.zero_le _, rfl, HJ.out⟩
      case round =>
        clear HJ
        obtain ⟨y, hy, rfl, HJ⟩ := hrel
        have hcc := (HO.out _ _ HJ.out).c4
        rw [← HC.out] at hcc
        by_cases hly : y < R
        · go_wp2
          clear hcc
          go_loopw [6, 27] (fun _ i wr => ∃ x : Nat, x ≤ C ∧ i = .int .i64 x ∧ Hid (J ((p * R + y) * C + x) wr)) (fun _ i _ => C - (intOf i).toNat)
          case atStart => exact ⟨0, Nat.zero_le _, rfl, HJ.out⟩
          case round =>
            clear HJ
            obtain ⟨x, hx, rfl, HJ⟩ := hrel
            by_cases hlx : x < C
            · have e1 : o.cellAt ((p * R + y) * C + x) = ((p : Int), (x : Int), (y : Int)) := by
                rw [HR.out, HC.out]
                exact cellAt_at o p x y (by rw [← HC.out]; exact hlx) (by rw [← HR.out]; exact hly)
              have e2 : (p * R + y) * C + x < o.N := by
                rw [HR.out, HC.out]
                exact at_lt o p x y (by rw [← HP.out]; exact hlp) (by rw [← HC.out]; exact hlx) (by rw [← HR.out]; exact hly)
              have ct := hid (HT.out.2 _ _ e2 HJ.out)
              rw [e1] at ct
              clear e1 e2
              go_wp2
              rw [HT.out.1]
              go_wp2_with (first | (refine (ct.out).mono ?_; rintro e w3 ⟨rfl, hb3⟩) | fail)
              go_roundw
              case rel => exact ⟨x + 1, by omega, by go_num, hb3⟩
              case measure => simp [intOf]; omega
            · go_wp2
              go_roundw
              case rel =>
                obtain rfl : x = C := by omega
                exact ⟨y + 1, by omega, by go_num, by rw [show ((p * R + (y + 1)) * x + 0) = (p * R + y) * x + x by rw [← Nat.add_assoc, Nat.add_mul (p * R + y) 1]; omega]; exact HJ.out⟩
              case measure => simp [intOf]; omega
        · go_wp2
          go_roundw
          case rel =>
            obtain rfl : y = R := by omega
            exact ⟨p + 1, by omega, by go_num, by rw [show ((p + 1) * y + 0) = p * y + y by rw [Nat.add_mul p 1]; omega]; exact HJ.out⟩
          case measure => simp [intOf]; omega
    · go_wp2
      go_end0
      obtain rfl : p = P := by omega
      refine ⟨rfl, ?_⟩
      have := HJ.out
      unfold Ov.N
      rw [← HP.out, ← HR.out, ← HC.out, ← Nat.mul_assoc]
      simpa using this
end Go.Proofs.YtjonbhimbhidpaaDoor
