/-
  Walks over chapter 6: Kernel.
-/
import Derived.Test.YtjonbhimbhidpaaDoorBaseD
namespace Go.Proofs.YtjonbhimbhidpaaDoor
open Go.RowKit

def Ov.rowTo (S : Sp → Bool) (p y n : Nat) : Str := (List.range n).map fun x : Nat => letterB (S ((p : Int), (x : Int), (y : Int)))
def Ov.phTo (o : Ov) (S : Sp → Bool) (p n : Nat) : List Str := (List.range n).map (o.rowG S p)
def Ov.grTo (o : Ov) (S : Sp → Bool) (n : Nat) : Grid := (List.range n).map (o.phG S)
theorem rowTo_succ (S : Sp → Bool) (p y n : Nat) : Ov.rowTo S p y (n + 1) = Ov.rowTo S p y n ++ [letterB (S ((p : Int), (n : Int), (y : Int)))] := by simp [Ov.rowTo, List.range_succ]
theorem phTo_succ (o : Ov) (S : Sp → Bool) (p n : Nat) : o.phTo S p (n + 1) = o.phTo S p n ++ [o.rowG S p n] := by simp [Ov.phTo, List.range_succ]
theorem grTo_succ (o : Ov) (S : Sp → Bool) (n : Nat) : o.grTo S (n + 1) = o.grTo S n ++ [o.phG S n] := by simp [Ov.grTo, List.range_succ]
theorem rowTo_len (S : Sp → Bool) (p y n : Nat) : (Ov.rowTo S p y n).length = n := by simp [Ov.rowTo]
theorem phTo_len (o : Ov) (S : Sp → Bool) (p n : Nat) : (o.phTo S p n).length = n := by simp [Ov.phTo]
theorem grTo_len (o : Ov) (S : Sp → Bool) (n : Nat) : (o.grTo S n).length = n := by simp [Ov.grTo]
theorem bytes_letter (l : Str) (b : Bool) : Lib.byteCells (l ++ [letterB b]) = Lib.byteCells l ++ [.int .u8 (if b then 46 else 35)] := by
  rw [Lib.byteCells_append]; cases b <;> rfl
theorem ownG_shape {w : World} {B n : Nat} {v : Value} {o : Ov} {S : Sp → Bool} (h : OwnG w B v (o.grTo S n)) : ∃ a c, v = .slice a n c := by
  obtain ⟨a, c, h⟩ := ownG_slice h
  rw [grTo_len] at h
  exact ⟨a, c, h⟩
theorem ownT_shape {w : World} {B p n : Nat} {v : Value} {o : Ov} {S : Sp → Bool} (h : OwnT w B v (o.phTo S p n)) : ∃ a c, v = .slice a n c := by
  obtain ⟨a, c, h⟩ := ownT_slice h
  rw [phTo_len] at h
  exact ⟨a, c, h⟩
theorem builder_start (w : World) : Lib.IsBuilder 105 5 w.heap.size w.heap.size (Lib.byteCells []) (w.alloc (.cells #[.pointer none, .slice none 0 0] 105)) :=
  .inl ⟨Nat.le_refl _, .slice none 0 0, heap_alloc_new w _, World.ownsRow_nil _ _ _ _, by simp [Value.ownBlock]⟩

/-- what Kernel returns -/
def KernelR (w : World) (o : Ov) (e : Ending) (w' : World) : Prop :=
  Below w.heap.size w w' ∧ if o.valid = true then ∃ v, e = .returned (.tuple #[v, .int .i64 0]) ∧ OwnG w' w.heap.size v (o.gridOf o.KK) else e = .returned (.tuple #[.slice none 0 0, .int .i64 1])

set_option maxHeartbeats 4000000 in
set_option maxRecDepth 100000 in
theorem kernelP_any (vs vm vj : Value) (o : Ov) (w : World) (ho : IsOv w vs vm vj o) (hn : o.Num) :
    Calls Tryd.prog 25 #[.agg #[vs, vm, vj]] w (KernelR w o) := by
  have HO := hid ho
  have cr := hid (read_any _ _ _ o _ (isOv_below ho ((Below.refl w.heap.size w).alloc (Nat.le_refl _) (.cells #[vs, vm, vj] 26))) hn)
  obtain ⟨⟨av, cv, rfl, _, _⟩, _, _⟩ := ho
  have HB : Hid (Below w.heap.size w (w.alloc (.cells #[.slice av o.safe.length cv, vm, vj] 26))) := (Below.refl w.heap.size w).alloc (Nat.le_refl _) _
  obtain ⟨P, hP⟩ : ∃ P, P = o.P := ⟨_, rfl⟩
  rw [show o.safe.length = P from hP.symm] at cr HB HO ⊢
  have HP := hid hP
  obtain ⟨W, hW⟩ : ∃ W, W = (w.alloc (.cells #[.slice av P cv, vm, vj] 26)) := ⟨_, rfl⟩
  rw [← hW] at cr HB
  have HW := hid hW
  clear hn hW hP
  cases hv : o.valid
  · have HV := hid hv
    have cr2 : Hid (Calls Tryd.prog 51 #[.agg #[.slice av P cv, vm, vj]] W (fun e w' => e = .returned (.tuple #[.pointer none, .bool false]) ∧ Below W.heap.size W w')) := (cr.out).mono (by
      rintro e w4 ⟨hb4, h4⟩
      rw [hv, if_neg (by decide)] at h4
      exact ⟨h4, hb4⟩)
    clear hv cr
    go_enter Tryd.func25, Tryd.ntmps25
    go_wp2_with (first | (go_at_call 51; rw [← HW.out]; refine (cr2.out).mono ?_; rintro e w4 ⟨rfl, hb4⟩; have HB4 := hid hb4; clear hb4) | fail)
    go_ret2
    refine ⟨HB.out.trans (HB4.out.mono HB.out.size), ?_⟩
    rw [if_neg (by rw [HV.out]; decide)]
    rfl
  · have HV := hid hv
    have HOK := hid (ok_of_valid hv)
    have cr2 : Hid (Calls Tryd.prog 51 #[.agg #[.slice av P cv, vm, vj]] W (fun e w' => ∃ xb, e = .returned (.tuple #[.pointer (some ⟨xb, 0, none⟩), .bool true]) ∧ OvAt w' xb (.slice av P cv) vm vj o ∧ Below W.heap.size W w')) := (cr.out).mono (by
      rintro e w4 ⟨hb4, h4⟩
      rw [hv, if_pos rfl] at h4
      obtain ⟨xb, h5, h6⟩ := h4
      exact ⟨xb, h5, h6, hb4⟩)
    clear hv cr
    obtain ⟨R, hR⟩ : ∃ R, R = o.R := ⟨_, rfl⟩
    obtain ⟨C, hC⟩ : ∃ C, C = o.C := ⟨_, rfl⟩
    have b1 := HOK.out.p
    have b2 := HOK.out.r
    have b3 := HOK.out.c
    rw [← HP.out] at b1
    rw [← hR] at b2
    rw [← hC] at b3
    have HR := hid hR
    have HC := hid hC
    clear hR hC
    go_enter Tryd.func25, Tryd.ntmps25
    go_wp2_with (first
      | (go_at_call 51; rw [← HW.out]; refine (cr2.out).mono ?_; rintro e w4 ⟨xb, rfl, hov, hb4⟩; have HOV := hid hov; have HB4 := hid hb4; clear hb4 hov)
      | (go_at_call 45; refine (kernel_kk xb _ vm vj o _ HOV.out HOK.out).mono ?_; rintro e w5 ⟨m, ml, n, rfl, hS, hN, hb5⟩; have HS := hid hS; have HOV5 := hid (ovAt_below HOV.out hb5); have HB5 := hid (HB.out.trans ((HB4.out.trans (hb5.mono HB4.out.size)).mono HB.out.size)); have d0 := HOV5.out.c0; clear hS hN hb5)
      | fail)
    have hxl := ovAt_lt HOV5.out
    have HXL := hid hxl
    clear hxl d0
    go_loopw [8, 32] (fun v8 i wr => ∃ (p : Nat) (a8 : Option Addr) (c8 : Nat), i = .int .i64 p ∧ v8 = .slice a8 p c8 ∧ p ≤ P ∧ Hid (OwnG wr w5.heap.size (.slice a8 p c8) (o.grTo o.KK p)) ∧ Hid (Below w5.heap.size w5 wr)) (fun _ i _ => P - (intOf i).toNat)
    case atStart => exact ⟨0, none, 0, rfl, rfl, Nat.zero_le _, ownG_nil _ _, Below.refl _ _⟩
    case round =>
      obtain ⟨p, a8, c8, rfl, rfl, hp, HG, HBr⟩ := hrel
      rename World => wo
      by_cases hlp : p < P
      · have d3 := (ovAt_below HOV5.out HBr.out).c3
        rw [← HR.out] at d3
        go_wp2
        clear d3
        go_loopw [10, 39] (fun v10 i wy => ∃ (y : Nat) (a10 : Option Addr) (c10 : Nat), i = .int .i64 y ∧ v10 = .slice a10 y c10 ∧ y ≤ R ∧ Hid (OwnT wy wo.heap.size (.slice a10 y c10) (o.phTo o.KK p y)) ∧ Hid (Below wo.heap.size wo wy)) (fun _ i _ => R - (intOf i).toNat)
        case atStart => exact ⟨0, none, 0, rfl, rfl, Nat.zero_le _, ownT_nil _ _, Below.refl _ _⟩
        case round =>
          obtain ⟨y, a10, c10, rfl, rfl, hy, HT, HBy⟩ := hrel
          rename World => wy
          by_cases hly : y < R
          · have HB5y := hid (HBr.out.trans (HBy.out.mono HBr.out.size))
            have d4 := (ovAt_below HOV5.out HB5y.out).c4
            rw [← HC.out] at d4
            have hxy : xb < wy.heap.size := Nat.lt_of_lt_of_le HXL.out HB5y.out.size
            go_wp2
            clear d4
            have HBz : Hid (Below wy.heap.size wy (wy.alloc (.cells #[.pointer none, .slice none 0 0] 105))) := (Below.refl _ _).alloc (Nat.le_refl _) _
            have HBS := hid (builder_start wy)
            go_loopw [46] (fun i wx => ∃ x : Nat, i = .int .i64 x ∧ x ≤ C ∧ Hid (Lib.IsBuilder 105 5 wy.heap.size wy.heap.size (Lib.byteCells (Ov.rowTo o.KK p y x)) wx) ∧ Hid (Below wy.heap.size wy wx)) (fun i _ => C - (intOf i).toNat)
            case atStart => exact ⟨0, rfl, Nat.zero_le _, HBS, HBz⟩
            case round =>
              obtain ⟨x, rfl, hx, HBX, HBx⟩ := hrel
              rename World => wx
              by_cases hlx : x < C
              · have HB5x := hid (HB5y.out.trans (HBx.out.mono HB5y.out.size))
                have hex : o.ex ((p : Int), (x : Int), (y : Int)) = true := by
                  unfold Ov.ex; rw [← HP.out, ← HR.out, ← HC.out]; exact decide_eq_true (by simp only; omega)
                have hlk := setW_look (setW_below HS.out HB5x.out (setW_lt HS.out)) (ex_inR HOK.out hex)
                rw [show decide (((p : Int), (x : Int), (y : Int)) ∈ o.cells.filter o.KK) = o.KK ((p : Int), (x : Int), (y : Int)) from congrFun (dec_KK o) _] at hlk
                unfold spv at hlk
                simp only at hlk
                have hw := fun c => hid (Tryd.Builder_WriteByte wy.heap.size wy.heap.size (Lib.byteCells (Ov.rowTo o.KK p y x)) c wx HBX.out (by rw [Lib.byteCells_length, rowTo_len]; omega) HBx.out.size)
                have HSU := hid (rowTo_succ o.KK p y x)
                clear hex
                generalize o.KK ((p : Int), (x : Int), (y : Int)) = t at *
                have HBL := hid (bytes_letter (Ov.rowTo o.KK p y x) t)
                cases t
                · go_wp2_with (first | (go_at_call 52; refine ((hw _).out).mono ?_; rintro e w6 ⟨rfl, hbu, hb6⟩; have HBU := hid hbu; have HB6 := hid hb6; clear hbu hb6) | fail)
                  go_roundw
                  case rel => exact ⟨x + 1, by go_num, by omega, .inr (by rw [HSU.out, HBL.out]; exact HBU.out), HBx.out.trans HB6.out⟩
                  case measure => simp [intOf]; omega
                · go_wp2_with (first | (go_at_call 52; refine ((hw _).out).mono ?_; rintro e w6 ⟨rfl, hbu, hb6⟩; have HBU := hid hbu; have HB6 := hid hb6; clear hbu hb6) | fail)
                  go_roundw
                  case rel => exact ⟨x + 1, by go_num, by omega, .inr (by rw [HSU.out, HBL.out]; exact HBU.out), HBx.out.trans HB6.out⟩
                  case measure => simp [intOf]; omega
              · obtain rfl : x = C := by omega
                have hst := hid (Tryd.Builder_String_any _ _ _ _ HBX.out HBx.out.size)
                have HL : Hid (Ov.rowTo o.KK p y x = o.rowG o.KK p y) := by show _ = _; unfold Ov.rowG; rw [← HC.out]; rfl
                go_wp2_with (first
                  | (go_at_call 53; refine (hst.out).mono ?_; rintro e w6 ⟨rfl, hb6⟩; rw [HL.out]; have HB6 := hid (HBx.out.trans hb6); have HT6 := hid (ownT_below HT.out HB6.out); clear hb6)
                  | (at_builtin; refine wpl_app_str (o.rowG o.KK p y) _ _ (.slice a10 y c10) wo.heap.size (o.phTo o.KK p y) (by rfl) (by rfl) (by rfl) (by rfl) HT6.out (by rw [phTo_len]; omega) (Nat.le_trans HBy.out.size HB6.out.size) ?_; intro v' w7 ho7 hb7; rw [← phTo_succ] at ho7; obtain ⟨sa, sc, rfl⟩ := ownT_shape ho7; have HO7 := hid ho7; have HB7 := hid hb7; clear ho7 hb7)
                  | fail)
                go_roundw
                case rel => exact ⟨y + 1, sa, sc, by go_num, rfl, by omega, HO7, (HBy.out.trans (HB6.out.mono HBy.out.size)).trans HB7.out⟩
                case measure => simp [intOf]; omega
          · obtain rfl : y = R := by omega
            have HL : Hid (o.phTo o.KK p y = o.phG o.KK p) := by show _ = _; unfold Ov.phG; rw [← HR.out]; rfl
            have HB5y := hid (HBr.out.trans (HBy.out.mono HBr.out.size))
            have hsz5 := HB5.out.size
            have HGy := hid (ownG_below HG.out HBy.out)
            have HTy : Hid (OwnT wy w5.heap.size (.slice a10 y c10) (o.phG o.KK p)) := by
              have := HT.out
              rw [HL.out] at this
              exact ownT_mono this HBr.out.size
            go_wp2_with (first
              | (at_builtin; refine wpl_app_row (.slice a10 y c10) (o.phG o.KK p) _ _ (.slice a8 p c8) w5.heap.size (o.grTo o.KK p) (by rfl) (by rfl) (by rfl) (by rfl) HGy.out HTy.out (by rw [grTo_len]; omega) HB5y.out.size ?_; intro v' w7 ho7 hb7; rw [← grTo_succ] at ho7; obtain ⟨sa, sc, rfl⟩ := ownG_shape ho7; have HO7 := hid ho7; have HB7 := hid hb7; clear ho7 hb7)
              | fail)
            go_roundw
            case rel => exact ⟨p + 1, sa, sc, by go_num, rfl, by omega, HO7, HB5y.out.trans HB7.out⟩
            case measure => simp [intOf]; omega
      · obtain rfl : p = P := by omega
        have HL : Hid (o.grTo o.KK p = o.gridOf o.KK) := by show _ = _; unfold Ov.gridOf; rw [← HP.out]; rfl
        go_wp2
        go_ret2
        refine ⟨HB5.out.trans (HBr.out.mono HB5.out.size), ?_⟩
        rw [if_pos HV.out]
        refine ⟨_, rfl, ?_⟩
        have := HG.out
        rw [HL.out] at this
        exact ownG_mono this HB5.out.size
end Go.Proofs.YtjonbhimbhidpaaDoor
