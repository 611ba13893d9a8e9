/-
  The statement RhythmWords: the law answers true for all bytes.
-/
import Derived.Test.YtpoekblolicehaaDoorWalkO
import Derived.Test.YtpoekblolicehaaDoorPlainI
import Derived.Test.YtpoekblolicehaaDoorLawTwo
namespace Go.Proofs.YtpoekblolicehaaDoor
open Go.RowKit

theorem flat_take (l : List Str) (x : Nat) (h : x < l.length) : (l.take (x + 1)).flatten = (l.take x).flatten ++ sx l x := by
  rw [List.take_succ_eq_append_getElem h, List.flatten_append, List.flatten_cons, List.flatten_nil, List.append_nil]
  simp [sx, h]
theorem flat_le (l : List Str) (x : Nat) : (l.take x).flatten.length ≤ l.flatten.length := by
  conv => rhs; rw [← List.take_append_drop x l]
  rw [List.flatten_append, List.length_append]
  omega
/-- a quiet call inside a first region that draws -/
theorem quiet_one {P : Program} {f : FuncId} {args : Array Value} {w : World} {n : Nat} {v : Value}
    (h : Calls P f args (w.drewN n) fun e w' => e = .returned v ∧ ∃ m, w' = (w.drewN n).drewN m) :
    Calls P f args (w.drewN n) fun e w'' => e = .returned v ∧ ∃ m, w'' = w.drewN m :=
  h.mono fun _ _ ⟨he, m, hm⟩ => ⟨he, n + m, by rw [hm, World.drewN_drewN]⟩
/-- what the law asks of each word -/
theorem words_at (S : Str) (hc : chk S = 0) (x : Nat) (hx : x < (lyn S).length) :
    isLyn (sx (lyn S) x) = true ∧ (sx (lyn S) x).length ≤ 200 ∧ chk (sx (lyn S) x) = 0 ∧ lyn (sx (lyn S) x) = [sx (lyn S) x] := by
  obtain ⟨h1, h2, h3⟩ := chk_ok hc
  have hm : sx (lyn S) x ∈ lyn S := by
    unfold sx
    rw [List.getD_eq_getElem?_getD, List.getElem?_eq_getElem hx]
    simp
  obtain ⟨a, b, c⟩ := lyn_all _ S (Nat.le_refl _) _ hm
  have hp := ((isLyn_iff _).1 a).1
  refine ⟨a, by omega, ?_, lyn_self _ a⟩
  rw [chk_good (by omega) (c _ h3), if_neg]
  intro h
  rw [List.isEmpty_iff.1 h] at hp
  simp at hp

set_option maxHeartbeats 1000000 in
set_option maxRecDepth 100000 in
theorem RhythmWords_ok (a : Option Addr) (len cap : Nat) (zs : List Int) (w : World) (hr : IsRow .u8 w a len cap zs) :
    Calls Tryd.prog 13 #[.slice a len cap] w fun e w' => e = .returned (.bool true) ∧ Below w.heap.size w w' := by
  have cM := hid (made_any a len cap zs 200 w hr (by decide) (by decide))
  have cL := hid lives_any
  clear hr
  go_enter Tryd.func13, Tryd.ntmps13
  go_wp2_with fail
  refine cM.out.mono ?_
  rintro e w1 ⟨s, rfl, hs, hsz, n1, rfl⟩
  have h1 : 1 ≤ s.size := chk_pos hs
  have cP := fun w => lyndon_fin s w (by omega)
  simp only [hs, if_true] at cP
  have CP := hid cP
  have F1 := hid (fun x hx => words_at s.data.toList hs x hx)
  have F2 := hid (lyn_flat _ s.data.toList (Nat.le_refl _))
  have F3 : Hid (∀ x, x + 1 < (lyn s.data.toList).length → slt up (sx (lyn s.data.toList) x) (sx (lyn s.data.toList) (x + 1)) = false) := hid (fun x hx => lyn_order _ s.data.toList (Nat.le_refl _) x hx)
  generalize lyn s.data.toList = l at *
  clear cP hs
  go_wp2_with fail
  refine (CP.out _).mono ?_
  rintro e w2 ⟨v, rfl, hv, hb⟩
  have Hv := hid hv
  have Hb := hid (below_of_drewN hb)
  clear hv hb
  obtain ⟨pa, pc, rfl, hl, hc⟩ := Hv.out
  unfold maxLen at hl
  clear hc
  generalize hN : l.length = N at *
  have HN := hid hN
  clear hN
  go_wp2_with fail
  refine (cL.out _).mono ?_
  rintro e w5 ⟨rfl, hb5⟩
  have Hv5 := hid (isStrs_below Hv.out hb5)
  have Hb5 := hid (Hb.out.trans (hb5.mono Hb.out.size))
  clear hb5 Hv Hb
  go_wp2_with fail
  go_loopg [6, 7] N (fun g z i wr => ∃ (x : Nat) (t : ByteArray), x ≤ N ∧ g = N - x ∧ z = .string t ∧ i = .int .i64 x ∧ Hid (t.data.toList = (l.take x).flatten) ∧ Hid (Below w5.heap.size w5 wr))
  case atStart => exact ⟨0, ⟨#[]⟩, by omega, by omega, rfl, rfl, rfl, Below.refl _ _⟩
  case round =>
    obtain ⟨x, t, hx, hgx, rfl, rfl, HT, HB⟩ := hrel
    have HGX := hid hgx; clear hgx
    by_cases hxl : x < N
    · obtain ⟨g1, g2, g3, g4⟩ := F1.out x (by first | exact hxl | (rw [HN.out]; exact hxl))
      have hfl := flat_take l x (by rw [HN.out]; exact hxl)
      have hfl2 := flat_le l (x + 1)
      rw [hfl, F2.out, data_size, List.length_append, ← HT.out, data_size] at hfl2
      have HFL := hid hfl
      have G1 := hid g1
      have G4 := hid g4
      have hzl : (strB (sx l x)).size ≤ 200 := by rw [strB_size]; exact g2
      have hzl2 : t.size + (strB (sx l x)).size ≤ 200 := by rw [strB_size]; omega
      have CZ := hid (fun w => lyndon_fin (strB (sx l x)) w (by omega))
      have CI := hid (fun w => isLyndon_any (strB (sx l x)) w (by omega))
      have HE := hid (show (strB (sx l x)).data.toList = sx l x from strB_list _)
      have HC := hid g3
      clear g1 g2 g3 g4 hfl hfl2
      have HV := hid (isStrs_below Hv5.out HB.out)
      obtain ⟨_, _, he, _, hc⟩ := HV.out
      injection he with e1 e2 e3
      subst e1 e3
      obtain ⟨g, rfl, cl⟩ := hc x (by rw [HN.out]; exact hxl)
      clear hc e2
      have i1 : (x : Int) < N := by omega
      go_wp2_with fail
      have cz := CZ.out
      rw [HE.out, HC.out, if_pos rfl, G4.out] at cz
      refine (cz _).mono ?_
      rintro e w6 ⟨u, rfl, hu, hb6⟩
      have HB6 := hid hb6
      obtain ⟨ua, uc, rfl, _, huc⟩ := hu
      obtain ⟨gu, rfl, cu0⟩ := huc 0 (by simp)
      have cu : w6.cell? ⟨gu, 0, none⟩ = some (.string (strB (sx l x))) := cu0
      clear huc hb6 cz cu0
      have HV6 := hid (isStrs_below HV.out HB6.out)
      obtain ⟨_, _, he, _, hc⟩ := HV6.out
      injection he with e1 e2 e3
      subst e1 e3
      obtain ⟨_, ea, cl6⟩ := hc x (by rw [HN.out]; exact hxl)
      cases ea
      have ci := CI.out
      rw [HE.out, G1.out] at ci
      have CI2 := hid ci
      clear ci
      have hul : (([sx l x].length : Nat) : Int) = 1 := rfl
      cases x with
      | zero =>
        clear hc e2
        generalize strB (sx l 0) = z at *
        have hz : (z.toList == z.toList) = true := by simp
        go_wp2_with fail
        go_quiet ((go_at_call 45; first | exact quiet_add (CI2.out _) | exact quiet_one (CI2.out _)))
        go_wp2_with fail
        go_roundg (N - 1)
        case measure => have := HGX.out; omega
        case rel => exact ⟨1, t ++ z, by omega, rfl, rfl, by go_num, by rw [HFL.out, ByteArray.data_append, Array.toList_append, HT.out, HE.out]; exact hid rfl, below_drewN_r (HB.out.trans (HB6.out.mono HB.out.size)) _⟩
      | succ y =>
        obtain ⟨_, ea, cl7⟩ := hc y (by rw [HN.out]; omega)
        cases ea
        have hlo : Op.bytesLess (strB (sx l y)).toList (strB (sx l (y + 1))).toList = false := by
          rw [bytesLess_slt, strB_toList, strB_toList]
          exact F3.out y (by omega)
        clear hc e2
        generalize strB (sx l (y + 1)) = z at *
        generalize strB (sx l y) = z0 at *
        have hz : (z.toList == z.toList) = true := by simp
        have i2 : IntKind.i64.wrap (y : Int) = y := IntWalk.i64_in _ (by omega)
        have i3 : (y : Int) < N := by omega
        have i4 : (y : Int) + 1 < N := by omega
        have i5 : decide ((0 : Int) < (y : Int) + 1) = true := decide_eq_true (by omega)
        go_wp2_with fail
        go_quiet ((go_at_call 45; first | exact quiet_add (CI2.out _) | exact quiet_one (CI2.out _)))
        go_wp2_with fail
        go_roundg (N - (y + 2))
        case measure => have := HGX.out; omega
        case rel => exact ⟨y + 2, t ++ z, by omega, rfl, rfl, by go_num, by rw [HFL.out, ByteArray.data_append, Array.toList_append, HT.out, HE.out]; exact hid rfl, below_drewN_r (HB.out.trans (HB6.out.mono HB.out.size)) _⟩
    · obtain rfl : x = N := by omega
      have ht : t.data.toList = s.data.toList := by rw [HT.out, List.take_of_length_le (by rw [HN.out]; exact Nat.le_refl _), F2.out]
      have hts : t = s := by rw [← strB_data t, ← strB_data s, ht]
      subst hts
      have hz : (t.toList == t.toList) = true := by simp
      clear ht
      go_wp2_with fail
      go_ret
      exact ⟨rfl, Hb5.out.trans (HB.out.mono Hb5.out.size)⟩
end Go.Proofs.YtpoekblolicehaaDoor
