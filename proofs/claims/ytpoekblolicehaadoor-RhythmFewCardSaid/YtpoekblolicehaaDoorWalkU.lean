/-
  The walk over chapter 1: different squares and parts, in the reference.
-/
import Derived.Test.YtpoekblolicehaaDoorWalkT
import Derived.Test.YtpoekblolicehaaDoorWalkO
import Derived.Test.YtpoekblolicehaaDoorLawWords
namespace Go.Proofs.YtpoekblolicehaaDoor
open Go.RowKit

theorem contains_take_succ (l : List Str) (x : Nat) (h : x < l.length) (z : Str) : (l.take (x + 1)).contains z = ((l.take x).contains z || (sx l x == z)) := by
  rw [List.take_succ_eq_append_getElem h, List.contains_append]
  congr 1
  simp [sx, h]
  rw [Bool.eq_iff_iff, decide_eq_true_eq, beq_iff_eq]
  exact eq_comm

set_option maxHeartbeats 400000 in
theorem shas_any (v : Value) (l : List Str) (z : ByteArray) (w : World) (hv : IsStrs w v l) :
    Calls Tryd.prog 65 #[v, .string z] w fun e w' => e = .returned (.bool (l.contains z.data.toList)) ∧ ∃ n, w' = w.drewN n := by
  obtain ⟨a, c, rfl, hl, hc⟩ := hv
  unfold maxLen at hl
  have HC := hid hc
  clear hc
  obtain ⟨R, hR⟩ : ∃ R, R = l.contains z.data.toList := ⟨_, rfl⟩
  rw [← hR]
  have HR := hid hR
  clear hR
  generalize hN : l.length = N at *
  have HN := hid hN
  clear hN
  go_enter Tryd.func65, Tryd.ntmps65
  go_wp2_with fail
  go_loopg [5] N (fun g i wr => ∃ x : Nat, x ≤ N ∧ g = N - x ∧ i = .int .i64 x ∧ Hid ((l.take x).contains z.data.toList = false) ∧ ∃ m, wr = w.drewN m)
  case atStart => exact ⟨0, by omega, by omega, rfl, by rw [List.take_zero]; exact hid rfl, 0, rfl⟩
  case round =>
    obtain ⟨x, hx, hgx, rfl, HT, m, rfl⟩ := hrel
    have HGX := hid hgx; clear hgx
    by_cases hxl : x < N
    · obtain ⟨g, rfl, cl⟩ := HC.out x hxl
      have hsu := contains_take_succ l x (by rw [HN.out]; exact hxl) z.data.toList
      rw [HT.out, Bool.false_or] at hsu
      have he : ((strB (sx l x)).toList == z.toList) = (sx l x == z.data.toList) := by rw [strB_toList, toList_data]
      have i1 : (x : Int) < N := by omega
      cases hq : (sx l x == z.data.toList)
      · rw [hq] at he hsu
        have HSU := hid hsu
        clear hq hsu
        go_wp2_with fail
        go_roundg (N - (x + 1))
        case measure => have := HGX.out; omega
        case rel => exact ⟨x + 1, by omega, rfl, by go_num, HSU.out, (by first | exact ⟨_, rfl⟩ | exact drew2 _ _ _)⟩
      · rw [hq] at he hsu
        have hR1 : R = true := by
          rw [HR.out]
          conv => lhs; rw [← List.take_append_drop (x + 1) l]
          rw [List.contains_append, hsu, Bool.true_or]
        clear hq hsu
        go_wp2_with fail
        go_ret
        exact ⟨by rw [hR1]; rfl, _, rfl⟩
    · obtain rfl : x = N := by omega
      have hR1 : R = false := by
        rw [HR.out]
        have := HT.out
        rwa [List.take_of_length_le (by rw [HN.out]; exact Nat.le_refl _)] at this
      go_wp2_with fail
      go_ret
      exact ⟨by rw [hR1]; rfl, _, rfl⟩

set_option maxHeartbeats 1000000 in
set_option maxRecDepth 100000 in
theorem rparts_any (s : ByteArray) (w : World) (hs : s.size ≤ 1000) :
    Calls Tryd.prog 51 #[.string s] w fun e w' => ∃ v, e = .returned v ∧ Own w' w.heap.size 3 v (ints (partsL s.data.toList)) ∧ Below w.heap.size w w' := by
  obtain ⟨R, hR⟩ : ∃ R, R = partsL s.data.toList := ⟨_, rfl⟩
  rw [← hR]
  have HR := hid hR
  clear hR
  go_enter Tryd.func51, Tryd.ntmps51
  go_wp2_with fail
  go_loopg [3, 4, 5, 6] s.size (fun g v i _ _ wr => ∃ k : Nat, k ≤ s.size ∧ g = s.size - k ∧ i = .int .i64 ((k : Int) + 1) ∧ Hid (Own wr w.heap.size 3 v (ints (partsTo s.data.toList k))) ∧ Hid (Below w.heap.size w wr))
  case atStart => exact ⟨0, by omega, by omega, rfl, own_made0 _ _ _ (Nat.le_refl _), (Below.refl _ _).alloc (Nat.le_refl _) _⟩
  case round =>
    obtain ⟨k, hk, hgk, rfl, HO, HB⟩ := hrel
    have HGK := hid hgk; clear hgk
    have hbz := HB.out.size
    by_cases hkl : k < s.size
    · have i1 : (k : Int) + 1 ≤ s.size := by omega
      go_wp2_with fail
      obtain ⟨Z, hZ⟩ : ∃ Z, Z = wr.heap.size := ⟨_, rfl⟩
      have hO0 := own_made0 wr wr.heap.size 9 (Nat.le_refl _)
      have hb0 : Below wr.heap.size wr (wr.alloc (.cells #[] 9)) := (Below.refl _ _).alloc (Nat.le_refl _) _
      rw [← hZ] at hO0 hb0 hbz ⊢
      have HO0 := hid hO0
      have HB0 := hid hb0
      have HZ := hid hZ
      clear hO0 hb0 hZ
      go_loopg [5, 6] (s.size - k) (fun g v i wi => ∃ x : Nat, x ≤ s.size - k ∧ g = s.size - k - x ∧ i = .int .i64 x ∧ Hid (Own wi Z 9 v (strs (dif (allP s.data.toList (k + 1) x)))) ∧ Hid (Below Z wr wi))
      case atStart => exact ⟨0, by omega, by omega, rfl, HO0.out, HB0.out⟩
      case round =>
        obtain ⟨x, hx, hgx, rfl, HOx, HBx⟩ := hrel
        have HGX := hid hgx; clear hgx
        have hxz := HBx.out.size
        rw [← HZ.out] at hxz
        have hw : IntKind.i64.wrap ((x : Int) + ((k : Int) + 1)) = (x : Int) + ((k : Int) + 1) := IntWalk.i64_in _ (by omega)
        by_cases hxl : x + (k + 1) ≤ s.size
        · have i2 : (x : Int) + ((k : Int) + 1) ≤ s.size := by omega
          have i3 : ((x : Int) + ((k : Int) + 1)).toNat = x + (k + 1) := by omega
          have hzp : (s.extract x (x + (k + 1))).data.toList = part s.data.toList x (x + (k + 1)) := part_eq _ _ _
          have hsu := allP_succ s.data.toList (k + 1) x
          have cS := fun w' v (hv : IsStrs w' v (dif (allP s.data.toList (k + 1) x))) => shas_any v _ (s.extract x (x + (k + 1))) w' hv
          have hln := dif_le (allP s.data.toList (k + 1) x)
          rw [allP_length] at hln
          rw [hzp] at cS
          cases hq : (dif (allP s.data.toList (k + 1) x)).contains (part s.data.toList x (x + (k + 1)))
          · have hdn := dif_snoc (allP s.data.toList (k + 1) x) (part s.data.toList x (x + (k + 1)))
            rw [addW_no hq, ← hsu, ← hzp] at hdn
            rw [hq] at cS
            generalize dif (allP s.data.toList (k + 1) x) = ds at *
            have CS := hid cS
            have HDN := hid hdn
            have HLN := hid hln
            clear cS hdn hq hzp hsu hln
            go_wp2_with fail
            refine (CS.out _ _ (own_isStrs HOx.out)).mono ?_
            rintro e w5 ⟨rfl, n5, rfl⟩
            go_wp2_with (refine wpl_app_str (.tmp 32) (.tmp 39) _ Z ds (by rfl) (by rfl) (by rfl) (by rfl) HOx.out (by have := HLN.out; omega) (by exact hxz) ?_; intro v' w' hown' hgrow)
            have HO2 := hid hown'
            have HG2 := hid hgrow
            clear hown' hgrow
            go_wp2_with fail
            go_roundg (s.size - k - (x + 1))
            case measure => have := HGX.out; omega
            case rel => exact ⟨x + 1, by omega, rfl, by go_num, by rw [HDN.out]; exact HO2, HBx.out.trans (below_of_drewN HG2.out)⟩
          · have hdn := dif_snoc (allP s.data.toList (k + 1) x) (part s.data.toList x (x + (k + 1)))
            rw [addW_yes hq, ← hsu] at hdn
            rw [hq] at cS
            generalize dif (allP s.data.toList (k + 1) x) = ds at *
            have CS := hid cS
            have HDN := hid hdn
            clear cS hdn hq hzp hsu hln
            go_wp2_with fail
            refine (CS.out _ _ (own_isStrs HOx.out)).mono ?_
            rintro e w5 ⟨rfl, n5, rfl⟩
            go_wp2_with fail
            go_roundg (s.size - k - (x + 1))
            case measure => have := HGX.out; omega
            case rel => exact ⟨x + 1, by omega, rfl, by go_num, by rw [HDN.out]; exact HOx, below_drewN_r HBx.out _⟩
        · have i2 : ¬ (x : Int) + ((k : Int) + 1) ≤ s.size := by omega
          obtain rfl : x = s.size + 1 - (k + 1) := by omega
          have hpt := partsTo_succ s.data.toList k
          rw [data_size] at hpt
          obtain ⟨q, hq⟩ : ∃ q, q = (dif (allP s.data.toList (k + 1) (s.size + 1 - (k + 1)))).length := ⟨_, rfl⟩
          rw [← hq] at hpt
          have hpl := partsTo_length s.data.toList k
          obtain ⟨va, vc, hve, _⟩ := own_isStrs HOx.out
          rw [← hq] at hve
          subst hve
          have HPT := hid hpt
          have HPL := hid hpl
          have HOB := hid (own_below HO.out (by rw [← HZ.out]; exact HBx.out))
          clear hpt hpl hq
          have hkb : k < 1099511627776 := by omega
          go_wp2_with (refine wpl_app_int (.tmp 41) (.tmp 44) _ w.heap.size (partsTo s.data.toList k) (by rfl) (by rfl) (by rfl) (by rfl) HOB.out (by rw [HPL.out]; exact hkb) (by omega) ?_; intro v' w' hown' hgrow)
          have HO2 := hid hown'
          have HG2 := hid hgrow
          clear hown' hgrow
          go_wp2_with fail
          go_roundg (s.size - (k + 1))
          case measure => have := HGK.out; omega
          case rel => exact ⟨k + 1, by omega, rfl, by go_num, by rw [HPT.out]; exact HO2, (HB.out.trans (HBx.out.mono hbz)).trans HG2.out⟩
    · obtain rfl : k = s.size := by omega
      have hR1 : R = partsTo s.data.toList s.size := by rw [HR.out, ← data_size]; rfl
      have HR1 := hid hR1
      clear hR1
      go_wp2_with fail
      go_ret
      exact ⟨_, rfl, by rw [HR1.out]; exact HO.out, HB.out⟩

theorem sq_test2 (s : ByteArray) (h i : Nat) : ((s.extract i (i + h)).toList == (s.extract (i + h) (i + 2 * h)).toList) = isSq s.data.toList h i := by
  rw [toList_data, toList_data, part_eq, part_eq]
  unfold isSq
  rfl
theorem sqRow_le (l : Str) (i k : Nat) : (sqRow l i k).length ≤ k := by
  simp only [sqRow, List.length_map]
  exact Nat.le_trans (List.length_filter_le _ _) (by simp)
theorem sqRows_le (l : Str) : ∀ m, (sqRows l m).length ≤ m * l.length
  | 0 => by simp [sqRows]
  | m + 1 => by
    rw [sqRows_succ, List.length_append]
    have := sqRows_le l m
    have := sqRow_le l m ((l.length - m) / 2)
    have : (m + 1) * l.length = m * l.length + l.length := Nat.succ_mul _ _
    omega

set_option maxHeartbeats 2000000 in
set_option maxRecDepth 100000 in
theorem rsquares_any (s : ByteArray) (w : World) (hs : s.size ≤ 1000) :
    Calls Tryd.prog 50 #[.string s] w fun e w' => e = .returned (.int .i64 (squares s.data.toList)) ∧ Below w.heap.size w w' := by
  obtain ⟨R, hR⟩ : ∃ R, R = squares s.data.toList := ⟨_, rfl⟩
  rw [← hR]
  have HR := hid hR
  clear hR
  go_enter Tryd.func50, Tryd.ntmps50
  go_wp2_with fail
  go_loopg [3, 4, 5] s.size (fun g v i _ wr => ∃ x : Nat, x ≤ s.size ∧ g = s.size - x ∧ i = .int .i64 x ∧ Hid (Own wr w.heap.size 9 v (strs (dif (sqRows s.data.toList x)))) ∧ Hid (Below w.heap.size w wr))
  case atStart => exact ⟨0, by omega, by omega, rfl, own_made0 _ _ _ (Nat.le_refl _), (Below.refl _ _).alloc (Nat.le_refl _) _⟩
  case round =>
    obtain ⟨x, hx, hgx, rfl, HO, HB⟩ := hrel
    have HGX := hid hgx; clear hgx
    by_cases hxl : x < s.size
    · have i1 : (x : Int) < s.size := by omega
      go_wp2_with fail
      go_loopg [3, 5] s.size (fun g v h wi => ∃ k : Nat, 2 * k ≤ s.size - x ∧ g = s.size - k ∧ h = .int .i64 ((k : Int) + 1) ∧ Hid (Own wi w.heap.size 9 v (strs (dif (sqRows s.data.toList x ++ sqRow s.data.toList x k)))) ∧ Hid (Below w.heap.size w wi))
      case atStart => exact ⟨0, by omega, by omega, rfl, by rw [show sqRow s.data.toList x 0 = [] from rfl, List.append_nil]; exact HO, HB⟩
      case round =>
        obtain ⟨k, hk, hgk, rfl, HOk, HBk⟩ := hrel
        have HGK := hid hgk; clear hgk
        have hbz := HBk.out.size
        have w1 : IntKind.i64.wrap ((x : Int) + 2 * ((k : Int) + 1)) = (x : Int) + 2 * ((k : Int) + 1) := IntWalk.i64_in _ (by omega)
        have w2 : IntKind.i64.wrap ((x : Int) + ((k : Int) + 1)) = (x : Int) + ((k : Int) + 1) := IntWalk.i64_in _ (by omega)
        have w3 : IntKind.i64.wrap (2 * ((k : Int) + 1)) = 2 * ((k : Int) + 1) := IntWalk.i64_in _ (by omega)
        by_cases hkl : x + 2 * (k + 1) ≤ s.size
        · have i2 : (x : Int) + 2 * ((k : Int) + 1) ≤ s.size := by omega
          have i3 : ((x : Int) + 2 * ((k : Int) + 1)).toNat = x + 2 * (k + 1) := by omega
          have i4 : ((x : Int) + ((k : Int) + 1)).toNat = x + (k + 1) := by omega
          have i5 : (x : Int) + ((k : Int) + 1) ≤ s.size := by omega
          have i6 : (x : Int) + ((k : Int) + 1) ≤ (x : Int) + 2 * ((k : Int) + 1) := by omega
          have i7 : (x : Int) ≤ (x : Int) + 2 * ((k : Int) + 1) := by omega
          have hzp : (s.extract x (x + 2 * (k + 1))).data.toList = part s.data.toList x (x + 2 * (k + 1)) := part_eq _ _ _
          have hzt := sq_test2 s (k + 1) x
          cases hq : isSq s.data.toList (k + 1) x
          · rw [hq] at hzt
            have HROW := hid (sqRow_no _ _ _ hq)
            have HZP := hid hzp
            clear hq hzp
            go_wp2_with fail
            go_quiet (fail)
            go_wp2_with fail
            go_roundg (s.size - (k + 1))
            case measure => have := HGK.out; omega
            case rel => exact ⟨k + 1, by omega, rfl, by go_num, by rw [HROW.out]; exact HOk, below_drewN_r HBk.out _⟩
          · rw [hq] at hzt
            have hrow := sqRow_yes _ _ _ hq
            have cS := fun w' v (hv : IsStrs w' v (dif (sqRows s.data.toList x ++ sqRow s.data.toList x k))) => shas_any v _ (s.extract x (x + 2 * (k + 1))) w' hv
            have hln := dif_le (sqRows s.data.toList x ++ sqRow s.data.toList x k)
            have hdn := dif_snoc (sqRows s.data.toList x ++ sqRow s.data.toList x k) (part s.data.toList x (x + 2 * (k + 1)))
            rw [List.append_assoc, ← hrow] at hdn
            have hl2 : (dif (sqRows s.data.toList x ++ sqRow s.data.toList x k)).length ≤ 2000000 := by
              refine Nat.le_trans hln ?_
              rw [List.length_append]
              have a := sqRows_le s.data.toList x
              have b := sqRow_le s.data.toList x k
              have : x * s.data.toList.length ≤ 1000 * 1000 := Nat.mul_le_mul (by omega) (by rw [data_size]; exact hs)
              omega
            rw [hzp] at cS
            have HROW := hid hrow
            clear hq hrow hln
            cases hc : (dif (sqRows s.data.toList x ++ sqRow s.data.toList x k)).contains (part s.data.toList x (x + 2 * (k + 1)))
            · rw [addW_no hc, ← hzp] at hdn
              rw [hc] at cS
              generalize dif (sqRows s.data.toList x ++ sqRow s.data.toList x k) = ds at *
              have CS := hid cS
              have HDN := hid hdn
              have HL2 := hid hl2
              clear cS hdn hc hzp hl2
              go_wp2_with fail
              go_quiet ((go_at_call 65; exact quiet_one (CS.out _ _ (own_isStrs (own_drew HOk.out _)))))
              have HOq := hid (own_drew HOk.out nq)
              go_wp2_with (refine wpl_app_str (.tmp 50) (.tmp 58) _ w.heap.size ds (by rfl) (by rfl) (by rfl) (by rfl) HOq.out (by have := HL2.out; omega) (by exact hbz) ?_; intro v' w' hown' hgrow)
              have HO2 := hid hown'
              have HG2 := hid hgrow
              clear hown' hgrow
              go_wp2_with fail
              go_roundg (s.size - (k + 1))
              case measure => have := HGK.out; omega
              case rel => exact ⟨k + 1, by omega, rfl, by go_num, by rw [HDN.out]; exact HO2, HBk.out.trans (below_of_drewN HG2.out)⟩
            · rw [addW_yes hc] at hdn
              rw [hc] at cS
              generalize dif (sqRows s.data.toList x ++ sqRow s.data.toList x k) = ds at *
              have CS := hid cS
              have HDN := hid hdn
              clear cS hdn hc hzp hl2
              go_wp2_with fail
              go_quiet ((go_at_call 65; exact quiet_one (CS.out _ _ (own_isStrs (own_drew HOk.out _)))))
              go_wp2_with fail
              go_roundg (s.size - (k + 1))
              case measure => have := HGK.out; omega
              case rel => exact ⟨k + 1, by omega, rfl, by go_num, by rw [HDN.out]; exact HOk, below_drewN_r HBk.out _⟩
        · have i2 : ¬ (x : Int) + 2 * ((k : Int) + 1) ≤ s.size := by omega
          have hrs := sqRows_succ s.data.toList x
          rw [data_size, show (s.size - x) / 2 = k by omega] at hrs
          have HRS := hid hrs
          clear hrs
          go_wp2_with fail
          go_roundg (s.size - (x + 1))
          case measure => have := HGX.out; omega
          case rel => exact ⟨x + 1, by omega, rfl, by go_num, by rw [HRS.out]; exact HOk, HBk.out⟩
    · obtain rfl : x = s.size := by omega
      obtain ⟨q, hq⟩ : ∃ q, q = (dif (sqRows s.data.toList s.size)).length := ⟨_, rfl⟩
      have hR1 : R = q := by rw [HR.out, ← squares_rows, data_size, hq]
      obtain ⟨va, vc, hve, _⟩ := own_isStrs HO.out
      rw [← hq] at hve
      subst hve
      have HR1 := hid hR1
      clear hR1 hq
      go_wp2_with fail
      go_ret
      exact ⟨by rw [HR1.out]; rfl, HB.out⟩

/-- Squares and Parts, whatever the string -/
theorem squares_bad (s : ByteArray) (w : World) (hs : s.size ≤ 1000) (hc : chk s.data.toList ≠ 0) :
    Calls Tryd.prog 46 #[.string s] w fun e w' => e = .returned (.tuple #[.int .i64 0, .int .i64 (chk s.data.toList)]) ∧ Below w.heap.size w w' := by
  have hck := check_any s w hs
  have hc2 : (chk s.data.toList == 0) = false := by simp [hc]
  clear hc
  generalize chk s.data.toList = q at *
  go_enter Tryd.func46, Tryd.ntmps46
  go_wp2_with fail
  refine hck.mono ?_
  rintro e w1 ⟨rfl, hb⟩
  go_wp2_with fail
  go_ret2
  exact ⟨rfl, hb⟩
theorem parts_bad (s : ByteArray) (w : World) (hs : s.size ≤ 1000) (hc : chk s.data.toList ≠ 0) :
    Calls Tryd.prog 49 #[.string s] w fun e w' => e = .returned (.tuple #[.slice none 0 0, .int .i64 (chk s.data.toList)]) ∧ Below w.heap.size w w' := by
  have hck := check_any s w hs
  have hc2 : (chk s.data.toList == 0) = false := by simp [hc]
  clear hc
  generalize chk s.data.toList = q at *
  go_enter Tryd.func49, Tryd.ntmps49
  go_wp2_with fail
  refine hck.mono ?_
  rintro e w1 ⟨rfl, hb⟩
  go_wp2_with fail
  go_ret2
  exact ⟨rfl, hb⟩
theorem squares_any (s : ByteArray) (w : World) (hs : s.size ≤ 1000) :
    Calls Tryd.prog 46 #[.string s] w fun e w' => e = .returned (.tuple #[.int .i64 (if chk s.data.toList = 0 then squares s.data.toList else 0 : Nat), .int .i64 (chk s.data.toList)]) ∧ Below w.heap.size w w' := by
  by_cases hc : chk s.data.toList = 0
  · rw [hc, if_pos rfl]; exact squares_ok s w hs hc
  · rw [if_neg hc]; exact squares_bad s w hs hc
theorem parts_any (s : ByteArray) (w : World) (hs : s.size ≤ 1000) :
    Calls Tryd.prog 49 #[.string s] w fun e w' => ∃ v, e = .returned (.tuple #[v, .int .i64 (chk s.data.toList)]) ∧ IsInts w' v (if chk s.data.toList = 0 then partsL s.data.toList else []) ∧ Below w.heap.size w w' := by
  by_cases hc : chk s.data.toList = 0
  · rw [hc, if_pos rfl]
    exact (parts_ok s w hs hc).mono fun _ _ ⟨v, h1, h2, h3⟩ => ⟨v, h1, own_isInts h2, h3⟩
  · rw [if_neg hc]
    exact (parts_bad s w hs hc).mono fun _ w' ⟨h1, h3⟩ => ⟨_, h1, own_isInts (e := 3) (B := 0) (xs := []) (own_nil w' 0 3), h3⟩
end Go.Proofs.YtpoekblolicehaaDoor
