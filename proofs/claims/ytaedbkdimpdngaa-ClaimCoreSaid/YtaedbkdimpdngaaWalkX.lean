/-
  The lists of the reference (List, 24).
-/
import Derived.Test.YtaedbkdimpdngaaPlainJ
namespace Go.Proofs.Ytaedbkdimpdngaa
open Go.RowKit
theorem elems_all {s i : Nat} (h : s < 2 ^ i) (hi : i ≤ 16) : (List.range i).filter (fun j => s.testBit j) = elems s := by
  refine up_eq ((List.pairwise_lt_range).sublist List.filter_sublist) (elems_up s) fun a => ?_
  rw [mem_elems, List.mem_filter, List.mem_range]
  constructor
  · rintro ⟨h1, h2⟩; exact ⟨by omega, h2⟩
  · rintro ⟨h1, h2⟩; exact ⟨bit_lt h h2, h2⟩
theorem shr_zero {s i : Nat} (h : ¬ 0 < s / 2 ^ i) : s < 2 ^ i := by
  have h0 : s / 2 ^ i = 0 := Nat.eq_zero_of_not_pos h
  rcases (Nat.div_eq_zero_iff).1 h0 with h1 | h1
  · have := Nat.pow_pos (n := i) (show 0 < 2 by decide); omega
  · exact h1
theorem shr_pos {s i : Nat} (h : 0 < s / 2 ^ i) (hs : s < 2 ^ 16) : i < 16 := by
  refine Nat.lt_of_not_le fun hi => ?_
  have h1 : s < 2 ^ i := Nat.lt_of_lt_of_le hs (Nat.pow_le_pow_right (by decide) hi)
  rw [Nat.div_eq_of_lt h1] at h
  omega
set_option maxRecDepth 100000 in
theorem rList_any (s : Nat) (w : World) (h : s < 2 ^ 16) : Calls Try.prog 24 #[.int .i64 (s : Int)] w fun e w' => ∃ v, e = .returned v ∧ OwnV w' w.heap.size 3 v ((elems s).map iv) ∧ Below w.heap.size w w' := by
  go_enter Try.func24, Try.ntmps24
  go_wp2_with fail
  have HM := hid (ownV_made w w.heap.size 3 (Nat.le_refl _))
  have HB0 := hid (ba w (.cells #[] 3))
  go_loopw [4, 3] (fun cv ov wr => ∃ i : Nat, cv = .int .i64 i ∧ i ≤ 16 ∧ Hid (OwnV wr w.heap.size 3 ov (((List.range i).filter fun j => s.testBit j).map iv)) ∧ Hid (Below w.heap.size w wr)) (fun cv _ _ => 17 - (intOf cv).toNat)
  case atStart => exact ⟨0, rfl, by decide, HM, HB0⟩
  case round =>
    obtain ⟨i, rfl, hi, HT, HBr⟩ := hrel
    obtain ⟨a, n, c, rfl⟩ := ownV_sh HT.out
    have HN : Hid ((((List.range i).filter fun j => s.testBit j).map iv).length < 1000000) := by
      show _ < _
      rw [List.length_map]
      have := List.length_filter_le (fun j => s.testBit j) (List.range i)
      rw [List.length_range] at this
      omega
    have hd : s / 2 ^ i < 65536 := Nat.lt_of_le_of_lt (Nat.div_le_self _ _) h
    have ha := shr_one s i
    have HSU := hid (elems_succ s i)
    have HZ := hid (fun h0 : ¬ 0 < s / 2 ^ i => elems_all (shr_zero h0) hi)
    have HP := hid (fun h0 : 0 < s / 2 ^ i => shr_pos h0 h)
    have hZ : ((s : Int) / 2 ^ i) = ((s / 2 ^ i : Nat) : Int) := by
      have h2 : ((2 : Int) ^ i) = ((2 ^ i : Nat) : Int) := by simp
      rw [h2]; exact (Int.natCast_ediv _ _).symm
    have hA : bits BinOp.and IntKind.i64 ((s : Int) / 2 ^ i) 1 = ((s / 2 ^ i &&& 1 : Nat) : Int) := by
      rw [hZ]; exact and64 (b := 1) (by omega) (by decide)
    rw [ha] at hA
    clear ha
    obtain ⟨xs, hxs⟩ : ∃ xs, xs = ((List.range i).filter fun j => s.testBit j).map iv := ⟨_, rfl⟩
    by_cases hz : 0 < s / 2 ^ i
    · have hi16 := HP.out hz
      have hzi : 0 < ((s : Int) / 2 ^ i) := by rw [hZ]; omega
      clear HZ HP hd hZ hz
      cases ht : s.testBit i with
      | false =>
        have ha1 : bits BinOp.and IntKind.i64 ((s : Int) / 2 ^ i) 1 = 0 := by rw [hA, ht]; rfl
        rw [ht] at HSU
        clear ht hA
        go_wp2_with fail
        go_roundw
        case rel => exact ⟨i + 1, by go_num, by omega, by rw [HSU.out]; exact HT, HBr⟩
        case measure => simp [intOf]; omega
      | true =>
        have ha1 : bits BinOp.and IntKind.i64 ((s : Int) / 2 ^ i) 1 = 1 := by rw [hA, ht]; rfl
        have HSN : Hid (xs ++ [.int .i64 (i : Int)] = ((List.range (i + 1)).filter fun j => s.testBit j).map iv) := by
          show _ = _
          rw [HSU.out, ht, hxs, if_pos rfl, List.map_append]; rfl
        rw [← hxs] at HT HN
        clear ht hA HSU hxs
        go_wp2_with (first | (at_builtin; refine wpl_app_int (i : Int) _ _ (.slice a n c) w.heap.size xs (by rfl) (by rfl) (by rfl) (by rfl) HT.out HN.out HBr.out.size ?_; intro v' w7 ho7 hb7 hg7; rw [HSN.out] at ho7; have HO7 := hid ho7; have HB7 := hid (HBr.out.trans hb7); clear ho7 hb7 hg7) | fail)
        go_roundw
        case rel => exact ⟨i + 1, by go_num, by omega, HO7, HB7⟩
        case measure => simp [intOf]; omega
    · have hE := hid (HZ.out hz)
      have hzi : ¬ 0 < ((s : Int) / 2 ^ i) := by rw [hZ]; omega
      clear HZ HP hd hZ hz hA HSU hxs
      go_wp2_with fail
      go_ret
      refine ⟨_, rfl, ?_, HBr.out⟩
      rw [← hE.out]
      exact HT.out
end Go.Proofs.Ytaedbkdimpdngaa
