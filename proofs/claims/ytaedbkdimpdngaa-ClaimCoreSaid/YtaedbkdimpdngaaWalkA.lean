/-
  Walks over chapter 12: one claim as a set; the claims of a set.
-/
import Derived.Test.YtaedbkdimpdngaaBaseB
namespace Go.Proofs.Ytaedbkdimpdngaa
open Go.RowKit
theorem one_any (i : Nat) (w : World) (h : i < 16) : Calls Try.prog 52 #[iv i] w fun e w' => e = .returned (sv (2 ^ i)) ∧ Below w.heap.size w w' := by
  have h0 : (0 : Int) ≤ (i : Int) := by omega
  have h1 : (i : Int) ≤ 16 := by omega
  have hw := hid (wrap16 h)
  unfold iv sv
  go_enter Try.func52, Try.ntmps52
  go_wp2
  rw [hw.out]
  generalize 2 ^ i = p
  go_ret
  exact ⟨rfl, Below.refl _ _⟩
theorem elems_succ (s i : Nat) : (List.range (i + 1)).filter (fun j => s.testBit j) = if s.testBit i then (List.range i).filter (fun j => s.testBit j) ++ [i] else (List.range i).filter fun j => s.testBit j := by
  rw [List.range_succ, List.filter_append]
  cases h : s.testBit i <;> simp [h]
theorem elems_cut {s k : Nat} (h : s < 2 ^ k) (hk : k ≤ 16) : (List.range k).filter (fun j => s.testBit j) = elems s := by
  unfold elems
  obtain ⟨m, hm⟩ : ∃ m, 16 = k + m := ⟨16 - k, by omega⟩
  rw [hm, List.range_add, List.filter_append]
  have : ((List.range m).map (fun x => k + x)).filter (fun j => s.testBit j) = [] := by
    rw [List.filter_eq_nil_iff]
    intro a ha
    rw [List.mem_map] at ha
    obtain ⟨b, _, rfl⟩ := ha
    rw [Nat.testBit_lt_two_pow (Nat.lt_of_lt_of_le h (Nat.pow_le_pow_right (by omega) (by omega)))]
    simp
  rw [this, List.append_nil]
set_option maxRecDepth 100000 in
theorem list_any (s : Nat) (w : World) (h : s < 2 ^ 12) : Calls Try.prog 49 #[sv s] w fun e w' => ∃ v, e = .returned v ∧ OwnV w' w.heap.size 3 v ((elems s).map iv) ∧ Below w.heap.size w w' := by
  have HE := hid (elems_cut h (by decide))
  have ON : Hid (∀ (i : Nat) (w : World), i < 16 → Calls Try.prog 52 #[.int .i64 i] w fun e w' => e = .returned (.int .u16 ((2 ^ i : Nat) : Int)) ∧ Below w.heap.size w w') := fun i w hi => one_any i w hi
  unfold sv
  go_enter Try.func49, Try.ntmps49
  go_wp2_with fail
  go_loopw [5, 3] (fun cv ov wr => ∃ i : Nat, cv = .int .i64 i ∧ i ≤ 12 ∧ Hid (OwnV wr w.heap.size 3 ov (((List.range i).filter fun j => s.testBit j).map iv)) ∧ Hid (Below w.heap.size w wr)) (fun cv _ _ => 12 - (intOf cv).toNat)
  case atStart => exact ⟨0, rfl, by decide, ownV_nil _ _ _, Below.refl _ _⟩
  case round =>
    obtain ⟨i, rfl, hi, HT, HBr⟩ := hrel
    obtain ⟨a, n, c, rfl⟩ := ownV_sh HT.out
    have HN : Hid ((((List.range i).filter fun j => s.testBit j).map iv).length < 1000000) := by
      show _ < _
      rw [List.length_map]
      have := List.length_filter_le (fun j => s.testBit j) (List.range i)
      rw [List.length_range] at this
      omega
    by_cases hlt : i < 12
    · have ha := and_one s i
      have hp : 2 ^ i < 65536 := Nat.lt_of_le_of_lt (pow_small (show i ≤ 12 by omega)) (by decide)
      have hb := and16 (a := s) (b := 2 ^ i) (by omega) hp
      have HSU := hid (elems_succ s i)
      have hc := ON.out i wr (by omega)
      clear ON
      generalize 2 ^ i = p at *
      have HC := hid hc
      clear hc
      generalize hq : s &&& p = q at *
      clear hq
      cases ht : s.testBit i with
      | false =>
        have h0 : q = 0 := ha.2 ht
        subst h0
        rw [ht] at HSU
        clear ha ht
        go_wp2_with (first | (go_at_call 52; refine HC.out.mono ?_; rintro e w6 ⟨rfl, hb6⟩; have HB6 := hid hb6; clear hb6) | fail)
        go_roundw
        case rel => exact ⟨i + 1, by go_num, by omega, by rw [HSU.out]; exact ownV_below HT.out HB6.out, HBr.out.trans (HB6.out.mono HBr.out.size)⟩
        case measure => simp [intOf]; omega
      | true =>
        have h0 : ¬ q = 0 := fun h => by rw [ha.1 h] at ht; cases ht
        rw [ht] at HSU
        clear ha ht
        go_wp2_with (first | (go_at_call 52; refine HC.out.mono ?_; rintro e w6 ⟨rfl, hb6⟩; have HB6 := hid hb6; clear hb6) | (at_builtin; refine wpl_app_int _ _ _ (.slice a n c) w.heap.size _ (by rfl) (by rfl) (by rfl) (by rfl) (ownV_below HT.out HB6.out) HN.out (Nat.le_trans HBr.out.size HB6.out.size) ?_; intro v' w7 ho7 hb7 hg7; obtain ⟨sa, sn, sc, rfl⟩ := ownV_sh ho7; have HO7 := hid ho7; have HB7 := hid hb7; clear ho7 hb7 hg7) | fail)
        go_roundw
        case rel => exact ⟨i + 1, by go_num, by omega, by rw [HSU.out, if_pos trivial, List.map_append]; exact HO7.out, (HBr.out.trans (HB6.out.mono HBr.out.size)).trans HB7.out⟩
        case measure => simp [intOf]; omega
    · obtain rfl : i = 12 := by omega
      rw [HE.out] at HT
      go_wp2_with fail
      go_ret
      exact ⟨_, rfl, HT.out, HBr.out⟩
end Go.Proofs.Ytaedbkdimpdngaa
