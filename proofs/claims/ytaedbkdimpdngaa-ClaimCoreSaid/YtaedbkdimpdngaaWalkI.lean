/-
  Walks over chapter 12: two lists are compared.
-/
import Derived.Test.YtaedbkdimpdngaaWalkH
import Derived.Test.YtaedbkdimpdngaaShelf
namespace Go.Proofs.Ytaedbkdimpdngaa
open Go.RowKit
/-- the comparison of two lists, as slices.Compare says it -/
def cmpL : List Nat → List Nat → Int
  | [], [] => 0
  | [], _ :: _ => -1
  | _ :: _, [] => 1
  | a :: l, b :: m => if a = b then cmpL l m else if a < b then -1 else 1
theorem cmpL_lt : ∀ (x y : List Nat), decide (cmpL x y < 0) = ltL x y
  | [], [] => rfl
  | [], _ :: _ => rfl
  | _ :: _, [] => rfl
  | a :: x, b :: y => by
    show decide ((if a = b then cmpL x y else if a < b then -1 else 1) < 0) = (decide (a < b) || (a == b && ltL x y))
    by_cases h : a = b
    · subst h
      rw [if_pos rfl, cmpL_lt x y]; simp
    · rw [if_neg h]
      have hb : (a == b) = false := beq_eq_false_iff_ne.2 h
      rw [hb, Bool.false_and, Bool.or_false]
      by_cases h2 : a < b
      · rw [if_pos h2]; simp [h2]
      · rw [if_neg h2]; simp [h2]
theorem cmpL_step {x y : List Nat} {i : Nat} (hx : i < x.length) (hy : i < y.length) : cmpL (x.drop i) (y.drop i) = if x.getD i 0 = y.getD i 0 then cmpL (x.drop (i + 1)) (y.drop (i + 1)) else if x.getD i 0 < y.getD i 0 then -1 else 1 := by
  rw [List.drop_eq_getElem_cons hx, List.drop_eq_getElem_cons hy, List.getD_eq_getElem?_getD, List.getElem?_eq_getElem hx, List.getD_eq_getElem?_getD, List.getElem?_eq_getElem hy]
  rfl
theorem cmpL_end {x y : List Nat} {i : Nat} (hx : i < x.length) (hy : y.length ≤ i) : cmpL (x.drop i) (y.drop i) = 1 := by
  rw [List.drop_eq_getElem_cons hx, List.drop_eq_nil_of_le hy]; rfl
theorem cmpL_fin {x y : List Nat} {i : Nat} (hx : i = x.length) (hy : i ≤ y.length) : cmpL (x.drop i) (y.drop i) = if i < y.length then -1 else 0 := by
  rw [List.drop_eq_nil_of_le (by omega)]
  by_cases h : i < y.length
  · rw [if_pos h, List.drop_eq_getElem_cons h]; rfl
  · rw [if_neg h, List.drop_eq_nil_of_le (by omega)]; rfl
theorem cmpI (a b : Nat) : Lib.compareInt (a : Int) (b : Int) = if a = b then 0 else if a < b then -1 else 1 := by
  unfold Lib.compareInt
  by_cases h : a = b
  · subst h; simp
  · by_cases h2 : a < b
    · rw [if_neg h, if_pos h2]; simp [h2]
    · rw [if_neg h, if_neg h2]
      have h3 : b < a := by omega
      simp; omega
set_option maxRecDepth 100000 in
set_option maxHeartbeats 1000000 in
theorem compare_any (u v : Value) (x y : List Nat) (w : World) (hu : IsV w u (x.map iv)) (hv : IsV w v (y.map iv)) :
    Calls Try.prog 86 #[u, v] w fun e w' => e = .returned (.int .i64 (cmpL x y)) ∧ w' = w := by
  obtain ⟨a, c, rfl⟩ := isV_slice hu
  obtain ⟨a2, c2, rfl⟩ := isV_slice hv
  have hl1 : x.length ≤ 1000000 := by
    obtain ⟨_, _, _, h, _⟩ := hu
    rwa [List.length_map] at h
  have hl2 : y.length ≤ 1000000 := by
    obtain ⟨_, _, _, h, _⟩ := hv
    rwa [List.length_map] at h
  have HU := hid hu
  have HV := hid hv
  clear hu hv
  have CM : Hid (∀ (x y : Int) (w : World), Calls Try.prog 89 #[.int .i64 x, .int .i64 y] w fun e w' => e = .returned (.int .i64 (Lib.compareInt x y)) ∧ w' = w) := Try.cmp_Compare_int
  rw [List.length_map] at HU HV ⊢
  rw [List.length_map]
  have S1 := hid (fun i h1 h2 => @cmpL_step x y i h1 h2)
  have S2 := hid (fun i h1 h2 => @cmpL_end x y i h1 h2)
  have S3 := hid (fun i h1 h2 => @cmpL_fin x y i h1 h2)
  obtain ⟨n, hn⟩ : ∃ n, n = x.length := ⟨_, rfl⟩
  obtain ⟨m, hm⟩ : ∃ m, m = y.length := ⟨_, rfl⟩
  have HN := hid hn
  have HM := hid hm
  rw [← hn] at hl1 HU S1 S2 S3 ⊢
  rw [← hm] at hl2 HV S1 S2 S3 ⊢
  clear hn hm
  go_enter Try.func86, Try.ntmps86
  go_wp2_with fail
  go_loopw [11] (fun iv wr => ∃ i : Nat, iv = .int .i64 i ∧ i ≤ n ∧ i ≤ m ∧ Hid (cmpL x y = cmpL (x.drop i) (y.drop i)) ∧ wr = w) (fun iv _ => n - (intOf iv).toNat)
  case atStart => exact ⟨0, rfl, Nat.zero_le _, Nat.zero_le _, by show _ = _; rfl, by first | rfl | trivial⟩
  case round =>
    obtain ⟨i, rfl, hi, him, HI, rfl⟩ := hrel
    by_cases hlt : i < n
    · have hli : i < x.length := by rw [← HN.out]; exact hlt
      obtain ⟨g, rfl, -, hc⟩ := isV_at HU.out i (by rw [List.length_map]; exact hli)
      rw [getD_map iv _ 0 i hli] at hc
      change wr.cell? _ = some (.int .i64 ((x.getD i 0 : Nat) : Int)) at hc
      by_cases hlm : i < m
      · have hlj : i < y.length := by rw [← HM.out]; exact hlm
        have hge : decide (m ≤ i) = false := decide_eq_false (by omega)
        obtain ⟨g2, rfl, -, hc2⟩ := isV_at HV.out i (by rw [List.length_map]; exact hlj)
        rw [getD_map iv _ 0 i hlj] at hc2
        change wr.cell? _ = some (.int .i64 ((y.getD i 0 : Nat) : Int)) at hc2
        have HST := hid (S1.out i hlt hlm)
        have HC := hid (CM.out ((x.getD i 0 : Nat) : Int) ((y.getD i 0 : Nat) : Int) wr)
        rw [cmpI] at HC
        generalize x.getD i 0 = p at *
        generalize y.getD i 0 = q at *
        by_cases hpq : p = q
        · rw [if_pos hpq] at HC HST
          have HNX : Hid (cmpL x y = cmpL (x.drop (i + 1)) (y.drop (i + 1))) := HI.out.trans HST.out
          clear hpq
          go_wp2_with (first | (go_at_call 89; refine HC.out.mono ?_; rintro e w6 ⟨rfl, rfl⟩) | fail)
          go_roundw
          case rel => exact ⟨i + 1, by go_num, by omega, by omega, HNX, by first | rfl | trivial⟩
          case measure => simp [intOf]; omega
        · rw [if_neg hpq] at HC HST
          by_cases hlt2 : p < q
          · rw [if_pos hlt2] at HC HST
            have HNX := hid (HI.out.trans HST.out)
            clear hpq hlt2
            go_wp2_with (first | (go_at_call 89; refine HC.out.mono ?_; rintro e w6 ⟨rfl, rfl⟩) | fail)
            go_ret
            exact ⟨by rw [HNX.out]; rfl, rfl⟩
          · rw [if_neg hlt2] at HC HST
            have HNX := hid (HI.out.trans HST.out)
            clear hpq hlt2
            go_wp2_with (first | (go_at_call 89; refine HC.out.mono ?_; rintro e w6 ⟨rfl, rfl⟩) | fail)
            go_ret
            exact ⟨by rw [HNX.out]; rfl, rfl⟩
      · have hge : decide (m ≤ i) = true := decide_eq_true (by omega)
        have HNX := hid (HI.out.trans (S2.out i hlt (by omega)))
        go_wp2_with fail
        go_ret
        exact ⟨by rw [HNX.out]; rfl, rfl⟩
    · obtain rfl : i = n := by omega
      have HNX := hid (HI.out.trans (S3.out i rfl him))
      by_cases hlm : i < m
      · have hd : decide (i < m) = true := decide_eq_true hlm
        rw [if_pos hlm] at HNX
        go_wp2_with fail
        go_ret
        exact ⟨by rw [HNX.out]; rfl, rfl⟩
      · have hd : decide (i < m) = false := decide_eq_false hlm
        rw [if_neg hlm] at HNX
        go_wp2_with fail
        go_ret
        exact ⟨by rw [HNX.out]; rfl, rfl⟩
end Go.Proofs.Ytaedbkdimpdngaa
