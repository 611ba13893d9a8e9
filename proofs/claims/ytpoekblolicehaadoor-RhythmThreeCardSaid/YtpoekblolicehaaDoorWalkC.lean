/-
  Walks over chapter 1: two lists of integers that are the same; the local period at a position, in the program and in the reference.
-/
import Derived.Test.YtpoekblolicehaaDoorWalkB
namespace Go.Proofs.YtpoekblolicehaaDoor
open Go.RowKit
theorem drew2 (w : World) (a b : Nat) : ∃ m, (w.drewN a).drewN b = w.drewN m := ⟨a + b, by simp [World.drewN, Nat.add_assoc]⟩
set_option maxHeartbeats 400000 in
theorem same_any (v u : Value) (xs ys : List Int) (w : World) (hv : IsInts w v xs) (hu : IsInts w u ys) :
    Calls Tryd.prog 25 #[v, u] w fun e w' => e = .returned (.bool (xs == ys)) ∧ ∃ n, w' = w.drewN n := by
  obtain ⟨a, c, rfl, hn, Ha⟩ := hv
  obtain ⟨b, d, rfl, hm, Hb⟩ := hu
  unfold maxLen at hn hm
  have HA := hid Ha
  have HB := hid Hb
  clear Ha Hb
  by_cases h : xs.length = ys.length
  · rw [← h]
    have H := hid h
    clear h
    generalize hN : xs.length = n at *
    have HN := hid hN
    clear hN
    go_enter Tryd.func25, Tryd.ntmps25
    go_wp2
    go_loopw [5] (fun i wr => ∃ k : Nat, k ≤ n ∧ i = .int .i64 k ∧ xs.take k = ys.take k ∧ ∃ j, wr = w.drewN j) (fun i _ => n - (intOf i).toNat)
    case atStart => exact ⟨0, Nat.zero_le _, rfl, rfl, 0, rfl⟩
    case round =>
        obtain ⟨k, hk, rfl, ht, j, rfl⟩ := hrel
        have Ht := hid ht; clear ht
        by_cases hlt : k < n
        · obtain ⟨g, rfl, ca⟩ := HA.out k hlt
          obtain ⟨g', rfl, cb⟩ := HB.out k (by rw [← H.out]; exact hlt)
          by_cases hc : ix xs k = ix ys k
          · have Hc := hid hc
            have hc' : (ix xs k != ix ys k) = false := by simp [hc]
            clear hc
            go_wp2
            go_quiet (fail)
            go_wp2
            go_roundw
            case rel => exact ⟨k + 1, by omega, by go_num, take_eq_succ Ht.out (by rw [HN.out]; exact hlt) (by rw [← H.out]; exact hlt) Hc.out, (by first | exact ⟨_, rfl⟩ | exact drew2 _ _ _)⟩
            case measure => simp [intOf]; omega
          · have Hc := hid hc
            have hc' : (ix xs k != ix ys k) = true := by simp [hc]
            clear hc
            go_wp2
            go_quiet (fail)
            go_wp2
            go_ret
            exact ⟨ret_bool (by rw [eq_comm, beq_eq_false_iff_ne]; exact ix_ne Hc.out), (by first | exact ⟨_, rfl⟩ | exact drew2 _ _ _)⟩
        · go_wp2
          go_ret
          obtain rfl : k = n := by omega
          exact ⟨ret_bool (by
            have := Ht.out
            rw [List.take_of_length_le (by rw [HN.out]; exact Nat.le_refl _), List.take_of_length_le (by rw [← H.out]; exact Nat.le_refl _)] at this
            rw [this]; simp), _, rfl⟩
  · have h' : ((xs.length : Int) != (ys.length : Int)) = true := by simp; omega
    go_enter Tryd.func25, Tryd.ntmps25
    go_wp2
    go_ret
    exact ⟨ret_bool (by rw [eq_comm, beq_eq_false_iff_ne]; intro e; exact h (by rw [e])), 0, rfl⟩

set_option maxHeartbeats 400000 in
theorem local_any (s : ByteArray) (i : Int) (p : Nat) (w : World) (hi : i = p) (h1 : 1 ≤ p) (hp : p < s.size) (hs : s.size ≤ 1000) :
    Calls Tryd.prog 57 #[.string s, .int .i64 i] w fun e w' => e = .returned (.int .i64 (loc s.data.toList p)) ∧ ∃ n, w' = w.drewN n := by
  subst hi
  go_enter Tryd.func57, Tryd.ntmps57
  go_wp2
  go_loopw [5] (fun i wr => ∃ k : Nat, 1 ≤ k ∧ k ≤ s.size ∧ i = .int .i64 k ∧ (∀ r, 1 ≤ r → r < k → locOk s.data.toList p r = false) ∧ ∃ n, wr = w.drewN n) (fun i _ => s.size + 1 - (intOf i).toNat)
  case atStart => exact ⟨1, Nat.le_refl _, by omega, rfl, fun r _ _ => by omega, 0, rfl⟩
  case round =>
    obtain ⟨k, hk1, hk, rfl, hall, n, rfl⟩ := hrel
    have Hall := hid hall; clear hall
    obtain ⟨f, hf⟩ : ∃ f, f = p - k := ⟨_, rfl⟩
    obtain ⟨u, hu⟩ : ∃ u, u = min p (s.size - k) := ⟨_, rfl⟩
    have e1 : max 0 ((p : Int) - (k : Int)) = (f : Int) := by omega
    have e2 : min (p : Int) ((s.size : Int) - (k : Int)) = (u : Int) := by omega
    have hok : locOk s.data.toList p k = ((s.extract f u).toList == (s.extract (f + k) (u + k)).toList) := by
      rw [Lib.extract_toList, Lib.extract_toList]
      unfold locOk
      rw [data_size, ← hf, ← hu, show u + k - (f + k) = u - f by omega]
    have Hok := hid hok
    have b1 : f ≤ s.size := by omega
    have b2 : u ≤ s.size := by omega
    have b3 : u + k ≤ s.size := by omega
    have E1 := hid e1
    have E2 := hid e2
    have HF := hid hf
    have HU := hid hu
    clear hok e1 e2 hf hu
    by_cases hg : u ≤ f
    · have hd : decide ((u : Int) ≤ (f : Int)) = true := by simp; omega
      go_wp2
      rw [E1.out, E2.out]
      go_quiet (fail)
      go_wp2
      go_ret
      have hkt : locOk s.data.toList p k = true := by
        rw [Hok.out, beq_iff_eq, Lib.extract_toList, Lib.extract_toList, show u - f = 0 by omega, show u + k - (f + k) = 0 by omega]; simp
      exact ⟨ret_int (by rw [loc_of hk1 (by exact hk) hkt Hall.out]), (by first | exact ⟨_, rfl⟩ | exact drew2 _ _ _)⟩
    · have hd : decide ((u : Int) ≤ (f : Int)) = false := by simp; omega
      go_wp2
      rw [E1.out, E2.out]
      go_quiet (fail)
      go_wp2
      · go_ret
        exact ⟨ret_int (by rw [loc_of hk1 (by exact hk) (by rw [Hok.out]; assumption) Hall.out]), (by first | exact ⟨_, rfl⟩ | exact drew2 _ _ _)⟩
      · go_roundw
        case rel =>
          have hno : locOk s.data.toList p k = false := by rw [Hok.out]; assumption
          refine ⟨k + 1, by omega, ?_, by go_num, fun r hr1 hr2 => ?_, (by first | exact ⟨_, rfl⟩ | exact drew2 _ _ _)⟩
          · have : k ≠ s.size := by
              rintro rfl
              have := locOk_all s.data.toList p
              rw [data_size, hno] at this
              cases this
            omega
          · by_cases h : r < k
            · exact Hall.out r hr1 h
            · obtain rfl : r = k := by omega
              exact hno
        case measure => simp [intOf]; omega
/-- letters match from f up to j, at the distance k -/
def pm (l : Str) (f k j : Nat) : Bool := (l.drop f).take (j - f) == (l.drop (f + k)).take (j - f)
theorem pm_start (l : Str) (f k : Nat) : pm l f k f = true := by simp [pm]
theorem take_drop_succ (l : Str) (f n : Nat) (h : f + n < l.length) : (l.drop f).take (n + 1) = (l.drop f).take n ++ [l[f + n]] := by
  rw [List.take_succ_eq_append_getElem (by simp; omega)]
  simp
theorem append_single_beq (a b : Str) (x y : UInt8) (h : a.length = b.length) : ((a ++ [x]) == (b ++ [y])) = (a == b && x == y) := by
  rw [Bool.eq_iff_iff]
  simp only [beq_iff_eq, Bool.and_eq_true]
  constructor
  · intro e
    have := List.append_inj e h
    simpa using this
  · rintro ⟨rfl, rfl⟩; rfl
theorem pm_succ (l : Str) (f k j : Nat) (hj : f ≤ j) (h1 : j < l.length) (h2 : j + k < l.length) : pm l f k (j + 1) = (pm l f k j && l[j] == l[j + k]) := by
  obtain ⟨n, rfl⟩ : ∃ n, j = f + n := ⟨j - f, by omega⟩
  unfold pm
  rw [show f + n + 1 - f = n + 1 by omega, show f + n - f = n by omega, take_drop_succ l f n h1, take_drop_succ l (f + k) n (by omega),
    append_single_beq _ _ _ _ (by simp; omega)]
  congr 3
  omega
theorem byte_beq (a b : UInt8) : ((a.toNat : Int) == (b.toNat : Int)) = (a == b) := by
  rw [Bool.eq_iff_iff]
  simp only [beq_iff_eq]
  rw [← UInt8.toNat_inj]
  omega
theorem locOk_pm (l : Str) (i q : Nat) : locOk l i q = pm l (i - q) q (min i (l.length - q)) := rfl
theorem locOk_none (l : Str) (i q : Nat) (h : ¬ i - q < min i (l.length - q)) : locOk l i q = true := by
  unfold locOk
  rw [show min i (l.length - q) - (i - q) = 0 by omega]
  simp

set_option maxHeartbeats 400000 in
theorem rlocal_any (s : ByteArray) (i : Int) (p : Nat) (w : World) (hi : i = p) (h1 : 1 ≤ p) (hp : p < s.size) (hs : s.size ≤ 1000) :
    Calls Tryd.prog 59 #[.string s, .int .i64 i] w fun e w' => e = .returned (.int .i64 (loc s.data.toList p)) ∧ ∃ n, w' = w.drewN n := by
  subst hi
  go_enter Tryd.func59, Tryd.ntmps59
  go_wp2
  go_loopw [6] (fun i wr => ∃ k : Nat, 1 ≤ k ∧ k ≤ s.size ∧ i = .int .i64 k ∧ (∀ r, 1 ≤ r → r < k → locOk s.data.toList p r = false) ∧ ∃ n, wr = w.drewN n) (fun i _ => s.size + 1 - (intOf i).toNat)
  case atStart => exact ⟨1, Nat.le_refl _, by omega, rfl, fun r _ _ => by omega, 0, rfl⟩
  case round =>
    obtain ⟨k, hk1, hk, rfl, hall, n, rfl⟩ := hrel
    have Hall := hid hall; clear hall
    go_wp2
    obtain ⟨wo, hwo⟩ : ∃ wo, wo = w.drewN n := ⟨_, rfl⟩
    rw [← hwo]
    have HWO := hid hwo; clear hwo
    go_loopw [7, 8] (fun ok i wr => ∃ (j : Nat), p - k ≤ j ∧ j ≤ max (p - k) (min p (s.size - k)) ∧ i = .int .i64 j ∧ ok = .bool (pm s.data.toList (p - k) k j) ∧ ∃ n, wr = wo.drewN n) (fun _ i _ => s.size + 1 - (intOf i).toNat)
    case atStart => exact ⟨p - k, Nat.le_refl _, by omega, by go_num, by rw [pm_start], 0, rfl⟩
    case round =>
      obtain ⟨j, hj, hju, rfl, rfl, m, rfl⟩ := hrel
      by_cases hlt : j < min p (s.size - k)
      · have hb1 : j < s.size := by omega
        have hb2 : j + k < s.size := by omega
        have hb3 : (j : Int) < (min (p : Int) ((s.size : Int) - k)) := by omega
        have e3 : (j : Int) + (k : Int) < (s.size : Int) := by omega
        have e0 : 0 ≤ (j : Int) + (k : Int) := by omega
        have e2 : ((j : Int) + (k : Int)).toNat = j + k := by omega
        have e1 : IntKind.i64.wrap ((j : Int) + (k : Int)) = (j : Int) + (k : Int) := IntWalk.i64_in _ (by omega)
        have hstep := pm_succ s.data.toList (p - k) k j hj hb1 hb2
        have Hs := hid hstep; clear hstep
        generalize pm s.data.toList (p - k) k j = b at *
        cases b
        · go_wp2
          go_quiet (fail)
          go_wp2
          go_roundw
          case rel => exact ⟨j + 1, by omega, by omega, by go_num, by rw [Hs.out]; rfl, (by first | exact ⟨_, rfl⟩ | exact drew2 _ _ _)⟩
          case measure => simp [intOf]; omega
        · go_wp2
          go_quiet (fail)
          go_wp2
          go_roundw
          case rel => exact ⟨j + 1, by omega, by omega, by go_num, by rw [Hs.out, byte_beq]; rfl, (by first | exact ⟨_, rfl⟩ | exact drew2 _ _ _)⟩
          case measure => simp [intOf]; omega
      · have hb3 : ¬ (j : Int) < (min (p : Int) ((s.size : Int) - k)) := by omega
        have hok : locOk s.data.toList p k = pm s.data.toList (p - k) k j := by
          by_cases hc : p - k ≤ min p (s.size - k)
          · rw [locOk_pm, data_size, show min p (s.size - k) = j by omega]
          · rw [locOk_none _ _ _ (by rw [data_size]; omega), show j = p - k by omega, pm_start]
        have Hok := hid hok; clear hok hju
        generalize pm s.data.toList (p - k) k j = b at *
        cases b
        · go_wp2
          go_roundw
          case rel =>
            have hno : locOk s.data.toList p k = false := Hok.out
            have hne : k ≠ s.size := by
              rintro rfl
              have := locOk_all s.data.toList p
              rw [data_size, hno] at this
              cases this
            refine ⟨k + 1, by omega, by omega, by go_num, fun r hr1 hr2 => ?_, by rw [HWO.out]; (first | exact ⟨_, rfl⟩ | exact drew2 _ _ _)⟩
            by_cases h : r < k
            · exact Hall.out r hr1 h
            · obtain rfl : r = k := by omega
              exact hno
          case measure => simp [intOf]; omega
        · go_wp2
          go_ret
          exact ⟨ret_int (by rw [loc_of hk1 (by exact hk) Hok.out Hall.out]), by rw [HWO.out]; (first | exact ⟨_, rfl⟩ | exact drew2 _ _ _)⟩
end Go.Proofs.YtpoekblolicehaaDoor
