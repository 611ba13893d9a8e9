/-
  How the statements of chapter 1 cut their strings; what is no rhythm, in the reference.
-/
import Derived.Test.YtpoekblolicehaaDoorLives
namespace Go.Proofs.YtpoekblolicehaaDoor
open Go.RowKit

/-- how many bytes cut leaves -/
def cutN (n m : Nat) : Nat := if 200 < n then 201 else min n m
theorem cutN_le (n m : Nat) : cutN n m ≤ n ∧ cutN n m ≤ 201 := by unfold cutN; split <;> omega

set_option maxHeartbeats 400000 in
theorem cut_any (s : ByteArray) (m : Nat) (w : World) (hs : s.size ≤ maxLen) (hm : m ≤ 1000) :
    Calls Tryd.prog 21 #[.string s, .int .i64 m] w fun e w' => e = .returned (.string (s.extract 0 (cutN s.size m))) ∧ w' = w := by
  unfold maxLen at hs
  unfold cutN
  by_cases h : 200 < s.size
  · rw [if_pos h]
    go_enter Tryd.func21, Tryd.ntmps21
    go_wp2
    go_ret
    exact ⟨rfl, rfl⟩
  · rw [if_neg h]
    have e1 : min (s.size : Int) (m : Int) = ((min s.size m : Nat) : Int) := by omega
    have E1 := hid e1; clear e1
    have h2 : min s.size m ≤ s.size := by omega
    generalize min s.size m = k at *
    go_enter Tryd.func21, Tryd.ntmps21
    go_wp2
    go_ret
    exact ⟨ret_eq (congrArg Value.string (by show s.extract 0 (min (s.size : Int) (m : Int)).toNat = _; rw [E1.out, Int.toNat_natCast])), rfl⟩

theorem chk_bad {l : Str} {k : Nat} (h : ¬ 200 < l.length) (hk : k < l.length) (hb : letter l[k] = false) : chk l = 2 := by
  unfold chk
  rw [if_neg h, if_pos]
  have : l.all letter = false := by
    rw [List.all_eq_false]
    exact ⟨l[k], List.getElem_mem _, by simp [hb]⟩
  simp [this]
theorem chk_good {l : Str} (h : ¬ 200 < l.length) (ha : l.all letter = true) : chk l = if l.isEmpty = true then 2 else 0 := by
  unfold chk
  rw [if_neg h, ha]
  simp
theorem take_all_succ {l : Str} {k : Nat} (h : (l.take k).all letter = true) (hk : k < l.length) (hl : letter l[k] = true) : (l.take (k + 1)).all letter = true := by
  rw [List.take_succ_eq_append_getElem hk, List.all_append, h]
  simp [hl]

set_option maxHeartbeats 400000 in
theorem rcheck_any (s : ByteArray) (w : World) (hs : s.size ≤ 1000) :
    Calls Tryd.prog 23 #[.string s] w fun e w' => e = .returned (.int .i64 (chk s.data.toList)) ∧ ∃ n, w' = w.drewN n := by
  by_cases h1 : 200 < s.size
  · go_enter Tryd.func23, Tryd.ntmps23
    go_wp2
    go_ret
    exact ⟨ret_int (by unfold chk; rw [if_pos (by simpa using h1)]), 0, rfl⟩
  · go_enter Tryd.func23, Tryd.ntmps23
    go_wp2
    go_loopg [3] s.size (fun g i wr => ∃ k : Nat, k ≤ s.size ∧ g = s.size - k ∧ i = .int .i64 k ∧ (s.data.toList.take k).all letter = true ∧ ∃ j, wr = w.drewN j)
    case atStart => exact ⟨0, Nat.zero_le _, by omega, rfl, rfl, 0, rfl⟩
    case round =>
      obtain ⟨k, hk, hgk, rfl, ht, j, rfl⟩ := hrel
      have Ht := hid ht; clear ht
      have HGK := hid hgk; clear hgk
      by_cases hlt : k < s.size
      · have hdr : ∀ j : Nat, ∃ n, w.drewN j = w.drewN n := fun j => ⟨j, rfl⟩
        have HD := hid hdr; clear hdr
        by_cases ha : s[k].toNat < 97
        · have hb : (s[k].toNat : Int) < 97 := by omega
          have hl : letter s[k] = false := by unfold letter; simp; omega
          have Hl := hid hl; clear hl
          go_wp2
          go_ret
          exact ⟨ret_int (by rw [chk_bad (by simpa using h1) hlt Hl.out]), HD.out _⟩
        · by_cases hb : 100 < s[k].toNat
          · have hb2 : ¬ (s[k].toNat : Int) < 97 := by omega
            have hb3 : 100 < (s[k].toNat : Int) := by omega
            have hl : letter s[k] = false := by unfold letter; simp; omega
            have Hl := hid hl; clear hl
            go_wp2
            go_ret
            exact ⟨ret_int (by rw [chk_bad (by simpa using h1) hlt Hl.out]), HD.out _⟩
          · have hb2 : ¬ (s[k].toNat : Int) < 97 := by omega
            have hb3 : ¬ 100 < (s[k].toNat : Int) := by omega
            have hl : letter s[k] = true := by unfold letter; simp; omega
            have Hl := hid hl; clear hl
            go_wp2
            go_roundg (s.size - (k + 1))
            case measure => have := HGK.out; omega
            case rel => exact ⟨k + 1, by omega, rfl, by go_num, take_all_succ Ht.out hlt Hl.out, HD.out _⟩
      · obtain rfl : k = s.size := by omega
        have hall : s.data.toList.all letter = true := by
          have := Ht.out
          rwa [List.take_of_length_le (by exact Nat.le_refl _)] at this
        have hc := chk_good (l := s.data.toList) (by simpa using h1) hall
        rw [← toList_data] at hc
        have Hc := hid hc; clear hc hall
        by_cases he : s.toList.isEmpty = true
        · rw [if_pos he] at Hc
          go_wp2
          go_ret
          exact ⟨ret_int (by rw [← toList_data, Hc.out]), _, rfl⟩
        · have he' : s.toList.isEmpty = false := by simpa using he
          rw [if_neg he] at Hc
          clear he
          go_wp2
          go_ret
          exact ⟨ret_int (by rw [← toList_data, Hc.out]), _, rfl⟩
end Go.Proofs.YtpoekblolicehaaDoor
