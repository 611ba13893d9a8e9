/-
  The walk over chapter 1: balanced rhythms, in the reference.
-/
import Derived.Test.YtpoekblolicehaaDoorWalkL
import Derived.Test.YtpoekblolicehaaDoorPlainK
import Derived.Test.YtpoekblolicehaaDoorLawWords
namespace Go.Proofs.YtpoekblolicehaaDoor
open Go.RowKit

theorem count_take_succ (l : Str) (i : Nat) (h : i < l.length) : (l.take (i + 1)).count 98 = (l.take i).count 98 + if l[i] = 98 then 1 else 0 := by
  rw [List.take_succ_eq_append_getElem h, List.count_append]
  congr 1
  by_cases hc : l[i] = 98
  · simp [hc]
  · simp [hc]

set_option maxHeartbeats 400000 in
theorem bs_any (s : ByteArray) (w : World) (hs : s.size ≤ 1000) :
    Calls Tryd.prog 54 #[.string s] w fun e w' => e = .returned (.int .i64 (s.data.toList.count 98 : Nat)) ∧ ∃ n, w' = w.drewN n := by
  go_enter Tryd.func54, Tryd.ntmps54
  go_wp2_with fail
  go_loopg [3, 4] s.size (fun g n i wr => ∃ x : Nat, x ≤ s.size ∧ g = s.size - x ∧ i = .int .i64 x ∧ n = .int .i64 ((s.data.toList.take x).count 98 : Nat) ∧ ∃ m, wr = w.drewN m)
  case atStart => exact ⟨0, by omega, by omega, rfl, rfl, 0, rfl⟩
  case round =>
    obtain ⟨x, hx, hgx, rfl, rfl, m, rfl⟩ := hrel
    have HGX := hid hgx; clear hgx
    by_cases hxl : x < s.size
    · have hcl : (s.data.toList.take x).count 98 ≤ x := Nat.le_trans List.count_le_length (by simp; omega)
      have hsx := count_take_succ s.data.toList x (by rw [data_size]; exact hxl)
      have hat : s.data.toList[x]'(by rw [data_size]; exact hxl) = s[x]'hxl := rfl
      rw [hat] at hsx
      have HSX := hid hsx
      clear hsx hat
      generalize (s.data.toList.take x).count 98 = c at *
      have i1 : (x : Int) < s.size := by omega
      have hbq : (((s[x]'hxl).toNat : Int) == 98) = ((s[x]'hxl) == 98) := by
        rw [Bool.eq_iff_iff, beq_iff_eq, beq_iff_eq, ← UInt8.toNat_inj]
        show _ ↔ (s[x]'hxl).toNat = 98
        omega
      by_cases hb : s[x]'hxl = 98
      · have hb2 : ((s[x]'hxl) == 98) = true := by simp [hb]
        rw [hb2] at hbq
        have hb3 : ((s[x]'hxl).toNat == 98) = true := by rw [hb]; rfl
        have HB := hid hb
        clear hb hb2
        go_wp2_with fail
        go_roundg (s.size - (x + 1))
        case measure => have := HGX.out; omega
        case rel => exact ⟨x + 1, by omega, rfl, by go_num, by rw [HSX.out, if_pos HB.out]; go_num, (by first | exact ⟨_, rfl⟩ | exact drew2 _ _ _)⟩
      · have hb2 : ((s[x]'hxl) == 98) = false := by simp [hb]
        rw [hb2] at hbq
        have hb3 : ((s[x]'hxl).toNat == 98) = false := by
          rw [beq_eq_false_iff_ne]; intro h; exact hb (UInt8.toNat_inj.1 h)
        have HB := hid hb
        clear hb hb2
        go_wp2_with fail
        go_roundg (s.size - (x + 1))
        case measure => have := HGX.out; omega
        case rel => exact ⟨x + 1, by omega, rfl, by go_num, by rw [HSX.out, if_neg HB.out]; go_num, (by first | exact ⟨_, rfl⟩ | exact drew2 _ _ _)⟩
    · go_wp2_with fail
      go_ret
      refine ⟨?_, _, rfl⟩
      have : x = s.size := by omega
      subst this
      have e : s.data.toList.take s.size = s.data.toList := List.take_of_length_le (by rw [data_size]; exact Nat.le_refl _)
      rw [e]; rfl

theorem ab_no (l : Str) (x : Nat) (h : x < l.length) (h2 : ¬ l[x].toNat ≤ 98) : ab l = false := by
  unfold ab
  rw [List.all_eq_false]
  exact ⟨l[x], List.getElem_mem h, by simpa using h2⟩
theorem ab_yes (l : Str) (h : ∀ x (hx : x < l.length), l[x].toNat ≤ 98) : ab l = true := by
  unfold ab
  rw [List.all_eq_true]
  intro c hc
  obtain ⟨i, hi, rfl⟩ := List.mem_iff_getElem.1 hc
  exact decide_eq_true (h i hi)

set_option maxHeartbeats 1000000 in
set_option maxRecDepth 100000 in
theorem rbalanced_any (s : ByteArray) (w : World) (hs : s.size ≤ 1000) :
    Calls Tryd.prog 53 #[.string s] w fun e w' => e = .returned (.bool (balanced s.data.toList)) ∧ ∃ n, w' = w.drewN n := by
  obtain ⟨R, hR⟩ : ∃ R, R = balanced s.data.toList := ⟨_, rfl⟩
  rw [← hR]
  have HR := hid hR
  clear hR
  have cB := hid (fun m i w (h : i + m ≤ s.size) => bs_any (s.extract i (i + m)) w (by rw [extract_size _ _ _ h]; omega))
  go_enter Tryd.func53, Tryd.ntmps53
  go_wp2_with fail
  go_loopg [3] s.size (fun g i wr => ∃ x : Nat, x ≤ s.size ∧ g = s.size - x ∧ i = .int .i64 x ∧ Hid (∀ j (hj : j < s.size), j < x → (s[j]'hj).toNat ≤ 98) ∧ ∃ m, wr = w.drewN m)
  case atStart => exact ⟨0, by omega, by omega, rfl, fun j _ hj => absurd hj (by omega), 0, rfl⟩
  case round =>
    obtain ⟨x, hx, hgx, rfl, HA, m, rfl⟩ := hrel
    have HGX := hid hgx; clear hgx
    by_cases hxl : x < s.size
    · have i1 : (x : Int) < s.size := by omega
      by_cases hb : (s[x]'hxl).toNat ≤ 98
      · have hb2 : decide ((s[x]'hxl).toNat > 98) = false := by simp; omega
        have hb3 : ¬ (98 < (s[x]'hxl).toNat) := by omega
        have hb4 : ¬ ((98 : Int) < ((s[x]'hxl).toNat : Int)) := by omega
        go_wp2_with fail
        go_roundg (s.size - (x + 1))
        case measure => have := HGX.out; omega
        case rel => exact ⟨x + 1, by omega, rfl, by go_num, fun j hj hjx => by
          by_cases he : j = x
          · subst he; exact hb
          · exact HA.out j hj (by omega), (by first | exact ⟨_, rfl⟩ | exact drew2 _ _ _)⟩
      · have hb2 : decide ((s[x]'hxl).toNat > 98) = true := by simp; omega
        have hb3 : (98 < (s[x]'hxl).toNat) := by omega
        have hb4 : ((98 : Int) < ((s[x]'hxl).toNat : Int)) := by omega
        go_wp2_with fail
        go_ret
        refine ⟨?_, _, rfl⟩
        rw [HR.out]
        unfold balanced
        rw [ab_no _ x (by rw [data_size]; exact hxl) hb]; rfl
    · have HAB := hid (ab_yes s.data.toList fun j hj => HA.out j (by rw [← data_size]; exact hj) (by rw [data_size] at hj; omega))
      clear HA
      go_wp2_with fail
      go_loopg [4] s.size (fun g i wr => ∃ k : Nat, k ≤ s.size ∧ g = s.size - k ∧ i = .int .i64 ((k : Int) + 1) ∧ Hid (∀ j, j < k → evenAt s.data.toList (j + 1) = true) ∧ ∃ m, wr = w.drewN m)
      case atStart => exact ⟨0, by omega, by omega, rfl, fun j hj => absurd hj (by omega), m, rfl⟩
      case round =>
        obtain ⟨k, hk, hgk, rfl, HE, m, rfl⟩ := hrel
        have HGK := hid hgk; clear hgk
        by_cases hkl : k < s.size
        · have i1 : (k : Int) + 1 ≤ s.size := by omega
          go_wp2_with fail
          go_loopg [5, 6, 7] (s.size - k) (fun g lo hi i wr => ∃ x : Nat, x ≤ s.size - k ∧ g = s.size - k - x ∧ i = .int .i64 x ∧ lo = .int .i64 (lowL s.data.toList (k + 1) (List.range x) : Nat) ∧ hi = .int .i64 (highL s.data.toList (k + 1) (List.range x) : Nat) ∧ ∃ m, wr = w.drewN m)
          case atStart => exact ⟨0, by omega, by omega, rfl, by simp [lowL], by simp [highL], m, rfl⟩
          case round =>
            obtain ⟨x, hx, hgx, rfl, rfl, rfl, m, rfl⟩ := hrel
            have HGX := hid hgx; clear hgx
            have hw : IntKind.i64.wrap ((x : Int) + ((k : Int) + 1)) = (x : Int) + ((k : Int) + 1) := IntWalk.i64_in _ (by omega)
            by_cases hxl : x + (k + 1) ≤ s.size
            · have cb1 := fun w => cB.out (k + 1) x w hxl
              have e1 : (s.extract x (x + (k + 1))).data.toList.count 98 = cb s.data.toList (k + 1) x := by rw [part_eq]; rfl
              rw [e1] at cb1
              have CB1 := hid cb1
              clear cb1 e1
              have i2 : (x : Int) + ((k : Int) + 1) ≤ s.size := by omega
              have hl := lowL_snoc s.data.toList (k + 1) (List.range x) x
              have hh := highL_snoc s.data.toList (k + 1) (List.range x) x
              rw [← List.range_succ] at hl hh
              have HLL := hid hl
              have HHH := hid hh
              clear hl hh
              generalize lowL s.data.toList (k + 1) (List.range x) = lo at *
              generalize highL s.data.toList (k + 1) (List.range x) = hi at *
              generalize cb s.data.toList (k + 1) x = ct at *
              have n1 : ((x : Int) + ((k : Int) + 1)).toNat = x + (k + 1) := by omega
              go_wp2_with fail
              go_quiet ((go_at_call 54; first | exact quiet_add (CB1.out _) | exact quiet_one (CB1.out _)))
              go_wp2_with fail
              go_roundg (s.size - k - (x + 1))
              case measure => have := HGX.out; omega
              case rel => exact ⟨x + 1, by omega, rfl, by go_num, by rw [HLL.out]; exact congrArg (Value.int .i64) (by omega), by rw [HHH.out]; exact congrArg (Value.int .i64) (by omega), (by first | exact ⟨_, rfl⟩ | exact drew2 _ _ _)⟩
            · obtain rfl : x = s.size + 1 - (k + 1) := by omega
              have hev : evenAt s.data.toList (k + 1) = decide (highL s.data.toList (k + 1) (List.range (s.size + 1 - (k + 1))) ≤ lowL s.data.toList (k + 1) (List.range (s.size + 1 - (k + 1))) + 1) := rfl
              have hl1 := lowL_le s.data.toList (k + 1) (List.range (s.size + 1 - (k + 1)))
              have hh1 := highL_le s.data.toList (k + 1) (List.range (s.size + 1 - (k + 1)))
              have i3 : ¬ ((s.size + 1 - (k + 1) : Nat) : Int) + ((k : Int) + 1) ≤ s.size := by omega
              generalize lowL s.data.toList (k + 1) (List.range (s.size + 1 - (k + 1))) = lo at *
              generalize highL s.data.toList (k + 1) (List.range (s.size + 1 - (k + 1))) = hi at *
              generalize s.size + 1 - (k + 1) = x at *
              have HEV := hid hev
              clear hev
              have hwr : IntKind.i64.wrap ((hi : Int) - (lo : Int)) = (hi : Int) - lo := IntWalk.i64_in _ (by omega)
              by_cases hle : hi ≤ lo + 1
              · have hd : decide ((hi : Int) - lo > 1) = false := by simp; omega
                have hd2 : ¬ (1 : Int) < (hi : Int) - lo := by omega
                go_wp2_with fail
                go_roundg (s.size - (k + 1))
                case measure => have := HGK.out; omega
                case rel => exact ⟨k + 1, by omega, rfl, by go_num, fun j hj => by
                  by_cases hjk : j < k
                  · exact HE.out j hjk
                  · obtain rfl : j = k := by omega
                    rw [HEV.out]; exact decide_eq_true hle, (by first | exact ⟨_, rfl⟩ | exact drew2 _ _ _)⟩
              · have hd : decide ((hi : Int) - lo > 1) = true := by simp; omega
                have hd2 : (1 : Int) < (hi : Int) - lo := by omega
                go_wp2_with fail
                go_ret
                refine ⟨?_, _, rfl⟩
                rw [HR.out]
                unfold balanced
                rw [balTo_no _ k _ (by rw [data_size]; exact hkl) (by rw [HEV.out]; exact decide_eq_false hle), Bool.and_false]; rfl
        · go_wp2_with fail
          go_ret
          refine ⟨?_, _, rfl⟩
          rw [HR.out]
          unfold balanced
          rw [HAB.out, balTo_yes _ _ (fun j hj => HE.out j (by rw [data_size] at hj; omega))]; rfl
end Go.Proofs.YtpoekblolicehaaDoor
