/-
  Same (11), decimal (10).
-/
import Derived.Test.YtlhmidecjiihcaaDoorGearG
import Derived.Test.YtlhmidecjiihcaaDoorRhyB
namespace Go.Proofs.YtlhmidecjiihcaaDoor
open Go.RowKit
set_option maxRecDepth 100000 in
set_option maxHeartbeats 1000000 in
theorem same1_any (ga oa ca gb cb : Nat) (z : Int) (w : World) (ha : w.cell? ⟨ga, oa, none⟩ = some (.int .i64 z)) (hb : w.cell? ⟨gb, 0, none⟩ = some (.int .i64 z)) :
    Calls Tryd.prog 11 #[.slice (some ⟨ga, oa, none⟩) 1 ca, .slice (some ⟨gb, 0, none⟩) 1 cb] w fun e w' => e = .returned (.bool true) ∧ Below w.heap.size w w' := by
  have HA := hid ha
  have HB := hid hb
  clear ha hb
  go_enter Tryd.func11, Tryd.ntmps11
  go_wp2_with fail
  go_loopw [5] (fun iv wr => (iv = .int .i64 0 ∨ iv = .int .i64 1) ∧ Hid (Below w.heap.size w wr)) (fun iv _ => 1 - (intOf iv).toNat)
  case atStart => exact ⟨.inl rfl, Below.refl _ _⟩
  case round =>
    obtain ⟨h, HBr⟩ := hrel
    rename World => wr
    rcases h with rfl | rfl
    · have ha := (HBr.out.cell (World.block_lt_of_cell? w _ HA.out)).trans HA.out
      have hb := (HBr.out.cell (World.block_lt_of_cell? w _ HB.out)).trans HB.out
      go_wp2_with fail
      go_quiet (fail)
      go_wp2_with fail
      go_roundw
      case rel => exact ⟨.inr rfl, below_drewN_r HBr.out _⟩
      case measure => simp [intOf]
    · go_wp2_with fail
      go_ret
      exact ⟨rfl, HBr.out⟩
theorem digit_str : ∀ d < 10, ((⟨#[48, 49, 50, 51, 52, 53, 54, 55, 56, 57]⟩ : ByteArray).extract d (d + 1)).data.toList = [UInt8.ofNat (48 + d)] := by
  intro d hd
  rw [ByteArray.data_extract]
  have h : d = 0 ∨ d = 1 ∨ d = 2 ∨ d = 3 ∨ d = 4 ∨ d = 5 ∨ d = 6 ∨ d = 7 ∨ d = 8 ∨ d = 9 := by omega
  rcases h with rfl | rfl | rfl | rfl | rfl | rfl | rfl | rfl | rfl | rfl <;> simp <;> decide
theorem str_of {b : ByteArray} {l : List UInt8} (h : b.data.toList = l) : b = ⟨l.toArray⟩ := by
  obtain ⟨⟨l'⟩⟩ := b
  cases h
  rfl
set_option maxRecDepth 100000 in
set_option maxHeartbeats 1000000 in
theorem decimal_any (V : Nat) (w : World) (hV : V < 1000000000) :
    Calls Tryd.prog 10 #[.int .i64 (V : Int)] w fun e w' => e = .returned (sd V) ∧ w' = w := by
  go_enter Tryd.func10, Tryd.ntmps10
  have hm : (V : Int) % 10 = ((V % 10 : Nat) : Int) := (Int.natCast_emod V 10).symm
  obtain ⟨q, hq⟩ : ∃ q, q = V % 10 := ⟨_, rfl⟩
  have hq10 : q < 10 := by omega
  rw [← hq] at hm
  have HQ := hid hq
  clear hq
  go_wp2_with fail
  clear hm
  go_loopw [0, 3] (fun uv sv wr => wr = w ∧ ∃ (k u : Nat) (s : ByteArray), uv = .int .i64 (u : Int) ∧ sv = .string s ∧ k ≤ 8 ∧ u < 1000000000 ∧ s.size = k + 1 ∧ Hid (u < 10 ^ (9 - k)) ∧ Hid (dec V = (digR (8 - k) (u / 10)).reverse ++ s.data.toList)) (fun uv _ _ => (intOf uv).toNat)
  case atStart =>
    have hsz : ((⟨#[48, 49, 50, 51, 52, 53, 54, 55, 56, 57]⟩ : ByteArray).extract q (q + 1)).size = 1 := by
      have h := congrArg List.length (digit_str q hq10)
      exact h
    refine ⟨rfl, 0, V, _, rfl, rfl, by decide, hV, hsz, hid hV, ?_⟩
    show dec V = _
    rw [digit_str q hq10, HQ.out]
    unfold dec
    by_cases h0 : V = 0
    · subst h0; rfl
    · rw [if_neg h0, digR_pos h0, List.reverse_cons]
  case round =>
    obtain ⟨rfl, k, u, s, rfl, rfl, hk, hu9, hss, HU, HD⟩ := hrel
    by_cases hu : 10 ≤ u
    · have hk7 : k ≤ 7 := by
        have h := HU.out
        rcases (by omega : k ≤ 7 ∨ k = 8) with h2 | rfl
        · exact h2
        · simp at h; omega
      obtain ⟨x, hx⟩ : ∃ x, x = u / 10 := ⟨_, rfl⟩
      have hd : (u : Int) / 10 = (x : Int) := by rw [hx]; exact (Int.natCast_ediv u 10).symm
      obtain ⟨q2, hq2⟩ : ∃ q2, q2 = x % 10 := ⟨_, rfl⟩
      have hm : (x : Int) % 10 = (q2 : Int) := by rw [hq2]; exact (Int.natCast_emod x 10).symm
      have hq210 : q2 < 10 := by omega
      have hxu : x < u := by omega
      have hx0 : x ≠ 0 := by omega
      have HXU : Hid (x < 10 ^ (9 - (k + 1))) := hid (by
        have h := HU.out
        rw [show 9 - k = (9 - (k + 1)) + 1 by omega, Nat.pow_succ] at h
        omega)
      have HD2 : Hid (dec V = (digR (8 - (k + 1)) (x / 10)).reverse ++ (UInt8.ofNat (48 + q2) :: s.data.toList)) := hid (by
        rw [HD.out, ← hx, show 8 - k = (8 - (k + 1)) + 1 by omega, digR_pos hx0, List.reverse_cons, hq2, List.append_assoc]
        rfl)
      have HS := hid (digit_str q2 hq210)
      have hui : (10 : Int) ≤ (u : Int) := by omega
      have hx9 : x < 1000000000 := by omega
      have hss9 : s.size ≤ 9 := by omega
      have HSS := hid hss
      clear hss
      clear hx hq2 HD HU
      go_wp2_with fail
      go_roundw
      case rel =>
        refine ⟨trivial, k + 1, x, _, by go_num, rfl, by omega, hx9, ?_, HXU, ?_⟩
        · have h := congrArg List.length HS.out
          rw [ByteArray.size_append, HSS.out]
          have h2 : ((⟨#[48, 49, 50, 51, 52, 53, 54, 55, 56, 57]⟩ : ByteArray).extract q2 (q2 + 1)).size = 1 := h
          rw [h2]; omega
        show dec V = _
        rw [HD2.out, ByteArray.data_append, Array.toList_append, HS.out]
        rfl
      case measure => simp [intOf]; omega
    · have HE : Hid (sd V = .string s) := hid (by
        have h := HD.out
        rw [show u / 10 = 0 by omega, digR_zero, List.reverse_nil, List.nil_append] at h
        unfold sd
        rw [h, ← str_of rfl])
      have hui : ¬ (10 : Int) ≤ (u : Int) := by omega
      clear HD HU
      go_wp2_with fail
      go_ret
      exact ⟨by rw [HE.out]; rfl, rfl⟩
end Go.Proofs.YtlhmidecjiihcaaDoor
