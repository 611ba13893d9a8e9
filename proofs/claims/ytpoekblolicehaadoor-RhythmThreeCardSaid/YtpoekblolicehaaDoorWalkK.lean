/-
  A rhythm of some letters, as the statements of chapter 1 make it out of bytes.
-/
import Derived.Test.YtpoekblolicehaaDoorWalkJ
import Derived.Test.YtpoekblolicehaaDoorFrame
namespace Go.Proofs.YtpoekblolicehaaDoor
open Go.RowKit

theorem isRow_at {k : IntKind} {w : World} {a : Option Addr} {len cap : Nat} {zs : List Int} (h : IsRow k w a len cap zs) {i : Nat} (hi : i < len) :
    ∃ b off, a = some ⟨b, off, none⟩ ∧ w.cell? ⟨b, off + i, none⟩ = some (.int k (zs.getD i 0)) ∧ (Lit.int k (zs.getD i 0)).wf = true := by
  rcases h with ⟨_, h0, _⟩ | ⟨x, rfl, hl, hm, hz, hc, hw⟩
  · omega
  · have hc0 := hc i (by omega)
    have hcz := hc 0 (by omega)
    obtain ⟨b, off, spot⟩ := x
    have hspot : spot = none := by simpa [Addr.add] using World.cell?_spot hcz
    subst hspot
    have hadd : (⟨b, off, none⟩ : Addr).add i = ⟨b, off + i, none⟩ := by
      unfold Addr.add
      split <;> simp_all
    rw [hadd] at hc0
    refine ⟨b, off, rfl, hc0, hw _ ?_⟩
    rw [List.getD_eq_getElem?_getD, List.getElem?_eq_getElem (by omega)]
    simp
theorem isRow_len {k : IntKind} {w : World} {a : Option Addr} {len cap : Nat} {zs : List Int} (h : IsRow k w a len cap zs) : len ≤ maxLen := by
  rcases h with ⟨_, h0, _⟩ | ⟨x, rfl, hl, hm, hz, hc, hw⟩
  · subst h0; exact Nat.zero_le _
  · omega

theorem wf_u8 {z : Int} (h : (Lit.int .u8 z).wf = true) : 0 ≤ z ∧ z ≤ 255 := by
  simp [Lit.wf, IntKind.min, IntKind.max, IntKind.bits, IntKind.signed] at h
  omega
theorem ext4 (z : Int) : ∃ c, (⟨#[97, 98, 99, 100]⟩ : ByteArray).extract (z % 4).toNat (z % 4 + 1).toNat = ⟨#[c]⟩ ∧ letter c = true := by
  have h : z % 4 = 0 ∨ z % 4 = 1 ∨ z % 4 = 2 ∨ z % 4 = 3 := by omega
  rcases h with h | h | h | h <;> rw [h]
  · exact ⟨97, rfl, rfl⟩
  · exact ⟨98, rfl, rfl⟩
  · exact ⟨99, rfl, rfl⟩
  · exact ⟨100, rfl, rfl⟩
theorem snoc_data (t : ByteArray) (c : UInt8) : (t ++ ⟨#[c]⟩).data.toList = t.data.toList ++ [c] := by
  rw [ByteArray.data_append]; simp
theorem snoc_size (t : ByteArray) (c : UInt8) : (t ++ ⟨#[c]⟩).size = t.size + 1 := by
  rw [ByteArray.size_append]; rfl

set_option maxHeartbeats 400000 in
theorem made_any (a : Option Addr) (len cap : Nat) (zs : List Int) (m : Nat) (w : World) (hr : IsRow .u8 w a len cap zs) (hm1 : 1 ≤ m) (hm : m ≤ 200) :
    Calls Tryd.prog 37 #[.slice a len cap, .int .i64 m] w fun e w' => ∃ t : ByteArray, e = .returned (.string t) ∧ chk t.data.toList = 0 ∧ t.size ≤ m ∧ ∃ n, w' = w.drewN n := by
  have HR := hid hr
  have hl := isRow_len hr
  unfold maxLen at hl
  clear hr
  go_enter Tryd.func37, Tryd.ntmps37
  go_wp2
  go_loopg [5, 6] len (fun g s i wr => ∃ (k : Nat) (t : ByteArray), k ≤ len ∧ k ≤ m ∧ g = len - k ∧ i = .int .i64 k ∧ s = .string t ∧ t.size = k ∧ t.data.toList.all letter = true ∧ ∃ n, wr = w.drewN n)
  case atStart => exact ⟨0, ⟨#[]⟩, Nat.zero_le _, Nat.zero_le _, by omega, rfl, rfl, rfl, rfl, 0, rfl⟩
  case round =>
    obtain ⟨k, t, hk, hkm, hgk, rfl, rfl, hts, hall, n, rfl⟩ := hrel
    have HGK := hid hgk; clear hgk
    have HT := hid hts
    have hts2 : t.size ≤ 200 := by omega
    clear hts
    have HAL := hid hall; clear hall
    by_cases hlt : k < len
    · by_cases hlm : k < m
      · obtain ⟨b, off, rfl, hc, hw⟩ := isRow_at HR.out hlt
        generalize zs.getD k 0 = z at *
        obtain ⟨hz0, hz1⟩ := wf_u8 hw
        obtain ⟨c, hec, hlc⟩ := ext4 z
        have Hec := hid hec
        have Hlc := hid hlc
        clear hw hec hlc
        have hsz : t.size + ((⟨#[97, 98, 99, 100]⟩ : ByteArray).extract (z % 4).toNat (z % 4 + 1).toNat).size ≤ 1000 := by
          rw [Hec.out]; show t.size + 1 ≤ 1000; omega
        go_wp2
        go_quiet (fail)
        go_wp2
        go_roundg (len - (k + 1))
        case measure => have := HGK.out; omega
        case rel =>
          refine ⟨k + 1, t ++ ⟨#[c]⟩, by omega, by omega, rfl, by go_num, by rw [Hec.out], by rw [snoc_size, HT.out], ?_, (by first | exact ⟨_, rfl⟩ | exact drew2 _ _ _)⟩
          rw [snoc_data, List.all_append, HAL.out]
          simp [Hlc.out]
      · have hdr : ∀ j : Nat, ∃ n, w.drewN j = w.drewN n := fun j => ⟨j, rfl⟩
        have HD := hid hdr; clear hdr
        have hce := chk_good (l := t.data.toList) (by rw [data_size]; omega) HAL.out
        rw [← toList_data] at hce
        have HC := hid hce; clear hce
        by_cases he : t.toList.isEmpty = true
        · rw [if_pos he] at HC
          go_wp2
          go_ret
          exact ⟨_, rfl, by decide, hm1, HD.out _⟩
        · have he' : t.toList.isEmpty = false := by simpa using he
          rw [if_neg he] at HC
          clear he
          go_wp2
          go_ret
          exact ⟨t, rfl, by rw [← toList_data]; exact HC.out, by rw [HT.out]; omega, HD.out _⟩
    · have hdr : ∀ j : Nat, ∃ n, w.drewN j = w.drewN n := fun j => ⟨j, rfl⟩
      have HD := hid hdr; clear hdr
      have hce := chk_good (l := t.data.toList) (by rw [data_size]; omega) HAL.out
      rw [← toList_data] at hce
      have HC := hid hce; clear hce
      by_cases he : t.toList.isEmpty = true
      · rw [if_pos he] at HC
        go_wp2
        go_ret
        exact ⟨_, rfl, by decide, hm1, HD.out _⟩
      · have he' : t.toList.isEmpty = false := by simpa using he
        rw [if_neg he] at HC
        clear he
        go_wp2
        go_ret
        exact ⟨t, rfl, by rw [← toList_data]; exact HC.out, by rw [HT.out]; omega, HD.out _⟩
end Go.Proofs.YtpoekblolicehaaDoor
