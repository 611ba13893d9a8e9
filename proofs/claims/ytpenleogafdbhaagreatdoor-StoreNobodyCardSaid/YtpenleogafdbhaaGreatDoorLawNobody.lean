/-
  Disks and stores that nobody made: the law's walk.
-/
import Derived.Test.YtpenleogafdbhaaGreatDoorZ15
namespace Go.Proofs.YtpenleogafdbhaaGreatDoor
open Go.RowKit Go.Maps Go.ChangeMaps Go.WideElems Go.WideShapes Go.WideAt Go.WideMaps
set_option maxRecDepth 100000 in
set_option maxHeartbeats 16000000 in
theorem StoreNobody_ok (n : Int) (s : ByteArray) (w : World) (hG : Glb w) : Calls Tryz.prog 13 #[.int .i64 n, .string s] w fun e w' => e = .returned (.bool true) ∧ Below w.heap.size w w' := by
  have HG := hid hG
  clear hG
  go_enter Tryz.func13, Tryz.ntmps13
  go_upto_region 4 with fail
  have HA := hid (ba w (.cells #[.bool false, .map none, .bool false, .int .i64 0, .int .i64 0] 51))
  have HX1 := hid (heap_alloc_new w (.cells #[.bool false, .map none, .bool false, .int .i64 0, .int .i64 0] 51))
  have hsz : (w.alloc (.cells #[.bool false, .map none, .bool false, .int .i64 0, .int .i64 0] 51)).heap.size = w.heap.size + 1 := alloc_sz _ _
  generalize w.alloc (.cells #[.bool false, .map none, .bool false, .int .i64 0, .int .i64 0] 51) = wa at *
  obtain ⟨b1, hb1⟩ : ∃ b, b = w.heap.size := ⟨_, rfl⟩
  rw [← hb1] at HX1 hsz ⊢
  clear hb1
  have HA2 := ba wa (.cells #[.pointer none, .pointer (some ⟨b1, 0, none⟩)] 31)
  have HX2 := hid (heap_alloc_new wa (.cells #[.pointer none, .pointer (some ⟨b1, 0, none⟩)] 31))
  have HX1' := hid ((HA2.block b1 (heap_lt HX1.out)).trans HX1.out)
  have HB2 := hid (below_step HA.out HA2)
  rw [hsz] at HX2
  clear HA2 hsz
  generalize wa.alloc (.cells #[.pointer none, .pointer (some ⟨b1, 0, none⟩)] 31) = wb at *
  go_loopw [22] (fun kv wr => ∃ k : Nat, kv = .int .i64 (k : Int) ∧ k ≤ 2 ∧ Hid (Below wb.heap.size wb wr)) (fun kv _ => 2 - (intOf kv).toNat)
  case atStart => exact ⟨0, rfl, Nat.zero_le _, Below.refl _ _⟩
  case round =>
    obtain ⟨k, rfl, hk, HBR⟩ := hrel
    rename World => wr
    have HK0 := hid (Below.refl wr.heap.size wr)
    by_cases hlt : k < 2
    · obtain ⟨v, hv0, hv1⟩ : ∃ v, (#[Value.pointer none, .pointer (some ⟨b1, 0, none⟩)])[k]? = some v ∧ NoD wr v := by
        match k, hlt with
        | 0, _ => exact ⟨_, rfl, .inl rfl⟩
        | 1, _ => exact ⟨_, rfl, .inr ⟨b1, rfl, (HBR.out.block b1 (heap_lt HX1'.out)).trans HX1'.out⟩⟩
      have e0 : wr.cell? ⟨b1 + 1, k, none⟩ = some v := (cell_of ((HBR.out.block _ (heap_lt HX2.out)).trans HX2.out)).trans hv0
      have HNO : Hid (∀ W, Below wr.heap.size wr W → NoD W v) := hid fun W hb => hv1.below hb
      clear hv0 hv1
      go_wp2_with (first
        | (go_at_call 38; refine (append_no (HNO.out _ HK0.out) _ _ _ _).mono ?_; rintro e w1 ⟨rfl, hb⟩; have HK1 := hid (below_step HK0.out hb); clear hb)
        | (go_at_call 29; refine (sync_no (HNO.out _ HK1.out) _).mono ?_; rintro e w2 ⟨rfl, hb⟩; have HK2 := hid (below_step HK1.out hb); clear hb)
        | (go_at_call 31; refine (remove_no (HNO.out _ HK2.out) _).mono ?_; rintro e w3 ⟨rfl, hb⟩; have HK3 := hid (below_step HK2.out hb); clear hb)
        | (go_at_call 33; refine (rename_no (HNO.out _ HK3.out) _ _).mono ?_; rintro e w4 ⟨rfl, hb⟩; have HK4 := hid (below_step HK3.out hb); clear hb)
        | (go_at_call 58; refine (files_no (HNO.out _ HK4.out) ).mono ?_; rintro e w5 ⟨rfl, hb⟩; have HK5 := hid (below_step HK4.out hb); clear hb)
        | (go_at_call 59; refine (bytes_no (HNO.out _ HK5.out) _).mono ?_; rintro e w6 ⟨rfl, hb⟩; have HK6 := hid (below_step HK5.out hb); clear hb)
        | (go_at_call 37; refine (cloneD_no (HNO.out _ HK6.out) ).mono ?_; rintro e w7 ⟨rfl, hb⟩; have HK7 := hid (below_step HK6.out hb); clear hb)
        | (go_at_call 25; refine (down_no (HNO.out _ HK7.out) ).mono ?_; rintro e w8 ⟨rfl, hb⟩; have HK8 := hid (below_step HK7.out hb); clear hb)
        | (go_at_call 17; refine (arm_no (HNO.out _ HK8.out) _).mono ?_; rintro e w9 ⟨rfl, hb⟩; have HK9 := hid (below_step HK8.out hb); clear hb)
        | (go_at_call 21; refine (restart_no (HNO.out _ HK9.out) _).mono ?_; rintro e w10 ⟨rfl, hb⟩; have HK10 := hid (below_step HK9.out hb); clear hb)
        | fail)
      go_roundw
      case rel => exact ⟨k + 1, by go_num, by omega, hid (below_step HBR.out HK10.out)⟩
      case measure => simp [intOf]; omega
    · go_upto_region 12 with fail
      have HC := hid (below_step HB2.out HBR.out)
      clear HX1 HX1' HX2 HA HB2 HBR HK0 hk hlt
      have HA := hid (ba wr (.cells #[.pointer none, .int .i64 0, .bool false, .int .i64 0, .slice none 0 0, .int .i64 0, .map none, .slice none 0 0, .map none, .int .i64 0] 109))
      have HX1 := hid (heap_alloc_new wr (.cells #[.pointer none, .int .i64 0, .bool false, .int .i64 0, .slice none 0 0, .int .i64 0, .map none, .slice none 0 0, .map none, .int .i64 0] 109))
      have hsz : (wr.alloc (.cells #[.pointer none, .int .i64 0, .bool false, .int .i64 0, .slice none 0 0, .int .i64 0, .map none, .slice none 0 0, .map none, .int .i64 0] 109)).heap.size = wr.heap.size + 1 := alloc_sz _ _
      obtain ⟨b3, hb3⟩ : ∃ b, b = wr.heap.size := ⟨_, rfl⟩
      have HC1 := hid (below_step HC.out HA.out)
      generalize wr.alloc (.cells #[.pointer none, .int .i64 0, .bool false, .int .i64 0, .slice none 0 0, .int .i64 0, .map none, .slice none 0 0, .map none, .int .i64 0] 109) = wc at *
      rw [← hb3] at HX1 hsz ⊢
      clear hb3 HA
      have HA2 := ba wc (.cells #[.pointer none, .pointer (some ⟨b3, 0, none⟩)] 33)
      have HX2 := hid (heap_alloc_new wc (.cells #[.pointer none, .pointer (some ⟨b3, 0, none⟩)] 33))
      have HX1' := hid ((HA2.block b3 (heap_lt HX1.out)).trans HX1.out)
      have HC2 := hid (below_step HC1.out HA2)
      rw [hsz] at HX2
      clear HA2 hsz HX1 HC1 HC
      generalize wc.alloc (.cells #[.pointer none, .pointer (some ⟨b3, 0, none⟩)] 33) = wd at *
      go_loopw [83] (fun kv wz => ∃ k : Nat, kv = .int .i64 (k : Int) ∧ k ≤ 2 ∧ Hid (Below wd.heap.size wd wz)) (fun kv _ => 2 - (intOf kv).toNat)
      case atStart => exact ⟨0, rfl, Nat.zero_le _, Below.refl _ _⟩
      case round =>
        obtain ⟨k, rfl, hk, HBR⟩ := hrel
        rename World => wz
        have HK0 := hid (Below.refl wz.heap.size wz)
        by_cases hlt : k < 2
        · obtain ⟨v, hv0, hv1⟩ : ∃ v, (#[Value.pointer none, .pointer (some ⟨b3, 0, none⟩)])[k]? = some v ∧ NoS wz v := by
            match k, hlt with
            | 0, _ => exact ⟨_, rfl, .inl rfl⟩
            | 1, _ => exact ⟨_, rfl, .inr ⟨b3, _, rfl, (HBR.out.block b3 (heap_lt HX1'.out)).trans HX1'.out, rfl⟩⟩
          have e0 : wz.cell? ⟨b3 + 1, k, none⟩ = some v := (cell_of ((HBR.out.block _ (heap_lt HX2.out)).trans HX2.out)).trans hv0
          have HNO : Hid (∀ W, Below wz.heap.size wz W → NoS W v) := hid fun W hb => hv1.below hb
          clear hv0 hv1
          go_wp2_with (first
            | (go_at_call 22; refine (getS_no (HNO.out _ HK0.out) _ _).mono ?_; rintro e w1 ⟨rfl, hb⟩; have HK1 := hid (below_step HK0.out hb); clear hb)
            | (go_at_call 23; refine (scan_no (HNO.out _ HK1.out) _ _ _).mono ?_; rintro e w2 ⟨rfl, hb⟩; have HK2 := hid (below_step HK1.out hb); clear hb)
            | (go_at_call 46; refine (view_no0 (HNO.out _ HK2.out) ).mono ?_; rintro e w3 ⟨rfl, hb⟩; have HK3 := hid (below_step HK2.out hb); clear hb)
            | (go_at_call 19; refine (apply_no (HNO.out _ (below_step HK3.out (ba _ _))) _ _ _).mono ?_; rintro e w4 ⟨rfl, hb⟩; have HK4 := hid (below_step (below_step HK3.out (ba _ _)) hb); clear hb)
            | (go_at_call 20; refine (syncS_no (HNO.out _ HK4.out) ).mono ?_; rintro e w5 ⟨rfl, hb⟩; have HK5 := hid (below_step HK4.out hb); clear hb)
            | (go_at_call 54; refine (flush_no (HNO.out _ HK5.out) ).mono ?_; rintro e w6 ⟨rfl, hb⟩; have HK6 := hid (below_step HK5.out hb); clear hb)
            | (go_at_call 55; refine (compact_no (HNO.out _ HK6.out) ).mono ?_; rintro e w7 ⟨rfl, hb⟩; have HK7 := hid (below_step HK6.out hb); clear hb)
            | (go_at_call 49; refine (drop_no (HNO.out _ HK7.out) _).mono ?_; rintro e w8 ⟨rfl, hb⟩; have HK8 := hid (below_step HK7.out hb); clear hb)
            | (go_at_call 26; refine (broken_no (HNO.out _ HK8.out) ).mono ?_; rintro e w9 ⟨rfl, hb⟩; have HK9 := hid (below_step HK8.out hb); clear hb)
            | (go_at_call 27; refine (disk_no (HNO.out _ HK9.out) ).mono ?_; rintro e w10 ⟨rfl, hb⟩; have HK10 := hid (below_step HK9.out hb); clear hb)
            | (go_at_call 56; refine (cloneS_no (HNO.out _ HK10.out) ).mono ?_; rintro e w11 ⟨rfl, hb⟩; have HK11 := hid (below_step HK10.out hb); clear hb)
            | fail)
          go_roundw
          case rel => exact ⟨k + 1, by go_num, by omega, hid (below_step HBR.out HK11.out)⟩
          case measure => simp [intOf]; omega
        · obtain rfl : k = 2 := by omega
          have HEND := hid (below_step HC2.out HBR.out)
          have HLV := hid (lives_any wz (HG.out.below HEND.out))
          go_wp2_with (first | (go_at_call 24; refine HLV.out.mono ?_; rintro e w9 ⟨rfl, hb⟩; have HF := hid (below_step HEND.out hb); clear hb) | fail)
          go_ret
          exact ⟨rfl, HF.out⟩
end Go.Proofs.YtpenleogafdbhaaGreatDoor
