/-
  Numbers of one digit are parsed: Cut (65), CutPrefix (66), read (67).
-/
import Derived.Test.YtlhmidecjiihcaaDoorWalkQ
import Derived.Test.YtlhmidecjiihcaaDoorShelf
namespace Go.Proofs.YtlhmidecjiihcaaDoor
open Go.RowKit
set_option maxRecDepth 100000 in
set_option maxHeartbeats 1000000 in
theorem idx_0 (w : World) : Calls Tryd.prog 90 #[.string ⟨#[48]⟩, .string ⟨#[47]⟩] w fun e w' => e = .returned (.int .i64 (-1)) ∧ w' = w := by
  have IB := hid (Tryd.stringslite_IndexByte ⟨#[48]⟩ 47 w)
  rw [show Lib.indexByte (#[48] : Array UInt8).toList (47 : Int).toNat.toUInt8 = -1 from by decide] at IB
  go_enter Tryd.func90, Tryd.ntmps90
  go_wp2_with (first | (go_at_call 99; refine IB.out.mono ?_; rintro e w1 ⟨rfl, rfl⟩) | fail)
  go_ret
  exact ⟨rfl, rfl⟩
set_option maxRecDepth 100000 in
set_option maxHeartbeats 1000000 in
theorem scut_0 (w : World) : Calls Tryd.prog 79 #[.string ⟨#[48]⟩, .string ⟨#[47]⟩] w fun e w' => e = .returned (.tuple #[.string ⟨#[48]⟩, .string ⟨#[]⟩, .bool false]) ∧ w' = w := by
  have IB := hid (idx_0 w)
  go_enter Tryd.func79, Tryd.ntmps79
  go_wp2_with (first | (go_at_call 90; refine IB.out.mono ?_; rintro e w1 ⟨rfl, rfl⟩) | fail)
  go_ret3
  exact ⟨rfl, rfl⟩
set_option maxRecDepth 100000 in
set_option maxHeartbeats 1000000 in
theorem cut_0 (w : World) : Calls Tryd.prog 65 #[.string ⟨#[48]⟩, .string ⟨#[47]⟩] w fun e w' => e = .returned (.tuple #[.string ⟨#[48]⟩, .string ⟨#[]⟩, .bool false]) ∧ w' = w := by
  have IB := hid (scut_0 w)
  go_enter Tryd.func65, Tryd.ntmps65
  go_wp2_with (first | (go_at_call 79; refine IB.out.mono ?_; rintro e w1 ⟨rfl, rfl⟩) | fail)
  go_ret3
  exact ⟨rfl, rfl⟩
set_option maxRecDepth 100000 in
set_option maxHeartbeats 1000000 in
theorem hasp_0 (w : World) : Calls Tryd.prog 91 #[.string ⟨#[48]⟩, .string ⟨#[45]⟩] w fun e w' => e = .returned (.bool false) ∧ w' = w := by
  go_enter Tryd.func91, Tryd.ntmps91
  have HC : (((⟨#[48]⟩ : ByteArray).extract 0 1).toList == [45]) = false := by kernel_rfl
  go_wp2_with fail
  go_ret
  exact ⟨rfl, rfl⟩
set_option maxRecDepth 100000 in
set_option maxHeartbeats 1000000 in
theorem sp_0 (w : World) : Calls Tryd.prog 80 #[.string ⟨#[48]⟩, .string ⟨#[45]⟩] w fun e w' => e = .returned (.tuple #[.string ⟨#[48]⟩, .bool false]) ∧ w' = w := by
  have IB := hid (hasp_0 w)
  go_enter Tryd.func80, Tryd.ntmps80
  go_wp2_with (first | (go_at_call 91; refine IB.out.mono ?_; rintro e w1 ⟨rfl, rfl⟩) | fail)
  go_ret2
  exact ⟨rfl, rfl⟩
set_option maxRecDepth 100000 in
set_option maxHeartbeats 1000000 in
theorem cp_0 (w : World) : Calls Tryd.prog 66 #[.string ⟨#[48]⟩, .string ⟨#[45]⟩] w fun e w' => e = .returned (.tuple #[.string ⟨#[48]⟩, .bool false]) ∧ w' = w := by
  have IB := hid (sp_0 w)
  go_enter Tryd.func66, Tryd.ntmps66
  go_wp2_with (first | (go_at_call 80; refine IB.out.mono ?_; rintro e w1 ⟨rfl, rfl⟩) | fail)
  go_ret2
  exact ⟨rfl, rfl⟩
set_option maxRecDepth 100000 in
set_option maxHeartbeats 1000000 in
theorem read_0 (w : World) : Calls Tryd.prog 67 #[.string ⟨#[48]⟩] w fun e w' => ∃ x, e = .returned (.tuple #[x, .bool true]) ∧ Lb w' x 0 ∧ Below w.heap.size w w' := by
  go_enter Tryd.func67, Tryd.ntmps67
  go_wp2_with fail
  go_loop [12] (fun v => v = .int .i64 0 ∨ v = .int .i64 1) (fun v => 1 - (intOf v).toNat)
  case atStart => exact .inl rfl
  case round =>
    rcases hrel with rfl | rfl
    · go_wp2_with fail
      go_round
      case rel => exact .inr rfl
      case measure => simp [intOf]
    · go_wp2_with fail
      go_loopw [0, 5] (fun sv xv wr => (sv = .string ⟨#[48]⟩ ∧ xv = .slice none 0 0 ∧ wr = w) ∨ (sv = .string ⟨#[]⟩ ∧ Lb wr xv 0 ∧ Hid (Below w.heap.size w wr))) (fun sv _ _ => match sv with | .string b => b.size | _ => 0)
      case atStart => exact .inl ⟨rfl, rfl, rfl⟩
      case round =>
        rcases hrel with ⟨rfl, rfl, rfl⟩ | ⟨rfl, hl, hb⟩
        · go_wp2_with fail
          go_loop [7, 8, 51] (fun v7 v8 v51 => (v7 = .int .u32 0 ∧ v8 = .int .u32 1 ∧ v51 = .int .i64 0) ∨ (v7 = .int .u32 0 ∧ v8 = .int .u32 10 ∧ v51 = .int .i64 1)) (fun _ _ v => 1 - (intOf v).toNat)
          case atStart => exact .inl ⟨rfl, rfl, rfl⟩
          case round =>
            rcases hrel with ⟨rfl, rfl, rfl⟩ | ⟨rfl, rfl, rfl⟩
            · go_wp2_with fail
              go_round
              case rel => exact .inr ⟨rfl, rfl, rfl⟩
              case measure => simp [intOf]
            · go_wp2_with fail
              go_at_call 64
              refine (times_any _ _ 0 10 _ (Lb.zero _ _ _) (Lb.one (by decide) (by decide) (by decide) (box1 (heap_alloc_new _ _))) (by decide)).mono ?_
              rintro e w2 ⟨x2, rfl, hl2, hb2⟩
              have HB2 : Hid (Below wr.heap.size wr w2) := hid (below_step (ba _ _) hb2)
              have HL2 : Hid (Lb w2 x2 0) := hid hl2
              have TC := hid (trim_any (some ⟨w2.heap.size, 0, none⟩) w2.heap.size 1 1 (fun _ => 0) (w2.alloc (.cells #[.int .u32 0] 94)) (fun _ => rfl) (by decide) (by decide) (by intro j hj; obtain rfl : j = 0 := (by omega); exact box1 (heap_alloc_new _ _)))
              obtain ⟨p2, q2, rfl⟩ := hl2.z
              clear hl2 hb2
              go_wp2_with fail
              go_at_call 48
              refine TC.out.mono ?_
              rintro e w3 ⟨rfl, rfl⟩
              go_wp2_with fail
              go_at_call 81
              refine (plus_any _ _ 0 0 _ (HL2.out.below (ba _ _)) (by exact Lb.zero _ _ _) (by decide)).mono ?_
              rintro e w4 ⟨x4, rfl, hl4, hb4⟩
              have HB4 : Hid (Below wr.heap.size wr w4) := hid (below_step (below_step HB2.out (ba _ _)) hb4)
              have HL4 : Hid (Lb w4 x4 0) := hid hl4
              clear hl4 hb4
              go_wp2_with fail
              go_roundw
              case rel => exact .inr ⟨rfl, HL4.out, HB4⟩
              case measure => decide
        · have HL := hid hl
          clear hl
          go_wp2_with fail
          go_ret2
          exact ⟨_, rfl, HL.out, hb.out⟩
set_option maxRecDepth 100000 in
set_option maxHeartbeats 1000000 in
theorem idx_1 (w : World) : Calls Tryd.prog 90 #[.string ⟨#[49]⟩, .string ⟨#[47]⟩] w fun e w' => e = .returned (.int .i64 (-1)) ∧ w' = w := by
  have IB := hid (Tryd.stringslite_IndexByte ⟨#[49]⟩ 47 w)
  rw [show Lib.indexByte (#[49] : Array UInt8).toList (47 : Int).toNat.toUInt8 = -1 from by decide] at IB
  go_enter Tryd.func90, Tryd.ntmps90
  go_wp2_with (first | (go_at_call 99; refine IB.out.mono ?_; rintro e w1 ⟨rfl, rfl⟩) | fail)
  go_ret
  exact ⟨rfl, rfl⟩
set_option maxRecDepth 100000 in
set_option maxHeartbeats 1000000 in
theorem scut_1 (w : World) : Calls Tryd.prog 79 #[.string ⟨#[49]⟩, .string ⟨#[47]⟩] w fun e w' => e = .returned (.tuple #[.string ⟨#[49]⟩, .string ⟨#[]⟩, .bool false]) ∧ w' = w := by
  have IB := hid (idx_1 w)
  go_enter Tryd.func79, Tryd.ntmps79
  go_wp2_with (first | (go_at_call 90; refine IB.out.mono ?_; rintro e w1 ⟨rfl, rfl⟩) | fail)
  go_ret3
  exact ⟨rfl, rfl⟩
set_option maxRecDepth 100000 in
set_option maxHeartbeats 1000000 in
theorem cut_1 (w : World) : Calls Tryd.prog 65 #[.string ⟨#[49]⟩, .string ⟨#[47]⟩] w fun e w' => e = .returned (.tuple #[.string ⟨#[49]⟩, .string ⟨#[]⟩, .bool false]) ∧ w' = w := by
  have IB := hid (scut_1 w)
  go_enter Tryd.func65, Tryd.ntmps65
  go_wp2_with (first | (go_at_call 79; refine IB.out.mono ?_; rintro e w1 ⟨rfl, rfl⟩) | fail)
  go_ret3
  exact ⟨rfl, rfl⟩
set_option maxRecDepth 100000 in
set_option maxHeartbeats 1000000 in
theorem hasp_1 (w : World) : Calls Tryd.prog 91 #[.string ⟨#[49]⟩, .string ⟨#[45]⟩] w fun e w' => e = .returned (.bool false) ∧ w' = w := by
  go_enter Tryd.func91, Tryd.ntmps91
  have HC : (((⟨#[49]⟩ : ByteArray).extract 0 1).toList == [45]) = false := by kernel_rfl
  go_wp2_with fail
  go_ret
  exact ⟨rfl, rfl⟩
set_option maxRecDepth 100000 in
set_option maxHeartbeats 1000000 in
theorem sp_1 (w : World) : Calls Tryd.prog 80 #[.string ⟨#[49]⟩, .string ⟨#[45]⟩] w fun e w' => e = .returned (.tuple #[.string ⟨#[49]⟩, .bool false]) ∧ w' = w := by
  have IB := hid (hasp_1 w)
  go_enter Tryd.func80, Tryd.ntmps80
  go_wp2_with (first | (go_at_call 91; refine IB.out.mono ?_; rintro e w1 ⟨rfl, rfl⟩) | fail)
  go_ret2
  exact ⟨rfl, rfl⟩
set_option maxRecDepth 100000 in
set_option maxHeartbeats 1000000 in
theorem cp_1 (w : World) : Calls Tryd.prog 66 #[.string ⟨#[49]⟩, .string ⟨#[45]⟩] w fun e w' => e = .returned (.tuple #[.string ⟨#[49]⟩, .bool false]) ∧ w' = w := by
  have IB := hid (sp_1 w)
  go_enter Tryd.func66, Tryd.ntmps66
  go_wp2_with (first | (go_at_call 80; refine IB.out.mono ?_; rintro e w1 ⟨rfl, rfl⟩) | fail)
  go_ret2
  exact ⟨rfl, rfl⟩
set_option maxRecDepth 100000 in
set_option maxHeartbeats 1000000 in
theorem read_1 (w : World) : Calls Tryd.prog 67 #[.string ⟨#[49]⟩] w fun e w' => ∃ x, e = .returned (.tuple #[x, .bool true]) ∧ Lb w' x 1 ∧ Below w.heap.size w w' := by
  go_enter Tryd.func67, Tryd.ntmps67
  go_wp2_with fail
  go_loop [12] (fun v => v = .int .i64 0 ∨ v = .int .i64 1) (fun v => 1 - (intOf v).toNat)
  case atStart => exact .inl rfl
  case round =>
    rcases hrel with rfl | rfl
    · go_wp2_with fail
      go_round
      case rel => exact .inr rfl
      case measure => simp [intOf]
    · go_wp2_with fail
      go_loopw [0, 5] (fun sv xv wr => (sv = .string ⟨#[49]⟩ ∧ xv = .slice none 0 0 ∧ wr = w) ∨ (sv = .string ⟨#[]⟩ ∧ Lb wr xv 1 ∧ Hid (Below w.heap.size w wr))) (fun sv _ _ => match sv with | .string b => b.size | _ => 0)
      case atStart => exact .inl ⟨rfl, rfl, rfl⟩
      case round =>
        rcases hrel with ⟨rfl, rfl, rfl⟩ | ⟨rfl, hl, hb⟩
        · go_wp2_with fail
          go_loop [7, 8, 51] (fun v7 v8 v51 => (v7 = .int .u32 0 ∧ v8 = .int .u32 1 ∧ v51 = .int .i64 0) ∨ (v7 = .int .u32 1 ∧ v8 = .int .u32 10 ∧ v51 = .int .i64 1)) (fun _ _ v => 1 - (intOf v).toNat)
          case atStart => exact .inl ⟨rfl, rfl, rfl⟩
          case round =>
            rcases hrel with ⟨rfl, rfl, rfl⟩ | ⟨rfl, rfl, rfl⟩
            · go_wp2_with fail
              go_round
              case rel => exact .inr ⟨rfl, rfl, rfl⟩
              case measure => simp [intOf]
            · go_wp2_with fail
              go_at_call 64
              refine (times_any _ _ 0 10 _ (Lb.zero _ _ _) (Lb.one (by decide) (by decide) (by decide) (box1 (heap_alloc_new _ _))) (by decide)).mono ?_
              rintro e w2 ⟨x2, rfl, hl2, hb2⟩
              have HB2 : Hid (Below wr.heap.size wr w2) := hid (below_step (ba _ _) hb2)
              have HL2 : Hid (Lb w2 x2 0) := hid hl2
              have TC := hid (trim_any (some ⟨w2.heap.size, 0, none⟩) w2.heap.size 1 1 (fun _ => 1) (w2.alloc (.cells #[.int .u32 1] 94)) (fun _ => rfl) (by decide) (by decide) (by intro j hj; obtain rfl : j = 0 := (by omega); exact box1 (heap_alloc_new _ _)))
              obtain ⟨p2, q2, rfl⟩ := hl2.z
              clear hl2 hb2
              go_wp2_with fail
              go_at_call 48
              refine TC.out.mono ?_
              rintro e w3 ⟨rfl, rfl⟩
              go_wp2_with fail
              go_at_call 81
              refine (plus_any _ _ 0 1 _ (HL2.out.below (ba _ _)) (by exact Lb.one (by decide) (by decide) (by decide) (box1 (heap_alloc_new _ _))) (by decide)).mono ?_
              rintro e w4 ⟨x4, rfl, hl4, hb4⟩
              have HB4 : Hid (Below wr.heap.size wr w4) := hid (below_step (below_step HB2.out (ba _ _)) hb4)
              have HL4 : Hid (Lb w4 x4 1) := hid hl4
              clear hl4 hb4
              go_wp2_with fail
              go_roundw
              case rel => exact .inr ⟨rfl, HL4.out, HB4⟩
              case measure => decide
        · have HL := hid hl
          clear hl
          go_wp2_with fail
          go_ret2
          exact ⟨_, rfl, HL.out, hb.out⟩
end Go.Proofs.YtlhmidecjiihcaaDoor
