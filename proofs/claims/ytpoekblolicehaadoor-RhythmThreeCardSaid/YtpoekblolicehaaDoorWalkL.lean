/-
  The walk over chapter 1: the least rotation.
-/
import Derived.Test.YtpoekblolicehaaDoorWalkK
import Derived.Test.YtpoekblolicehaaDoorPlainF
namespace Go.Proofs.YtpoekblolicehaaDoor
open Go.RowKit

/-- a rotation as the program makes it -/
def rotB (s : ByteArray) (i : Nat) : ByteArray := s.extract i s.size ++ s.extract 0 i
theorem rotB_list (s : ByteArray) (i : Nat) (_h : i ≤ s.size) : (rotB s i).data.toList = rot s.data.toList i := by
  unfold rotB
  rw [ByteArray.data_append, Array.toList_append, part_eq, part_eq]
  simp only [part, rot, List.drop_zero, Nat.sub_zero]
  rw [List.take_of_length_le (by rw [List.length_drop, data_size]; exact Nat.le_refl _)]
theorem rotB_size (s : ByteArray) (i : Nat) (h : i ≤ s.size) : (s.extract i s.size).size + (s.extract 0 i).size = s.size := by
  rw [extract_size _ _ _ (Nat.le_refl _), extract_size _ _ _ h]; omega
theorem rotB_less (s : ByteArray) (i j : Nat) (h : i ≤ s.size) (h' : j ≤ s.size) :
    Op.bytesLess (s.extract i s.size ++ s.extract 0 i).toList (s.extract j s.size ++ s.extract 0 j).toList = slt up (rot s.data.toList i) (rot s.data.toList j) := by
  rw [bytesLess_slt, toList_data, toList_data, ← rotB_list s i h, ← rotB_list s j h']
  rfl

set_option maxHeartbeats 1000000 in
set_option maxRecDepth 100000 in
theorem turn_ok (s : ByteArray) (w : World) (hs : s.size ≤ 1000) (hc : chk s.data.toList = 0) :
    Calls Tryd.prog 39 #[.string s] w fun e w' => e = .returned (.tuple #[.int .i64 (turn s.data.toList), .int .i64 0]) ∧ Below w.heap.size w w' := by
  have hck := check_any s w hs
  rw [hc] at hck
  have HA := hid (chk_ok hc).2.2
  have h1 := chk_pos hc
  rw [data_size] at h1
  clear hc
  go_enter Tryd.func39, Tryd.ntmps39
  go_wp2_with fail
  refine hck.mono ?_
  rintro e w1 ⟨rfl, hb⟩
  have hbs := hb.size
  go_wp2_with fail
  go_loopg [5] (s.size + 1) (fun g v wr => ∃ i : Nat, i ≤ s.size ∧ g = s.size + 1 - i ∧ wr.heap[w1.heap.size]? = some (.stringIter s i) ∧ v = .int .i64 (turnTo s.data.toList i) ∧ Below w.heap.size w wr)
  case atStart => exact ⟨0, Nat.zero_le _, by omega, World.iter_heap w1 s 0, rfl, hb.alloc hbs _⟩
  case round =>
    obtain ⟨i, hi, hgk, hit, rfl, hbel⟩ := hrel
    have HGK := hid hgk; clear hgk
    have Hbel := hid hbel; clear hbel
    by_cases hlt : i < s.size
    · obtain ⟨w2, c, hnx, hit2, hoth, hb2, hsz2⟩ := iter_next hit hlt HA.out (P := Tryd.prog)
      have hib : w1.heap.size < wr.heap.size := (Array.getElem?_eq_some_iff.1 hit).1
      have Hit2 := hid hit2
      have Hb2 := hid hb2
      clear hit hit2 hoth hb2 hsz2
      have hle := turnTo_le s.data.toList i
      have hyes := hid (turnTo_yes s.data.toList i)
      have hno := hid (turnTo_no s.data.toList i)
      generalize turnTo s.data.toList i = b at *
      have hbi : b ≤ s.size := by omega
      have e1 : (s.extract i s.size).size + (s.extract 0 i).size ≤ 1000 := by rw [rotB_size s i (by omega)]; exact hs
      have e2 : (s.extract b s.size).size + (s.extract 0 b).size ≤ 1000 := by rw [rotB_size s b (by omega)]; exact hs
      have hl := rotB_less s i b (by omega) hbi
      have i1 : (b : Int) ≤ s.size := by omega
      have i2 : (i : Int) ≤ s.size := by omega
      have HBE := hid (Hbel.out.trans (Hb2.out.mono (show w.heap.size ≤ w1.heap.size from hbs)))
      cases hlx : slt up (rot s.data.toList i) (rot s.data.toList b)
      · have HLX := hid hlx
        rw [hlx] at hl
        clear hlx
        go_wp2_with fail
        go_quiet (fail)
        go_wp2_with fail
        go_roundg (s.size + 1 - (i + 1))
        case measure => have := HGK.out; omega
        case rel => exact ⟨i + 1, by omega, rfl, Hit2.out, by rw [hno.out HLX.out], below_drewN_r HBE.out _⟩
      · have HLX := hid hlx
        rw [hlx] at hl
        clear hlx
        go_wp2_with fail
        go_quiet (fail)
        go_wp2_with fail
        go_roundg (s.size + 1 - (i + 1))
        case measure => have := HGK.out; omega
        case rel => exact ⟨i + 1, by omega, rfl, Hit2.out, by rw [hyes.out HLX.out], below_drewN_r HBE.out _⟩
    · have hnx : ∀ ty, (Instr.next (.pointer (some ⟨w1.heap.size, 0, none⟩)) true ty).run Tryd.prog wr = _ := fun ty => Lib.run_next_end_at wr w1.heap.size s i ty hit hlt
      clear hit
      go_wp2_with fail
      go_ret2
      obtain rfl : i = s.size := by omega
      exact ⟨rfl, Hbel.out⟩

set_option maxHeartbeats 400000 in
theorem turn_bad (s : ByteArray) (w : World) (hs : s.size ≤ 1000) (hc : chk s.data.toList ≠ 0) :
    Calls Tryd.prog 39 #[.string s] w fun e w' => e = .returned (.tuple #[.int .i64 0, .int .i64 (chk s.data.toList)]) ∧ Below w.heap.size w w' := by
  have hck := check_any s w hs
  have hc2 : (chk s.data.toList == 0) = false := by simp [hc]
  clear hc
  generalize chk s.data.toList = q at *
  go_enter Tryd.func39, Tryd.ntmps39
  go_wp2_with fail
  refine hck.mono ?_
  rintro e w1 ⟨rfl, hb⟩
  go_wp2_with fail
  go_ret2
  exact ⟨rfl, hb⟩
theorem turn_any (s : ByteArray) (w : World) (hs : s.size ≤ 1000) :
    Calls Tryd.prog 39 #[.string s] w fun e w' => e = .returned (.tuple #[.int .i64 (if chk s.data.toList = 0 then (turn s.data.toList : Int) else 0), .int .i64 (chk s.data.toList)]) ∧ Below w.heap.size w w' := by
  by_cases hc : chk s.data.toList = 0
  · rw [hc, if_pos rfl]
    exact turn_ok s w hs hc
  · rw [if_neg hc]
    exact turn_bad s w hs hc

set_option maxHeartbeats 400000 in
theorem rotation_any (s : ByteArray) (i : Nat) (w : World) (hs : s.size ≤ 1000) (hi : i ≤ s.size) :
    Calls Tryd.prog 48 #[.string s, .int .i64 i] w fun e w' => e = .returned (.string (rotB s i)) ∧ ∃ n, w' = w.drewN n := by
  have e1 : (s.extract i s.size).size + (s.extract 0 i).size ≤ 1000 := by rw [rotB_size s i (by omega)]; exact hs
  have i2 : (i : Int) ≤ s.size := by omega
  go_enter Tryd.func48, Tryd.ntmps48
  go_wp2_with fail
  go_quiet (fail)
  go_wp2_with fail
  go_ret
  exact ⟨rfl, _, rfl⟩

set_option maxHeartbeats 400000 in
theorem rturn_any (s : ByteArray) (w : World) (hs : s.size ≤ 1000) (h1 : 1 ≤ s.size) :
    Calls Tryd.prog 40 #[.string s] w fun e w' => e = .returned (.int .i64 (turn s.data.toList)) ∧ ∃ n, w' = w.drewN n := by
  have cR := hid (fun i w (hi : i ≤ s.size) => rotation_any s i w hs hi)
  go_enter Tryd.func40, Tryd.ntmps40
  go_wp2_with fail
  go_loopg [3, 4] (s.size - 1) (fun g v i wr => ∃ x : Nat, x + 1 ≤ s.size ∧ g = s.size - 1 - x ∧ i = .int .i64 ((x : Int) + 1) ∧ v = .int .i64 (turnTo s.data.toList (x + 1)) ∧ ∃ m, wr = w.drewN m)
  case atStart => exact ⟨0, by omega, by omega, rfl, by rw [turnTo_one]; rfl, 0, rfl⟩
  case round =>
    obtain ⟨x, hx, hgx, rfl, rfl, m, rfl⟩ := hrel
    have HGX := hid hgx; clear hgx
    by_cases hxl : x + 1 < s.size
    · have hle := turnTo_le s.data.toList (x + 1)
      have hyes := hid (turnTo_yes s.data.toList (x + 1))
      have hno := hid (turnTo_no s.data.toList (x + 1))
      generalize turnTo s.data.toList (x + 1) = b at *
      have hbi : b ≤ s.size := by omega
      have hl : Op.bytesLess (rotB s (x + 1)).toList (rotB s b).toList = _ := rotB_less s (x + 1) b (by omega) hbi
      have HL := hid hl
      clear hl
      have i1 : (x : Int) + 1 < s.size := by omega
      have c1 := hid (fun w => cR.out (x + 1) w (by omega))
      have c2 := hid (fun w => cR.out b w (by omega))
      generalize rotB s (x + 1) = r1 at *
      generalize rotB s b = r2 at *
      go_wp2_with fail
      refine (c1.out _).mono ?_
      rintro e w2 ⟨rfl, n2, rfl⟩
      go_wp2_with fail
      refine (c2.out _).mono ?_
      rintro e w3 ⟨rfl, n3, rfl⟩
      have hl2 := HL.out
      cases hlx : slt up (rot s.data.toList (x + 1)) (rot s.data.toList b)
      · have HLX := hid hlx
        rw [hlx] at hl2
        clear hlx
        go_wp2_with fail
        go_roundg (s.size - 1 - (x + 1))
        case measure => have := HGX.out; omega
        case rel => exact ⟨x + 1, by omega, rfl, by go_num, by rw [hno.out HLX.out], (by first | exact ⟨_, rfl⟩ | exact drew2 _ _ _)⟩
      · have HLX := hid hlx
        rw [hlx] at hl2
        clear hlx
        go_wp2_with fail
        go_roundg (s.size - 1 - (x + 1))
        case measure => have := HGX.out; omega
        case rel => exact ⟨x + 1, by omega, rfl, by go_num, by rw [hyes.out HLX.out]; rfl, (by first | exact ⟨_, rfl⟩ | exact drew2 _ _ _)⟩
    · go_wp2_with fail
      go_ret
      refine ⟨?_, _, rfl⟩
      have : x + 1 = s.size := by omega
      rw [this]
      rfl
end Go.Proofs.YtpoekblolicehaaDoor
