/-
  The reference of chapter 12: disputes, what a set attacks and defends, sets of a kind, the ideal set.
-/
import Derived.Test.YtaedbkdimpdngaaWalkY
namespace Go.Proofs.Ytaedbkdimpdngaa
open Go.RowKit
/-- the reference's dispute: its value, and what lies behind it -/
def Dv (b1 b2 : Nat) (d : Dsp) : Value := .agg #[.int .i64 (d.n : Int), .slice (some ⟨b1, 0, none⟩) d.n d.n, .slice (some ⟨b2, 0, none⟩) d.n d.n]
def RDd (w : World) (b1 b2 : Nat) (d : Dsp) : Prop :=
  1 ≤ d.n ∧ d.n ≤ 12 ∧ (∀ i, i < d.n → w.cell? ⟨b1, i, none⟩ = some (.int .i64 (((byL d).getD i 0 : Nat) : Int))) ∧ ∀ i, i < d.n → w.cell? ⟨b2, i, none⟩ = some (.int .i64 (((fromL d).getD i 0 : Nat) : Int))
theorem rdd_below {w w' : World} {b1 b2 : Nat} {d : Dsp} (h : RDd w b1 b2 d) (hb : Below w.heap.size w w') : RDd w' b1 b2 d :=
  ⟨h.1, h.2.1, fun i hi => (hb.cell (World.block_lt_of_cell? w _ (h.2.2.1 i hi))).trans (h.2.2.1 i hi), fun i hi => (hb.cell (World.block_lt_of_cell? w _ (h.2.2.2 i hi))).trans (h.2.2.2 i hi)⟩
def hitK (d : Dsp) (s k : Nat) : Nat := mask (fun b => (List.range k).any fun a => s.testBit a && d.att a b) d.n
theorem hitK_lt (d : Dsp) (s k : Nat) : hitK d s k < 2 ^ d.n := mask_lt _ _
theorem hitK_0 (d : Dsp) (s : Nat) : hitK d s 0 = 0 := mask_none _
theorem hitK_s (d : Dsp) (s k : Nat) (hk : k < d.n) : hitK d s (k + 1) = if s.testBit k then hitK d s k ||| (byL d).getD k 0 else hitK d s k := by
  rw [byL_at d k hk]; exact hit_fold d s k
def dfdK (d : Dsp) (s k : Nat) : Nat := mask (fun i => (d.dfd s).testBit i) k
theorem dfdK_lt (d : Dsp) (s k : Nat) : dfdK d s k < 2 ^ k := mask_lt _ _
theorem dfdK_s (d : Dsp) (s k : Nat) (hk : k < d.n) : dfdK d s (k + 1) = if diff ((fromL d).getD k 0) (d.hit s) = 0 then dfdK d s k ||| 2 ^ k else dfdK d s k := by
  show (if (d.dfd s).testBit k = true then _ else _) = _
  rw [dfd_test d s k hk]
  by_cases h : diff ((fromL d).getD k 0) (d.hit s) = 0
  · rw [if_pos h, if_pos (beq_iff_eq.2 h)]; rfl
  · rw [if_neg h, if_neg (fun e => h (beq_iff_eq.1 e))]; rfl
theorem shr_int (s i : Nat) : ((s : Int) / 2 ^ i) = ((s / 2 ^ i : Nat) : Int) := by
  have h2 : ((2 : Int) ^ i) = ((2 ^ i : Nat) : Int) := by simp
  rw [h2]; exact (Int.natCast_ediv _ _).symm
theorem bit64 {s : Nat} (i : Nat) (h : s < 65536) : bits BinOp.and IntKind.i64 ((s : Int) / 2 ^ i) 1 = if s.testBit i then 1 else 0 := by
  have hd : s / 2 ^ i < 65536 := Nat.lt_of_le_of_lt (Nat.div_le_self _ _) h
  rw [shr_int]
  refine (and64 (a := s / 2 ^ i) (b := 1) (by omega) (by decide)).trans ?_
  rw [shr_one]
  cases s.testBit i <;> rfl
theorem pow_int (i : Nat) : ((2 : Int) ^ i) = ((2 ^ i : Nat) : Int) := by simp
set_option maxRecDepth 100000 in
set_option maxHeartbeats 2000000 in
theorem rHit_any (b1 b2 : Nat) (d : Dsp) (s : Nat) (w : World) (h : RDd w b1 b2 d) (hs : s < 2 ^ d.n) :
    Calls Try.prog 70 #[Dv b1 b2 d, .int .i64 (s : Int)] w fun e w' => e = .returned (.int .i64 ((d.hit s : Nat) : Int)) ∧ Below w.heap.size w w' := by
  have HB0 : Hid (Below w.heap.size w (w.alloc (.cells #[.int .i64 (d.n : Int), .slice (some ⟨b1, 0, none⟩) d.n d.n, .slice (some ⟨b2, 0, none⟩) d.n d.n] 34))) := ba w _
  have hz := heap_alloc_new w (.cells #[.int .i64 (d.n : Int), .slice (some ⟨b1, 0, none⟩) d.n d.n, .slice (some ⟨b2, 0, none⟩) d.n d.n] 34)
  have HR := hid (rdd_below h HB0.out)
  obtain ⟨hn1, hn12, -⟩ := id h
  clear h
  obtain ⟨w0, hw0⟩ : ∃ w0, w0 = w.alloc (.cells #[.int .i64 (d.n : Int), .slice (some ⟨b1, 0, none⟩) d.n d.n, .slice (some ⟨b2, 0, none⟩) d.n d.n] 34) := ⟨_, rfl⟩
  rw [← hw0] at HB0 HR hz
  have HW0 := hid hw0
  clear hw0
  have hgl := heap_lt hz
  have KB : Hid (∀ w', Below w0.heap.size w0 w' → w'.cell? ⟨w.heap.size, 0, none⟩ = some (.int .i64 (d.n : Int)) ∧ w'.cell? ⟨w.heap.size, 1, none⟩ = some (.slice (some ⟨b1, 0, none⟩) d.n d.n) ∧ w'.cell? ⟨w.heap.size, 2, none⟩ = some (.slice (some ⟨b2, 0, none⟩) d.n d.n)) := fun w' hb => cells3_of ((hb.block _ hgl).trans hz)
  clear hz hgl
  unfold Dv
  go_enter Try.func70, Try.ntmps70
  go_upto_region 3 with fail
  rw [← HW0.out]
  have hs16 : s < 65536 := Nat.lt_of_lt_of_le hs (pow_small (n := 16) (by omega))
  clear HW0 hs
  go_loopw [6, 5] (fun kv ov wr => ∃ k : Nat, kv = .int .i64 k ∧ k ≤ d.n ∧ ov = .int .i64 ((hitK d s k : Nat) : Int) ∧ Hid (Below w0.heap.size w0 wr)) (fun kv _ _ => d.n - (intOf kv).toNat)
  case atStart => exact ⟨0, rfl, Nat.zero_le _, by rw [hitK_0]; rfl, Below.refl _ _⟩
  case round =>
    obtain ⟨k, rfl, hk, rfl, HBr⟩ := hrel
    rename World => wr
    obtain ⟨x0, x1, x2⟩ := KB.out wr HBr.out
    by_cases hlt : k < d.n
    · have c1 := (rdd_below HR.out HBr.out).2.2.1 k hlt
      have HS := hitK_s d s k hlt
      have hbit := bit64 k hs16
      have hl1 := hitK_lt d s k
      have hl2 : (byL d).getD k 0 < 4096 := byL_lt d hn12 k
      have hl3 : 2 ^ d.n ≤ 4096 := pow_small (n := 12) hn12
      have hor := or64 (a := hitK d s k) (b := (byL d).getD k 0) (by omega) (by omega)
      cases ht : s.testBit k with
      | true =>
        rw [ht, if_pos rfl] at HS hbit
        rw [← HS] at hor
        have HOR := hid hor
        clear hor ht hl1 hl2 hl3 HS
        generalize hitK d s k = A at *
        generalize (byL d).getD k 0 = B at *
        go_wp2_with fail
        go_roundw
        case rel => exact ⟨k + 1, by go_num, by omega, by rw [HOR.out], HBr⟩
        case measure => simp [intOf]; omega
      | false =>
        rw [ht, if_neg (by decide)] at HS hbit
        have HS' := hid HS
        clear hor ht hl1 hl2 hl3 HS
        go_wp2_with fail
        go_roundw
        case rel => exact ⟨k + 1, by go_num, by omega, by rw [HS'.out], HBr⟩
        case measure => simp [intOf]; omega
    · have hkn : k = d.n := by omega
      have HF : Hid (hitK d s k = d.hit s) := by rw [hkn]; exact rfl
      rw [HF.out]
      clear HF
      go_wp2_with fail
      go_ret
      exact ⟨rfl, HB0.out.trans (HBr.out.mono HB0.out.size)⟩
set_option maxRecDepth 100000 in
set_option maxHeartbeats 2000000 in
theorem rDefends_any (b1 b2 : Nat) (d : Dsp) (s : Nat) (w : World) (h : RDd w b1 b2 d) (hs : s < 2 ^ d.n) :
    Calls Try.prog 45 #[Dv b1 b2 d, .int .i64 (s : Int)] w fun e w' => e = .returned (.int .i64 ((d.dfd s : Nat) : Int)) ∧ Below w.heap.size w w' := by
  have HC : Hid (∀ w', Below w.heap.size w w' → Calls Try.prog 70 #[.agg #[.int .i64 (d.n : Int), .slice (some ⟨b1, 0, none⟩) d.n d.n, .slice (some ⟨b2, 0, none⟩) d.n d.n], .int .i64 (s : Int)] w' fun e w'' => e = .returned (.int .i64 ((d.hit s : Nat) : Int)) ∧ Below w'.heap.size w' w'') := fun w' hb => rHit_any b1 b2 d s w' (rdd_below h hb) hs
  have HB0 : Hid (Below w.heap.size w (w.alloc (.cells #[.int .i64 (d.n : Int), .slice (some ⟨b1, 0, none⟩) d.n d.n, .slice (some ⟨b2, 0, none⟩) d.n d.n] 34))) := ba w _
  have hz := heap_alloc_new w (.cells #[.int .i64 (d.n : Int), .slice (some ⟨b1, 0, none⟩) d.n d.n, .slice (some ⟨b2, 0, none⟩) d.n d.n] 34)
  have HR := hid (rdd_below h HB0.out)
  obtain ⟨hn1, hn12, -⟩ := id h
  clear h
  obtain ⟨w0, hw0⟩ : ∃ w0, w0 = w.alloc (.cells #[.int .i64 (d.n : Int), .slice (some ⟨b1, 0, none⟩) d.n d.n, .slice (some ⟨b2, 0, none⟩) d.n d.n] 34) := ⟨_, rfl⟩
  rw [← hw0] at HB0 HR hz
  have HW0 := hid hw0
  clear hw0
  have hgl := heap_lt hz
  have KB : Hid (∀ w', Below w0.heap.size w0 w' → w'.cell? ⟨w.heap.size, 0, none⟩ = some (.int .i64 (d.n : Int)) ∧ w'.cell? ⟨w.heap.size, 1, none⟩ = some (.slice (some ⟨b1, 0, none⟩) d.n d.n) ∧ w'.cell? ⟨w.heap.size, 2, none⟩ = some (.slice (some ⟨b2, 0, none⟩) d.n d.n)) := fun w' hb => cells3_of ((hb.block _ hgl).trans hz)
  clear hz hgl
  unfold Dv
  go_enter Try.func45, Try.ntmps45
  go_upto_region 1 with fail
  rw [← HW0.out]
  obtain ⟨x0, x1, x2⟩ := KB.out w0 (Below.refl _ _)
  go_upto_region 3 with (first | (go_at_call 70; refine (HC.out _ HB0.out).mono ?_; rintro e w4 ⟨rfl, hb4⟩; have HB4 := hid hb4; clear hb4) | fail)
  clear HW0 hs HC x0 x1 x2
  go_loopw [7, 6] (fun kv ov wr => ∃ k : Nat, kv = .int .i64 k ∧ k ≤ d.n ∧ ov = .int .i64 ((dfdK d s k : Nat) : Int) ∧ Hid (Below w0.heap.size w0 wr)) (fun kv _ _ => d.n - (intOf kv).toNat)
  case atStart => exact ⟨0, rfl, Nat.zero_le _, rfl, HB4⟩
  case round =>
    obtain ⟨k, rfl, hk, rfl, HBr⟩ := hrel
    rename World => wr
    obtain ⟨x0, x1, x2⟩ := KB.out wr HBr.out
    by_cases hlt : k < d.n
    · have c1 := (rdd_below HR.out HBr.out).2.2.2 k hlt
      have HS := dfdK_s d s k hlt
      have hl1 := dfdK_lt d s k
      have hl2 : (fromL d).getD k 0 < 4096 := fromL_lt d hn12 k
      have hl3 : 2 ^ d.n ≤ 4096 := pow_small (n := 12) hn12
      have hl4 := d.hit_lt s
      have hl5 : 2 ^ k ≤ 4096 := pow_small (n := 12) (by omega)
      have hdf := dif64 (a := (fromL d).getD k 0) (b := d.hit s) (by omega) (by omega)
      have hsh := wrap64 (show k < 62 by omega)
      have hor := or64 (a := dfdK d s k) (b := 2 ^ k) (by omega) (by omega)
      generalize diff ((fromL d).getD k 0) (d.hit s) = q at *
      by_cases hq : q = 0
      · rw [if_pos hq] at HS
        rw [← HS, ← pow_int] at hor
        have HOR := hid hor
        subst hq
        have hdf0 : bits BinOp.andNot IntKind.i64 (((fromL d).getD k 0 : Nat) : Int) ((d.hit s : Nat) : Int) = 0 := hdf
        clear hor hdf hl1 hl2 hl3 hl4 hl5 HS
        generalize dfdK d s k = A at *
        generalize (fromL d).getD k 0 = B at *
        generalize d.hit s = H at *
        go_wp2_with fail
        go_roundw
        case rel => exact ⟨k + 1, by go_num, by omega, by rw [HOR.out], HBr⟩
        case measure => simp [intOf]; omega
      · rw [if_neg hq] at HS
        have HS' := hid HS
        clear hor hl1 hl2 hl3 hl4 hl5 HS hsh
        generalize (fromL d).getD k 0 = B at *
        generalize d.hit s = H at *
        go_wp2_with fail
        go_roundw
        case rel => exact ⟨k + 1, by go_num, by omega, by rw [HS'.out], HBr⟩
        case measure => simp [intOf]; omega
    · have hkn : k = d.n := by omega
      have HF : Hid (dfdK d s k = d.dfd s) := by rw [hkn]; exact dfd_all d s
      rw [HF.out]
      clear HF
      go_wp2_with fail
      go_ret
      exact ⟨rfl, HB0.out.trans (HBr.out.mono HB0.out.size)⟩
theorem full_diff {s n : Nat} (h : s < 2 ^ n) : diff (2 ^ n - 1) s = 2 ^ n - 1 - s := by
  refine Nat.eq_of_testBit_eq fun i => ?_
  have e : 2 ^ n - 1 - s = 2 ^ n - (s + 1) := by omega
  rw [diff_bit, e, Nat.testBit_two_pow_sub_succ h, Nat.testBit_two_pow_sub_one]
theorem cf_eq (d : Dsp) (s : Nat) : d.cf s = (d.hit s &&& s == 0) := rfl
set_option maxRecDepth 100000 in
set_option maxHeartbeats 2000000 in
theorem rAdm_any (b1 b2 : Nat) (d : Dsp) (s : Nat) (w : World) (h : RDd w b1 b2 d) (hs : s < 2 ^ d.n) :
    Calls Try.prog 44 #[Dv b1 b2 d, .int .i64 (s : Int)] w fun e w' => e = .returned (.bool (d.adm s)) ∧ Below w.heap.size w w' := by
  have HC : Hid (∀ w', Below w.heap.size w w' → Calls Try.prog 70 #[.agg #[.int .i64 (d.n : Int), .slice (some ⟨b1, 0, none⟩) d.n d.n, .slice (some ⟨b2, 0, none⟩) d.n d.n], .int .i64 (s : Int)] w' fun e w'' => e = .returned (.int .i64 ((d.hit s : Nat) : Int)) ∧ Below w'.heap.size w' w'') := fun w' hb => rHit_any b1 b2 d s w' (rdd_below h hb) hs
  have HE : Hid (∀ w', Below w.heap.size w w' → Calls Try.prog 45 #[.agg #[.int .i64 (d.n : Int), .slice (some ⟨b1, 0, none⟩) d.n d.n, .slice (some ⟨b2, 0, none⟩) d.n d.n], .int .i64 (s : Int)] w' fun e w'' => e = .returned (.int .i64 ((d.dfd s : Nat) : Int)) ∧ Below w'.heap.size w' w'') := fun w' hb => rDefends_any b1 b2 d s w' (rdd_below h hb) hs
  have HB0 : Hid (Below w.heap.size w (w.alloc (.cells #[.int .i64 (d.n : Int), .slice (some ⟨b1, 0, none⟩) d.n d.n, .slice (some ⟨b2, 0, none⟩) d.n d.n] 34))) := ba w _
  have hz := heap_alloc_new w (.cells #[.int .i64 (d.n : Int), .slice (some ⟨b1, 0, none⟩) d.n d.n, .slice (some ⟨b2, 0, none⟩) d.n d.n] 34)
  have HR := hid (rdd_below h HB0.out)
  obtain ⟨hn1, hn12, -⟩ := id h
  clear h
  obtain ⟨w0, hw0⟩ : ∃ w0, w0 = w.alloc (.cells #[.int .i64 (d.n : Int), .slice (some ⟨b1, 0, none⟩) d.n d.n, .slice (some ⟨b2, 0, none⟩) d.n d.n] 34) := ⟨_, rfl⟩
  rw [← hw0] at HB0 HR hz
  have HW0 := hid hw0
  clear hw0
  have hgl := heap_lt hz
  have KB : Hid (∀ w', Below w0.heap.size w0 w' → w'.cell? ⟨w.heap.size, 0, none⟩ = some (.int .i64 (d.n : Int)) ∧ w'.cell? ⟨w.heap.size, 1, none⟩ = some (.slice (some ⟨b1, 0, none⟩) d.n d.n) ∧ w'.cell? ⟨w.heap.size, 2, none⟩ = some (.slice (some ⟨b2, 0, none⟩) d.n d.n)) := fun w' hb => cells3_of ((hb.block _ hgl).trans hz)
  clear hz hgl
  unfold Dv
  go_enter Try.func44, Try.ntmps44
  go_upto_region 1 with fail
  rw [← HW0.out]
  obtain ⟨x0, x1, x2⟩ := KB.out w0 (Below.refl _ _)
  have hl1 := d.hit_lt s
  have hl2 := d.dfd_lt s
  have hl3 : 2 ^ d.n ≤ 4096 := pow_small (n := 12) hn12
  have hand := and64 (a := d.hit s) (b := s) (by omega) (by omega)
  have hdf := dif64 (a := s) (b := d.dfd s) (by omega) (by omega)
  have hq : d.adm s = ((d.hit s &&& s == 0) && (diff s (d.dfd s) == 0)) := rfl
  clear HW0 hs hl1 hl2 hl3
  generalize d.hit s &&& s = q at *
  generalize diff s (d.dfd s) = r at *
  generalize d.hit s = H at *
  generalize d.dfd s = F at *
  by_cases hq0 : q = 0
  · subst hq0
    have hand0 : bits BinOp.and IntKind.i64 (H : Int) (s : Int) = 0 := hand
    by_cases hr0 : r = 0
    · subst hr0
      have hdf0 : bits BinOp.andNot IntKind.i64 (s : Int) (F : Int) = 0 := hdf
      have HQ : Hid (d.adm s = true) := by show _ = _; rw [hq]; rfl
      clear hq hand hdf
      go_wp2_with (first | (go_at_call 70; refine (HC.out _ HB0.out).mono ?_; rintro e w4 ⟨rfl, hb4⟩; have HB4 := hid hb4; obtain ⟨y0, y1, y2⟩ := KB.out w4 hb4; clear hb4) | (go_at_call 45; refine (HE.out _ (HB0.out.trans (HB4.out.mono HB0.out.size))).mono ?_; rintro e w5 ⟨rfl, hb5⟩; have HB5 := hid (below_step HB4.out hb5); clear hb5) | fail)
      go_ret
      exact ⟨by rw [HQ.out]; rfl, HB0.out.trans (HB5.out.mono HB0.out.size)⟩
    · have HQ : Hid (d.adm s = false) := by show _ = _; rw [hq, beq_eq_false_iff_ne.2 hr0]; rfl
      have hrb : ((r : Int) == 0) = false := beq_eq_false_iff_ne.2 (by omega)
      clear hq hand
      go_wp2_with (first | (go_at_call 70; refine (HC.out _ HB0.out).mono ?_; rintro e w4 ⟨rfl, hb4⟩; have HB4 := hid hb4; obtain ⟨y0, y1, y2⟩ := KB.out w4 hb4; clear hb4) | (go_at_call 45; refine (HE.out _ (HB0.out.trans (HB4.out.mono HB0.out.size))).mono ?_; rintro e w5 ⟨rfl, hb5⟩; have HB5 := hid (below_step HB4.out hb5); clear hb5) | fail)
      go_ret
      exact ⟨by rw [HQ.out]; rfl, HB0.out.trans (HB5.out.mono HB0.out.size)⟩
  · have HQ : Hid (d.adm s = false) := by show _ = _; rw [hq, beq_eq_false_iff_ne.2 hq0]; rfl
    have hqb : ((q : Int) == 0) = false := beq_eq_false_iff_ne.2 (by omega)
    clear hq hdf
    go_wp2_with (first | (go_at_call 70; refine (HC.out _ HB0.out).mono ?_; rintro e w4 ⟨rfl, hb4⟩; have HB4 := hid hb4; obtain ⟨y0, y1, y2⟩ := KB.out w4 hb4; clear hb4) | fail)
    go_ret
    exact ⟨by rw [HQ.out]; rfl, HB0.out.trans (HB4.out.mono HB0.out.size)⟩
set_option maxRecDepth 100000 in
set_option maxHeartbeats 2000000 in
theorem rComp_any (b1 b2 : Nat) (d : Dsp) (s : Nat) (w : World) (h : RDd w b1 b2 d) (hs : s < 2 ^ d.n) :
    Calls Try.prog 82 #[Dv b1 b2 d, .int .i64 (s : Int)] w fun e w' => e = .returned (.bool (d.comp s)) ∧ Below w.heap.size w w' := by
  have HC : Hid (∀ w', Below w.heap.size w w' → Calls Try.prog 70 #[.agg #[.int .i64 (d.n : Int), .slice (some ⟨b1, 0, none⟩) d.n d.n, .slice (some ⟨b2, 0, none⟩) d.n d.n], .int .i64 (s : Int)] w' fun e w'' => e = .returned (.int .i64 ((d.hit s : Nat) : Int)) ∧ Below w'.heap.size w' w'') := fun w' hb => rHit_any b1 b2 d s w' (rdd_below h hb) hs
  have HE : Hid (∀ w', Below w.heap.size w w' → Calls Try.prog 45 #[.agg #[.int .i64 (d.n : Int), .slice (some ⟨b1, 0, none⟩) d.n d.n, .slice (some ⟨b2, 0, none⟩) d.n d.n], .int .i64 (s : Int)] w' fun e w'' => e = .returned (.int .i64 ((d.dfd s : Nat) : Int)) ∧ Below w'.heap.size w' w'') := fun w' hb => rDefends_any b1 b2 d s w' (rdd_below h hb) hs
  have HB0 : Hid (Below w.heap.size w (w.alloc (.cells #[.int .i64 (d.n : Int), .slice (some ⟨b1, 0, none⟩) d.n d.n, .slice (some ⟨b2, 0, none⟩) d.n d.n] 34))) := ba w _
  have hz := heap_alloc_new w (.cells #[.int .i64 (d.n : Int), .slice (some ⟨b1, 0, none⟩) d.n d.n, .slice (some ⟨b2, 0, none⟩) d.n d.n] 34)
  have HR := hid (rdd_below h HB0.out)
  obtain ⟨hn1, hn12, -⟩ := id h
  clear h
  obtain ⟨w0, hw0⟩ : ∃ w0, w0 = w.alloc (.cells #[.int .i64 (d.n : Int), .slice (some ⟨b1, 0, none⟩) d.n d.n, .slice (some ⟨b2, 0, none⟩) d.n d.n] 34) := ⟨_, rfl⟩
  rw [← hw0] at HB0 HR hz
  have HW0 := hid hw0
  clear hw0
  have hgl := heap_lt hz
  have KB : Hid (∀ w', Below w0.heap.size w0 w' → w'.cell? ⟨w.heap.size, 0, none⟩ = some (.int .i64 (d.n : Int)) ∧ w'.cell? ⟨w.heap.size, 1, none⟩ = some (.slice (some ⟨b1, 0, none⟩) d.n d.n) ∧ w'.cell? ⟨w.heap.size, 2, none⟩ = some (.slice (some ⟨b2, 0, none⟩) d.n d.n)) := fun w' hb => cells3_of ((hb.block _ hgl).trans hz)
  clear hz hgl
  unfold Dv
  go_enter Try.func82, Try.ntmps82
  go_upto_region 1 with fail
  rw [← HW0.out]
  obtain ⟨x0, x1, x2⟩ := KB.out w0 (Below.refl _ _)
  have hl1 := d.hit_lt s
  have hl3 : 2 ^ d.n ≤ 4096 := pow_small (n := 12) hn12
  have hand := and64 (a := d.hit s) (b := s) (by omega) (by omega)
  have hq : d.comp s = ((d.hit s &&& s == 0) && (d.dfd s == s)) := rfl
  clear HW0 hs hl1 hl3
  generalize d.hit s &&& s = q at *
  generalize d.hit s = H at *
  generalize d.dfd s = F at *
  by_cases hq0 : q = 0
  · subst hq0
    have hand0 : bits BinOp.and IntKind.i64 (H : Int) (s : Int) = 0 := hand
    by_cases hr0 : F = s
    · have HQ : Hid (d.comp s = true) := by show _ = _; rw [hq, hr0]; simp
      clear hq hand
      go_wp2_with (first | (go_at_call 70; refine (HC.out _ HB0.out).mono ?_; rintro e w4 ⟨rfl, hb4⟩; have HB4 := hid hb4; obtain ⟨y0, y1, y2⟩ := KB.out w4 hb4; clear hb4) | (go_at_call 45; refine (HE.out _ (HB0.out.trans (HB4.out.mono HB0.out.size))).mono ?_; rintro e w5 ⟨rfl, hb5⟩; have HB5 := hid (below_step HB4.out hb5); clear hb5) | fail)
      go_ret
      exact ⟨by rw [HQ.out]; rfl, HB0.out.trans (HB5.out.mono HB0.out.size)⟩
    · have HQ : Hid (d.comp s = false) := by show _ = _; rw [hq, beq_eq_false_iff_ne.2 hr0]; rfl
      have hri : ((F : Int) == (s : Int)) = false := beq_eq_false_iff_ne.2 (by omega)
      clear hq hand
      go_wp2_with (first | (go_at_call 70; refine (HC.out _ HB0.out).mono ?_; rintro e w4 ⟨rfl, hb4⟩; have HB4 := hid hb4; obtain ⟨y0, y1, y2⟩ := KB.out w4 hb4; clear hb4) | (go_at_call 45; refine (HE.out _ (HB0.out.trans (HB4.out.mono HB0.out.size))).mono ?_; rintro e w5 ⟨rfl, hb5⟩; have HB5 := hid (below_step HB4.out hb5); clear hb5) | fail)
      go_ret
      exact ⟨by rw [HQ.out]; rfl, HB0.out.trans (HB5.out.mono HB0.out.size)⟩
  · have HQ : Hid (d.comp s = false) := by show _ = _; rw [hq, beq_eq_false_iff_ne.2 hq0]; rfl
    have hqb : ((q : Int) == 0) = false := beq_eq_false_iff_ne.2 (by omega)
    clear hq
    go_wp2_with (first | (go_at_call 70; refine (HC.out _ HB0.out).mono ?_; rintro e w4 ⟨rfl, hb4⟩; have HB4 := hid hb4; obtain ⟨y0, y1, y2⟩ := KB.out w4 hb4; clear hb4) | fail)
    go_ret
    exact ⟨by rw [HQ.out]; rfl, HB0.out.trans (HB4.out.mono HB0.out.size)⟩
section
variable {md : Region.Mode} {ops : Array Oper} {Q : Exit → Act → World → Prop} {S : World → Prop} {fuel : Nat} {listed : Array Bool} {a : Act} {w : World} {i : Nat} {o : Oper} {rs : List Nat}
theorem node_f70 (d : Nat) (k1 k2 : Nat) (v1 v2 : Value) (hi : ops[i]? = some o) (hgd : Region.wanted o (yielded ops a.tmps) = true) (ho : o.op = .call { callee := .value (.func 70), args := #[.tmp k1, .tmp k2], argTypes := #[34, 3] }) (hd : o.dst = some d)
    (hp1 : a.tmps[k1]?.getD undef = v1)
    (hp2 : a.tmps[k2]?.getD undef = v2)
    (h : Calls Try.prog 70 #[v1, v2] w fun e w' => ∃ u, e = .returned u ∧ S w' ∧ wpAnyH Try.prog md ops Q S fuel (listed.setIfInBounds i true) (a.put (some d) u) w')
    (hs : AllReadyH Try.prog md ops Q S fuel listed a w rs) : AllReadyH Try.prog md ops Q S fuel listed a w (i :: rs) := by
  refine AllReadyH.cons hi (fun K hK => ?_) hs
  rw [if_pos hgd]
  unfold Oper.wp execOp
  simp [ho, go_sem, hp1, hp2]
  refine h.mono ?_
  rintro e w' ⟨u, rfl, h1, h2⟩
  have hk := hK.out _ _ h1 (fun _ => h2)
  rw [hd]
  exact hk
end
set_option maxRecDepth 100000 in
set_option maxHeartbeats 2000000 in
theorem rStab_any (b1 b2 : Nat) (d : Dsp) (s : Nat) (w : World) (h : RDd w b1 b2 d) (hs : s < 2 ^ d.n) :
    Calls Try.prog 83 #[Dv b1 b2 d, .int .i64 (s : Int)] w fun e w' => e = .returned (.bool (d.stab s)) ∧ Below w.heap.size w w' := by
  have HC : Hid (∀ w', Below w.heap.size w w' → Calls Try.prog 70 #[.agg #[.int .i64 (d.n : Int), .slice (some ⟨b1, 0, none⟩) d.n d.n, .slice (some ⟨b2, 0, none⟩) d.n d.n], .int .i64 (s : Int)] w' fun e w'' => e = .returned (.int .i64 ((d.hit s : Nat) : Int)) ∧ Below w'.heap.size w' w'') := fun w' hb => rHit_any b1 b2 d s w' (rdd_below h hb) hs
  have HB0 : Hid (Below w.heap.size w (w.alloc (.cells #[.int .i64 (d.n : Int), .slice (some ⟨b1, 0, none⟩) d.n d.n, .slice (some ⟨b2, 0, none⟩) d.n d.n] 34))) := ba w _
  have hz := heap_alloc_new w (.cells #[.int .i64 (d.n : Int), .slice (some ⟨b1, 0, none⟩) d.n d.n, .slice (some ⟨b2, 0, none⟩) d.n d.n] 34)
  have HR := hid (rdd_below h HB0.out)
  obtain ⟨hn1, hn12, -⟩ := id h
  clear h
  obtain ⟨w0, hw0⟩ : ∃ w0, w0 = w.alloc (.cells #[.int .i64 (d.n : Int), .slice (some ⟨b1, 0, none⟩) d.n d.n, .slice (some ⟨b2, 0, none⟩) d.n d.n] 34) := ⟨_, rfl⟩
  rw [← hw0] at HB0 HR hz
  have HW0 := hid hw0
  clear hw0
  have hgl := heap_lt hz
  have KB : Hid (∀ w', Below w0.heap.size w0 w' → w'.cell? ⟨w.heap.size, 0, none⟩ = some (.int .i64 (d.n : Int)) ∧ w'.cell? ⟨w.heap.size, 1, none⟩ = some (.slice (some ⟨b1, 0, none⟩) d.n d.n) ∧ w'.cell? ⟨w.heap.size, 2, none⟩ = some (.slice (some ⟨b2, 0, none⟩) d.n d.n)) := fun w' hb => cells3_of ((hb.block _ hgl).trans hz)
  clear hz hgl
  unfold Dv
  go_enter Try.func83, Try.ntmps83
  go_upto_region 1 with fail
  rw [← HW0.out]
  have hl3 : 2 ^ d.n ≤ 4096 := pow_small (n := 12) hn12
  have hsh := wrap64 (show d.n < 62 by omega)
  have hq : d.stab s = (d.hit s == 2 ^ d.n - 1 - s) := by rw [← full_diff hs]; rfl
  clear HW0
  obtain ⟨N, hN⟩ : ∃ N, N = 2 ^ d.n := ⟨_, rfl⟩
  rw [← hN] at hl3 hsh hq hs
  have h0n : (0 : Int) ≤ (d.n : Int) := by omega
  have h64 : (d.n : Int) ≤ 64 := by omega
  have HSH := hid hsh
  clear hN
  generalize d.hit s = H at *
  by_cases he : H = N - 1 - s
  · have HEQ : Hid ((H : Int) = (N : Int) - 1 - (s : Int)) := by show _ = _; omega
    have hei : (H : Int) = (N : Int) - 1 - (s : Int) := HEQ.out
    have HQ : Hid (d.stab s = true) := by show _ = _; rw [hq, he, beq_self_eq_true]
    clear hq he
    refine wp_region_held_drew (S := fun w' => w'.cell? ⟨w.heap.size, 0, none⟩ = some (.int .i64 (d.n : Int)) ∧ w'.cell? ⟨w.heap.size, 1, none⟩ = some (.slice (some ⟨b1, 0, none⟩) d.n d.n) ∧ w'.cell? ⟨w.heap.size, 2, none⟩ = some (.slice (some ⟨b2, 0, none⟩) d.n d.n)) (by kernel_rfl) (KB.out _ ((Below.refl _ _).drew)) (fun hHeld => ?_)
    have HU0 : Hid (Below w0.heap.size w0 w0.drew) := (Below.refl _ _).drew
    generalize w0.drew = u0 at *
    refine take_at (i := 0) 5 (v := .agg #[.int .i64 (d.n : Int), .slice (some ⟨b1, 0, none⟩) d.n d.n, .slice (some ⟨b2, 0, none⟩) d.n d.n]) rfl (by kernel_rfl) (by kernel_rfl) (by kernel_rfl) rfl (fun _ _ _ h => h) (by rfl) (fun w hSw => ?_) hHeld ?_
    · (try dsimp only at hSw); go_simp
    simp only [Act.put, List.setIfInBounds_toArray, List.set_cons_zero, List.set_cons_succ]
    refine take_at (i := 1) 6 (v := .int .i64 (s : Int)) rfl (by kernel_rfl) (by kernel_rfl) (by kernel_rfl) rfl (fun _ _ _ h => h) (by rfl) (fun w hSw => ?_) hHeld ?_
    · (try dsimp only at hSw); go_simp
    simp only [Act.put, List.setIfInBounds_toArray, List.set_cons_zero, List.set_cons_succ]
    refine take_at (i := 3) 8 (v := .pointer (some ⟨w.heap.size, 0, none⟩)) rfl (by kernel_rfl) (by kernel_rfl) (by kernel_rfl) rfl (fun _ _ _ h => h) (by rfl) (fun w hSw => ?_) hHeld ?_
    · (try dsimp only at hSw); go_simp
    simp only [Act.put, List.setIfInBounds_toArray, List.set_cons_zero, List.set_cons_succ]
    refine take_at (i := 4) 9 (v := .int .i64 (d.n : Int)) rfl (by kernel_rfl) (by kernel_rfl) (by kernel_rfl) rfl (fun _ _ _ h => h) (by rfl) (fun w hSw => ?_) hHeld ?_
    · (try dsimp only at hSw); go_simp
    simp only [Act.put, List.setIfInBounds_toArray, List.set_cons_zero, List.set_cons_succ]
    refine take_at (i := 5) 10 (v := .int .i64 (N : Int)) rfl (by kernel_rfl) (by kernel_rfl) (by kernel_rfl) rfl (fun _ _ _ h => h) (by rfl) (fun w hSw => ?_) hHeld ?_
    · (try dsimp only at hSw); go_simp; first | done | exact HSH.out | (rw [HSH.out])
    simp only [Act.put, List.setIfInBounds_toArray, List.set_cons_zero, List.set_cons_succ]
    refine take_at (i := 6) 11 (v := .int .i64 ((N : Int) - 1)) rfl (by kernel_rfl) (by kernel_rfl) (by kernel_rfl) rfl (fun _ _ _ h => h) (by rfl) (fun w hSw => ?_) hHeld ?_
    · (try dsimp only at hSw); go_simp; first | done | (rw [IntKind.wrap_i64]; omega)
    simp only [Act.put, List.setIfInBounds_toArray, List.set_cons_zero, List.set_cons_succ]
    refine take_at (i := 7) 12 (v := .int .i64 (s : Int)) rfl (by kernel_rfl) (by kernel_rfl) (by kernel_rfl) rfl (fun _ _ _ h => h) (by rfl) (fun w hSw => ?_) hHeld ?_
    · (try dsimp only at hSw); go_simp
    simp only [Act.put, List.setIfInBounds_toArray, List.set_cons_zero, List.set_cons_succ]
    refine take_at (i := 8) 13 (v := .int .i64 ((N : Int) - 1 - (s : Int))) rfl (by kernel_rfl) (by kernel_rfl) (by kernel_rfl) rfl (fun _ _ _ h => h) (by rfl) (fun w hSw => ?_) hHeld ?_
    · (try dsimp only at hSw); go_simp; first | done | (rw [IntKind.wrap_i64]; omega)
    simp only [Act.put, List.setIfInBounds_toArray, List.set_cons_zero, List.set_cons_succ]
    refine wpAnyH_ready (rs := [2]) (by kernel_rfl) (by simp) ?_
    refine node_f70 7 5 6 _ _ rfl (by rfl) rfl rfl rfl rfl ((HC.out u0 (HB0.out.trans (HU0.out.mono HB0.out.size))).mono ?_) AllReadyH.nil
    · rintro e u1 ⟨rfl, hb1⟩
      have HU1 := hid (below_step HU0.out hb1)
      have hHeld := KB.out _ HU1.out
      refine ⟨_, rfl, hHeld, ?_⟩
      clear hb1
      simp only [Act.put, List.setIfInBounds_toArray, List.set_cons_zero, List.set_cons_succ]
      refine take_at (i := 9) 14 (v := .bool true) rfl (by kernel_rfl) (by kernel_rfl) (by kernel_rfl) rfl (fun _ _ _ h => h) (by rfl) (fun w hSw => ?_) hHeld ?_
      · (try dsimp only at hSw); go_simp; first | done | exact HEQ.out
      simp only [Act.put, List.setIfInBounds_toArray, List.set_cons_zero, List.set_cons_succ]
      refine take_at (i := 10) 4 (v := .bool true) rfl (by kernel_rfl) (by kernel_rfl) (by kernel_rfl) rfl (fun _ _ _ h => h) (by rfl) (fun w hSw => ?_) hHeld ?_
      · (try dsimp only at hSw); go_simp
      simp only [Act.put, List.setIfInBounds_toArray, List.set_cons_zero, List.set_cons_succ]
      refine wpAnyH_done (by kernel_rfl) ?_ _
      clear hHeld
      have HF := hid (HB0.out.trans (HU1.out.mono HB0.out.size))
      go_wp2_with fail
      go_ret
      exact ⟨by rw [HQ.out]; rfl, HF.out⟩
  · have HEQ : Hid (¬ (H : Int) = (N : Int) - 1 - (s : Int)) := by show ¬ _; omega
    have hei : ((H : Int) == (N : Int) - 1 - (s : Int)) = false := beq_eq_false_iff_ne.2 HEQ.out
    have HQ : Hid (d.stab s = false) := by show _ = _; rw [hq, beq_eq_false_iff_ne.2 he]
    clear hq he
    refine wp_region_held_drew (S := fun w' => w'.cell? ⟨w.heap.size, 0, none⟩ = some (.int .i64 (d.n : Int)) ∧ w'.cell? ⟨w.heap.size, 1, none⟩ = some (.slice (some ⟨b1, 0, none⟩) d.n d.n) ∧ w'.cell? ⟨w.heap.size, 2, none⟩ = some (.slice (some ⟨b2, 0, none⟩) d.n d.n)) (by kernel_rfl) (KB.out _ ((Below.refl _ _).drew)) (fun hHeld => ?_)
    have HU0 : Hid (Below w0.heap.size w0 w0.drew) := (Below.refl _ _).drew
    generalize w0.drew = u0 at *
    refine take_at (i := 0) 5 (v := .agg #[.int .i64 (d.n : Int), .slice (some ⟨b1, 0, none⟩) d.n d.n, .slice (some ⟨b2, 0, none⟩) d.n d.n]) rfl (by kernel_rfl) (by kernel_rfl) (by kernel_rfl) rfl (fun _ _ _ h => h) (by rfl) (fun w hSw => ?_) hHeld ?_
    · (try dsimp only at hSw); go_simp
    simp only [Act.put, List.setIfInBounds_toArray, List.set_cons_zero, List.set_cons_succ]
    refine take_at (i := 1) 6 (v := .int .i64 (s : Int)) rfl (by kernel_rfl) (by kernel_rfl) (by kernel_rfl) rfl (fun _ _ _ h => h) (by rfl) (fun w hSw => ?_) hHeld ?_
    · (try dsimp only at hSw); go_simp
    simp only [Act.put, List.setIfInBounds_toArray, List.set_cons_zero, List.set_cons_succ]
    refine take_at (i := 3) 8 (v := .pointer (some ⟨w.heap.size, 0, none⟩)) rfl (by kernel_rfl) (by kernel_rfl) (by kernel_rfl) rfl (fun _ _ _ h => h) (by rfl) (fun w hSw => ?_) hHeld ?_
    · (try dsimp only at hSw); go_simp
    simp only [Act.put, List.setIfInBounds_toArray, List.set_cons_zero, List.set_cons_succ]
    refine take_at (i := 4) 9 (v := .int .i64 (d.n : Int)) rfl (by kernel_rfl) (by kernel_rfl) (by kernel_rfl) rfl (fun _ _ _ h => h) (by rfl) (fun w hSw => ?_) hHeld ?_
    · (try dsimp only at hSw); go_simp
    simp only [Act.put, List.setIfInBounds_toArray, List.set_cons_zero, List.set_cons_succ]
    refine take_at (i := 5) 10 (v := .int .i64 (N : Int)) rfl (by kernel_rfl) (by kernel_rfl) (by kernel_rfl) rfl (fun _ _ _ h => h) (by rfl) (fun w hSw => ?_) hHeld ?_
    · (try dsimp only at hSw); go_simp; first | done | exact HSH.out | (rw [HSH.out])
    simp only [Act.put, List.setIfInBounds_toArray, List.set_cons_zero, List.set_cons_succ]
    refine take_at (i := 6) 11 (v := .int .i64 ((N : Int) - 1)) rfl (by kernel_rfl) (by kernel_rfl) (by kernel_rfl) rfl (fun _ _ _ h => h) (by rfl) (fun w hSw => ?_) hHeld ?_
    · (try dsimp only at hSw); go_simp; first | done | (rw [IntKind.wrap_i64]; omega)
    simp only [Act.put, List.setIfInBounds_toArray, List.set_cons_zero, List.set_cons_succ]
    refine take_at (i := 7) 12 (v := .int .i64 (s : Int)) rfl (by kernel_rfl) (by kernel_rfl) (by kernel_rfl) rfl (fun _ _ _ h => h) (by rfl) (fun w hSw => ?_) hHeld ?_
    · (try dsimp only at hSw); go_simp
    simp only [Act.put, List.setIfInBounds_toArray, List.set_cons_zero, List.set_cons_succ]
    refine take_at (i := 8) 13 (v := .int .i64 ((N : Int) - 1 - (s : Int))) rfl (by kernel_rfl) (by kernel_rfl) (by kernel_rfl) rfl (fun _ _ _ h => h) (by rfl) (fun w hSw => ?_) hHeld ?_
    · (try dsimp only at hSw); go_simp; first | done | (rw [IntKind.wrap_i64]; omega)
    simp only [Act.put, List.setIfInBounds_toArray, List.set_cons_zero, List.set_cons_succ]
    refine wpAnyH_ready (rs := [2]) (by kernel_rfl) (by simp) ?_
    refine node_f70 7 5 6 _ _ rfl (by rfl) rfl rfl rfl rfl ((HC.out u0 (HB0.out.trans (HU0.out.mono HB0.out.size))).mono ?_) AllReadyH.nil
    · rintro e u1 ⟨rfl, hb1⟩
      have HU1 := hid (below_step HU0.out hb1)
      have hHeld := KB.out _ HU1.out
      refine ⟨_, rfl, hHeld, ?_⟩
      clear hb1
      simp only [Act.put, List.setIfInBounds_toArray, List.set_cons_zero, List.set_cons_succ]
      refine take_at (i := 9) 14 (v := .bool false) rfl (by kernel_rfl) (by kernel_rfl) (by kernel_rfl) rfl (fun _ _ _ h => h) (by rfl) (fun w hSw => ?_) hHeld ?_
      · (try dsimp only at hSw); go_simp; first | done | exact HEQ.out
      simp only [Act.put, List.setIfInBounds_toArray, List.set_cons_zero, List.set_cons_succ]
      refine take_at (i := 10) 4 (v := .bool false) rfl (by kernel_rfl) (by kernel_rfl) (by kernel_rfl) rfl (fun _ _ _ h => h) (by rfl) (fun w hSw => ?_) hHeld ?_
      · (try dsimp only at hSw); go_simp
      simp only [Act.put, List.setIfInBounds_toArray, List.set_cons_zero, List.set_cons_succ]
      refine wpAnyH_done (by kernel_rfl) ?_ _
      clear hHeld
      have HF := hid (HB0.out.trans (HU1.out.mono HB0.out.size))
      go_wp2_with fail
      go_ret
      exact ⟨by rw [HQ.out]; rfl, HF.out⟩
set_option maxRecDepth 100000 in
set_option maxHeartbeats 2000000 in
theorem rAll0_any (b1 b2 : Nat) (d : Dsp) (w : World) (h : RDd w b1 b2 d) :
    Calls Try.prog 69 #[Dv b1 b2 d, .int .i64 0] w fun e w' => ∃ v, e = .returned v ∧ OwnV w' w.heap.size 3 v ((d.alls (d.adm)).map iv) ∧ Below w.heap.size w w' := by
  have HC : Hid (∀ (i : Nat) w', i < 2 ^ d.n → Below w.heap.size w w' → Calls Try.prog 44 #[.agg #[.int .i64 (d.n : Int), .slice (some ⟨b1, 0, none⟩) d.n d.n, .slice (some ⟨b2, 0, none⟩) d.n d.n], .int .i64 (i : Int)] w' fun e w'' => e = .returned (.bool (d.adm i)) ∧ Below w'.heap.size w' w'') := fun i w' hi hb => rAdm_any b1 b2 d i w' (rdd_below h hb) hi
  have HB0 : Hid (Below w.heap.size w (w.alloc (.cells #[.int .i64 (d.n : Int), .slice (some ⟨b1, 0, none⟩) d.n d.n, .slice (some ⟨b2, 0, none⟩) d.n d.n] 34))) := ba w _
  have hz := heap_alloc_new w (.cells #[.int .i64 (d.n : Int), .slice (some ⟨b1, 0, none⟩) d.n d.n, .slice (some ⟨b2, 0, none⟩) d.n d.n] 34)
  have HR := hid (rdd_below h HB0.out)
  obtain ⟨hn1, hn12, -⟩ := id h
  clear h
  obtain ⟨w0, hw0⟩ : ∃ w0, w0 = w.alloc (.cells #[.int .i64 (d.n : Int), .slice (some ⟨b1, 0, none⟩) d.n d.n, .slice (some ⟨b2, 0, none⟩) d.n d.n] 34) := ⟨_, rfl⟩
  rw [← hw0] at HB0 HR hz
  have HW0 := hid hw0
  clear hw0
  have hgl := heap_lt hz
  have KB : Hid (∀ w', Below w0.heap.size w0 w' → w'.cell? ⟨w.heap.size, 0, none⟩ = some (.int .i64 (d.n : Int)) ∧ w'.cell? ⟨w.heap.size, 1, none⟩ = some (.slice (some ⟨b1, 0, none⟩) d.n d.n) ∧ w'.cell? ⟨w.heap.size, 2, none⟩ = some (.slice (some ⟨b2, 0, none⟩) d.n d.n)) := fun w' hb => cells3_of ((hb.block _ hgl).trans hz)
  clear hz hgl
  unfold Dv
  go_enter Try.func69, Try.ntmps69
  go_upto_region 1 with fail
  rw [← HW0.out]
  go_upto_region 3 with fail
  have HT0 : Hid (OwnV (w0.alloc (.cells #[] 3)) w0.heap.size 3 (.slice (some ⟨w0.heap.size, 0, none⟩) 0 0) []) := ownV_made w0 w0.heap.size 3 (Nat.le_refl _)
  have HBm := hid (ba w0 (.cells #[] 3))
  have hsh := wrap64 (show d.n < 62 by omega)
  have h0n : (0 : Int) ≤ (d.n : Int) := by omega
  have h64 : (d.n : Int) ≤ 64 := by omega
  have hl3 : 2 ^ d.n ≤ 4096 := pow_small (n := 12) hn12
  have HAL : Hid ((List.range (2 ^ d.n)).filter (d.adm) = d.alls (d.adm)) := rfl
  obtain ⟨N, hN⟩ : ∃ N, N = 2 ^ d.n := ⟨_, rfl⟩
  rw [← hN] at hsh hl3 HAL HC 
  clear HW0 hN
  go_loopw [6, 5] (fun cv ov wr => ∃ i : Nat, cv = .int .i64 i ∧ i ≤ N ∧ Hid (OwnV wr w0.heap.size 3 ov (((List.range i).filter (d.adm)).map iv)) ∧ Hid (Below w0.heap.size w0 wr)) (fun cv _ _ => N - (intOf cv).toNat)
  case atStart => exact ⟨0, rfl, Nat.zero_le _, HT0, HBm⟩
  case round =>
    obtain ⟨i, rfl, hi, HT, HBr⟩ := hrel
    rename World => wr
    obtain ⟨oa, on, oc, rfl⟩ := ownV_sh HT.out
    clear HT0
    obtain ⟨x0, x1, x2⟩ := KB.out wr HBr.out
    have HLN : Hid ((((List.range i).filter (d.adm)).map iv).length < 1000000) := by
      show _ < _
      rw [List.length_map]
      have := List.length_filter_le (d.adm) (List.range i)
      rw [List.length_range] at this
      omega
    by_cases hlt : i < N
    · have HSU := hid (filter_take (p := d.adm) i)
      have HCi := hid (HC.out i wr hlt (HB0.out.trans (HBr.out.mono HB0.out.size)))
      cases hb : d.adm i with
      | true =>
        rw [hb] at HCi HSU
        have HSN : Hid (((List.range i).filter (d.adm)).map iv ++ [.int .i64 (i : Int)] = ((List.range (i + 1)).filter (d.adm)).map iv) := by
          show _ = _
          rw [HSU.out, if_pos rfl, List.map_append]; rfl
        clear hb HSU
        obtain ⟨xs, hxs⟩ : ∃ xs, xs = ((List.range i).filter (d.adm)).map iv := ⟨_, rfl⟩
        rw [← hxs] at HT HSN HLN
        clear hxs
        go_upto_region 6 with (first | (go_at_call 44; refine HCi.out.mono ?_; rintro e w6 ⟨rfl, hb6⟩; have HB6k := hid hb6; have HB6 := hid (below_step HBr.out hb6); obtain ⟨y0, y1, y2⟩ := KB.out w6 HB6.out; clear hb6) | fail)
        have HT6 := hid (ownV_below HT.out HB6k.out)
        go_wp2_with (first | (at_builtin; refine wpl_app_int (i : Int) _ _ (.slice oa on oc) w0.heap.size xs (by rfl) (by rfl) (by rfl) (by rfl) HT6.out HLN.out HB6.out.size ?_; intro v' w7 ho7 hb7 hg7; rw [HSN.out] at ho7; have HO7 := hid ho7; have HB7 := hid (HB6.out.trans hb7); clear ho7 hb7 hg7) | fail)
        go_roundw
        case rel => exact ⟨i + 1, by go_num, by omega, HO7, HB7⟩
        case measure => simp [intOf]; omega
      | false =>
        rw [hb] at HCi HSU
        have HSU2 := HSU.out
        rw [if_neg (by decide)] at HSU2
        have HSU := hid HSU2
        clear hb HSU2
        go_wp2_with (first | (go_at_call 44; refine HCi.out.mono ?_; rintro e w6 ⟨rfl, hb6⟩; have HB6k := hid hb6; have HB6 := hid (below_step HBr.out hb6); obtain ⟨y0, y1, y2⟩ := KB.out w6 HB6.out; clear hb6) | fail)
        go_roundw
        case rel => exact ⟨i + 1, by go_num, by omega, by rw [HSU.out]; exact ownV_below HT.out HB6k.out, HB6⟩
        case measure => simp [intOf]; omega
    · have hiN : i = N := by omega
      subst hiN
      have HF : Hid (OwnV wr w0.heap.size 3 (.slice oa on oc) ((d.alls (d.adm)).map iv)) := by rw [← HAL.out]; exact HT.out
      clear HT
      go_wp2_with fail
      go_ret
      exact ⟨_, rfl, ownV_mono HF.out HB0.out.size, HB0.out.trans (HBr.out.mono HB0.out.size)⟩
set_option maxRecDepth 100000 in
set_option maxHeartbeats 2000000 in
theorem rAll1_any (b1 b2 : Nat) (d : Dsp) (w : World) (h : RDd w b1 b2 d) :
    Calls Try.prog 69 #[Dv b1 b2 d, .int .i64 1] w fun e w' => ∃ v, e = .returned v ∧ OwnV w' w.heap.size 3 v ((d.alls (d.comp)).map iv) ∧ Below w.heap.size w w' := by
  have HC : Hid (∀ (i : Nat) w', i < 2 ^ d.n → Below w.heap.size w w' → Calls Try.prog 82 #[.agg #[.int .i64 (d.n : Int), .slice (some ⟨b1, 0, none⟩) d.n d.n, .slice (some ⟨b2, 0, none⟩) d.n d.n], .int .i64 (i : Int)] w' fun e w'' => e = .returned (.bool (d.comp i)) ∧ Below w'.heap.size w' w'') := fun i w' hi hb => rComp_any b1 b2 d i w' (rdd_below h hb) hi
  have HB0 : Hid (Below w.heap.size w (w.alloc (.cells #[.int .i64 (d.n : Int), .slice (some ⟨b1, 0, none⟩) d.n d.n, .slice (some ⟨b2, 0, none⟩) d.n d.n] 34))) := ba w _
  have hz := heap_alloc_new w (.cells #[.int .i64 (d.n : Int), .slice (some ⟨b1, 0, none⟩) d.n d.n, .slice (some ⟨b2, 0, none⟩) d.n d.n] 34)
  have HR := hid (rdd_below h HB0.out)
  obtain ⟨hn1, hn12, -⟩ := id h
  clear h
  obtain ⟨w0, hw0⟩ : ∃ w0, w0 = w.alloc (.cells #[.int .i64 (d.n : Int), .slice (some ⟨b1, 0, none⟩) d.n d.n, .slice (some ⟨b2, 0, none⟩) d.n d.n] 34) := ⟨_, rfl⟩
  rw [← hw0] at HB0 HR hz
  have HW0 := hid hw0
  clear hw0
  have hgl := heap_lt hz
  have KB : Hid (∀ w', Below w0.heap.size w0 w' → w'.cell? ⟨w.heap.size, 0, none⟩ = some (.int .i64 (d.n : Int)) ∧ w'.cell? ⟨w.heap.size, 1, none⟩ = some (.slice (some ⟨b1, 0, none⟩) d.n d.n) ∧ w'.cell? ⟨w.heap.size, 2, none⟩ = some (.slice (some ⟨b2, 0, none⟩) d.n d.n)) := fun w' hb => cells3_of ((hb.block _ hgl).trans hz)
  clear hz hgl
  unfold Dv
  go_enter Try.func69, Try.ntmps69
  go_upto_region 1 with fail
  rw [← HW0.out]
  go_upto_region 3 with fail
  have HT0 : Hid (OwnV (w0.alloc (.cells #[] 3)) w0.heap.size 3 (.slice (some ⟨w0.heap.size, 0, none⟩) 0 0) []) := ownV_made w0 w0.heap.size 3 (Nat.le_refl _)
  have HBm := hid (ba w0 (.cells #[] 3))
  have hsh := wrap64 (show d.n < 62 by omega)
  have h0n : (0 : Int) ≤ (d.n : Int) := by omega
  have h64 : (d.n : Int) ≤ 64 := by omega
  have hl3 : 2 ^ d.n ≤ 4096 := pow_small (n := 12) hn12
  have HAL : Hid ((List.range (2 ^ d.n)).filter (d.comp) = d.alls (d.comp)) := rfl
  obtain ⟨N, hN⟩ : ∃ N, N = 2 ^ d.n := ⟨_, rfl⟩
  rw [← hN] at hsh hl3 HAL HC 
  clear HW0 hN
  go_loopw [6, 5] (fun cv ov wr => ∃ i : Nat, cv = .int .i64 i ∧ i ≤ N ∧ Hid (OwnV wr w0.heap.size 3 ov (((List.range i).filter (d.comp)).map iv)) ∧ Hid (Below w0.heap.size w0 wr)) (fun cv _ _ => N - (intOf cv).toNat)
  case atStart => exact ⟨0, rfl, Nat.zero_le _, HT0, HBm⟩
  case round =>
    obtain ⟨i, rfl, hi, HT, HBr⟩ := hrel
    rename World => wr
    obtain ⟨oa, on, oc, rfl⟩ := ownV_sh HT.out
    clear HT0
    obtain ⟨x0, x1, x2⟩ := KB.out wr HBr.out
    have HLN : Hid ((((List.range i).filter (d.comp)).map iv).length < 1000000) := by
      show _ < _
      rw [List.length_map]
      have := List.length_filter_le (d.comp) (List.range i)
      rw [List.length_range] at this
      omega
    by_cases hlt : i < N
    · have HSU := hid (filter_take (p := d.comp) i)
      have HCi := hid (HC.out i wr hlt (HB0.out.trans (HBr.out.mono HB0.out.size)))
      cases hb : d.comp i with
      | true =>
        rw [hb] at HCi HSU
        have HSN : Hid (((List.range i).filter (d.comp)).map iv ++ [.int .i64 (i : Int)] = ((List.range (i + 1)).filter (d.comp)).map iv) := by
          show _ = _
          rw [HSU.out, if_pos rfl, List.map_append]; rfl
        clear hb HSU
        obtain ⟨xs, hxs⟩ : ∃ xs, xs = ((List.range i).filter (d.comp)).map iv := ⟨_, rfl⟩
        rw [← hxs] at HT HSN HLN
        clear hxs
        go_upto_region 6 with (first | (go_at_call 82; refine HCi.out.mono ?_; rintro e w6 ⟨rfl, hb6⟩; have HB6k := hid hb6; have HB6 := hid (below_step HBr.out hb6); obtain ⟨y0, y1, y2⟩ := KB.out w6 HB6.out; clear hb6) | fail)
        have HT6 := hid (ownV_below HT.out HB6k.out)
        go_wp2_with (first | (at_builtin; refine wpl_app_int (i : Int) _ _ (.slice oa on oc) w0.heap.size xs (by rfl) (by rfl) (by rfl) (by rfl) HT6.out HLN.out HB6.out.size ?_; intro v' w7 ho7 hb7 hg7; rw [HSN.out] at ho7; have HO7 := hid ho7; have HB7 := hid (HB6.out.trans hb7); clear ho7 hb7 hg7) | fail)
        go_roundw
        case rel => exact ⟨i + 1, by go_num, by omega, HO7, HB7⟩
        case measure => simp [intOf]; omega
      | false =>
        rw [hb] at HCi HSU
        have HSU2 := HSU.out
        rw [if_neg (by decide)] at HSU2
        have HSU := hid HSU2
        clear hb HSU2
        go_wp2_with (first | (go_at_call 82; refine HCi.out.mono ?_; rintro e w6 ⟨rfl, hb6⟩; have HB6k := hid hb6; have HB6 := hid (below_step HBr.out hb6); obtain ⟨y0, y1, y2⟩ := KB.out w6 HB6.out; clear hb6) | fail)
        go_roundw
        case rel => exact ⟨i + 1, by go_num, by omega, by rw [HSU.out]; exact ownV_below HT.out HB6k.out, HB6⟩
        case measure => simp [intOf]; omega
    · have hiN : i = N := by omega
      subst hiN
      have HF : Hid (OwnV wr w0.heap.size 3 (.slice oa on oc) ((d.alls (d.comp)).map iv)) := by rw [← HAL.out]; exact HT.out
      clear HT
      go_wp2_with fail
      go_ret
      exact ⟨_, rfl, ownV_mono HF.out HB0.out.size, HB0.out.trans (HBr.out.mono HB0.out.size)⟩
set_option maxRecDepth 100000 in
set_option maxHeartbeats 2000000 in
theorem rAll2_any (b1 b2 : Nat) (d : Dsp) (w : World) (h : RDd w b1 b2 d) :
    Calls Try.prog 69 #[Dv b1 b2 d, .int .i64 2] w fun e w' => ∃ v, e = .returned v ∧ OwnV w' w.heap.size 3 v ((d.alls (fun _ => false)).map iv) ∧ Below w.heap.size w w' := by
  have HB0 : Hid (Below w.heap.size w (w.alloc (.cells #[.int .i64 (d.n : Int), .slice (some ⟨b1, 0, none⟩) d.n d.n, .slice (some ⟨b2, 0, none⟩) d.n d.n] 34))) := ba w _
  have hz := heap_alloc_new w (.cells #[.int .i64 (d.n : Int), .slice (some ⟨b1, 0, none⟩) d.n d.n, .slice (some ⟨b2, 0, none⟩) d.n d.n] 34)
  have HR := hid (rdd_below h HB0.out)
  obtain ⟨hn1, hn12, -⟩ := id h
  clear h
  obtain ⟨w0, hw0⟩ : ∃ w0, w0 = w.alloc (.cells #[.int .i64 (d.n : Int), .slice (some ⟨b1, 0, none⟩) d.n d.n, .slice (some ⟨b2, 0, none⟩) d.n d.n] 34) := ⟨_, rfl⟩
  rw [← hw0] at HB0 HR hz
  have HW0 := hid hw0
  clear hw0
  have hgl := heap_lt hz
  have KB : Hid (∀ w', Below w0.heap.size w0 w' → w'.cell? ⟨w.heap.size, 0, none⟩ = some (.int .i64 (d.n : Int)) ∧ w'.cell? ⟨w.heap.size, 1, none⟩ = some (.slice (some ⟨b1, 0, none⟩) d.n d.n) ∧ w'.cell? ⟨w.heap.size, 2, none⟩ = some (.slice (some ⟨b2, 0, none⟩) d.n d.n)) := fun w' hb => cells3_of ((hb.block _ hgl).trans hz)
  clear hz hgl
  unfold Dv
  go_enter Try.func69, Try.ntmps69
  go_upto_region 1 with fail
  rw [← HW0.out]
  go_upto_region 3 with fail
  have HT0 : Hid (OwnV (w0.alloc (.cells #[] 3)) w0.heap.size 3 (.slice (some ⟨w0.heap.size, 0, none⟩) 0 0) []) := ownV_made w0 w0.heap.size 3 (Nat.le_refl _)
  have HBm := hid (ba w0 (.cells #[] 3))
  have hsh := wrap64 (show d.n < 62 by omega)
  have h0n : (0 : Int) ≤ (d.n : Int) := by omega
  have h64 : (d.n : Int) ≤ 64 := by omega
  have hl3 : 2 ^ d.n ≤ 4096 := pow_small (n := 12) hn12
  have HAL : Hid ((List.range (2 ^ d.n)).filter (fun _ => false) = d.alls (fun _ => false)) := rfl
  obtain ⟨N, hN⟩ : ∃ N, N = 2 ^ d.n := ⟨_, rfl⟩
  rw [← hN] at hsh hl3 HAL 
  clear HW0 hN
  go_loopw [6, 5] (fun cv ov wr => ∃ i : Nat, cv = .int .i64 i ∧ i ≤ N ∧ Hid (OwnV wr w0.heap.size 3 ov (((List.range i).filter (fun _ => false)).map iv)) ∧ Hid (Below w0.heap.size w0 wr)) (fun cv _ _ => N - (intOf cv).toNat)
  case atStart => exact ⟨0, rfl, Nat.zero_le _, HT0, HBm⟩
  case round =>
    obtain ⟨i, rfl, hi, HT, HBr⟩ := hrel
    rename World => wr
    obtain ⟨oa, on, oc, rfl⟩ := ownV_sh HT.out
    clear HT0
    obtain ⟨x0, x1, x2⟩ := KB.out wr HBr.out
    have HLN : Hid ((((List.range i).filter (fun _ => false)).map iv).length < 1000000) := by
      show _ < _
      rw [List.length_map]
      have := List.length_filter_le (fun _ => false) (List.range i)
      rw [List.length_range] at this
      omega
    by_cases hlt : i < N
    · have HSU := hid (filter_take (p := fun _ => false) i)
      have HSU2 := HSU.out
      rw [if_neg (by decide)] at HSU2
      have HSU := hid HSU2
      clear HSU2
      go_wp2_with (first | fail | fail)
      go_roundw
      case rel => exact ⟨i + 1, by go_num, by omega, by rw [HSU.out]; exact HT.out, HBr⟩
      case measure => simp [intOf]; omega
    · have hiN : i = N := by omega
      subst hiN
      have HF : Hid (OwnV wr w0.heap.size 3 (.slice oa on oc) ((d.alls (fun _ => false)).map iv)) := by rw [← HAL.out]; exact HT.out
      clear HT
      go_wp2_with fail
      go_ret
      exact ⟨_, rfl, ownV_mono HF.out HB0.out.size, HB0.out.trans (HBr.out.mono HB0.out.size)⟩
set_option maxRecDepth 100000 in
set_option maxHeartbeats 2000000 in
theorem rAll3_any (b1 b2 : Nat) (d : Dsp) (w : World) (h : RDd w b1 b2 d) :
    Calls Try.prog 69 #[Dv b1 b2 d, .int .i64 3] w fun e w' => ∃ v, e = .returned v ∧ OwnV w' w.heap.size 3 v ((d.alls (d.stab)).map iv) ∧ Below w.heap.size w w' := by
  have HC : Hid (∀ (i : Nat) w', i < 2 ^ d.n → Below w.heap.size w w' → Calls Try.prog 83 #[.agg #[.int .i64 (d.n : Int), .slice (some ⟨b1, 0, none⟩) d.n d.n, .slice (some ⟨b2, 0, none⟩) d.n d.n], .int .i64 (i : Int)] w' fun e w'' => e = .returned (.bool (d.stab i)) ∧ Below w'.heap.size w' w'') := fun i w' hi hb => rStab_any b1 b2 d i w' (rdd_below h hb) hi
  have HB0 : Hid (Below w.heap.size w (w.alloc (.cells #[.int .i64 (d.n : Int), .slice (some ⟨b1, 0, none⟩) d.n d.n, .slice (some ⟨b2, 0, none⟩) d.n d.n] 34))) := ba w _
  have hz := heap_alloc_new w (.cells #[.int .i64 (d.n : Int), .slice (some ⟨b1, 0, none⟩) d.n d.n, .slice (some ⟨b2, 0, none⟩) d.n d.n] 34)
  have HR := hid (rdd_below h HB0.out)
  obtain ⟨hn1, hn12, -⟩ := id h
  clear h
  obtain ⟨w0, hw0⟩ : ∃ w0, w0 = w.alloc (.cells #[.int .i64 (d.n : Int), .slice (some ⟨b1, 0, none⟩) d.n d.n, .slice (some ⟨b2, 0, none⟩) d.n d.n] 34) := ⟨_, rfl⟩
  rw [← hw0] at HB0 HR hz
  have HW0 := hid hw0
  clear hw0
  have hgl := heap_lt hz
  have KB : Hid (∀ w', Below w0.heap.size w0 w' → w'.cell? ⟨w.heap.size, 0, none⟩ = some (.int .i64 (d.n : Int)) ∧ w'.cell? ⟨w.heap.size, 1, none⟩ = some (.slice (some ⟨b1, 0, none⟩) d.n d.n) ∧ w'.cell? ⟨w.heap.size, 2, none⟩ = some (.slice (some ⟨b2, 0, none⟩) d.n d.n)) := fun w' hb => cells3_of ((hb.block _ hgl).trans hz)
  clear hz hgl
  unfold Dv
  go_enter Try.func69, Try.ntmps69
  go_upto_region 1 with fail
  rw [← HW0.out]
  go_upto_region 3 with fail
  have HT0 : Hid (OwnV (w0.alloc (.cells #[] 3)) w0.heap.size 3 (.slice (some ⟨w0.heap.size, 0, none⟩) 0 0) []) := ownV_made w0 w0.heap.size 3 (Nat.le_refl _)
  have HBm := hid (ba w0 (.cells #[] 3))
  have hsh := wrap64 (show d.n < 62 by omega)
  have h0n : (0 : Int) ≤ (d.n : Int) := by omega
  have h64 : (d.n : Int) ≤ 64 := by omega
  have hl3 : 2 ^ d.n ≤ 4096 := pow_small (n := 12) hn12
  have HAL : Hid ((List.range (2 ^ d.n)).filter (d.stab) = d.alls (d.stab)) := rfl
  obtain ⟨N, hN⟩ : ∃ N, N = 2 ^ d.n := ⟨_, rfl⟩
  rw [← hN] at hsh hl3 HAL HC 
  clear HW0 hN
  go_loopw [6, 5] (fun cv ov wr => ∃ i : Nat, cv = .int .i64 i ∧ i ≤ N ∧ Hid (OwnV wr w0.heap.size 3 ov (((List.range i).filter (d.stab)).map iv)) ∧ Hid (Below w0.heap.size w0 wr)) (fun cv _ _ => N - (intOf cv).toNat)
  case atStart => exact ⟨0, rfl, Nat.zero_le _, HT0, HBm⟩
  case round =>
    obtain ⟨i, rfl, hi, HT, HBr⟩ := hrel
    rename World => wr
    obtain ⟨oa, on, oc, rfl⟩ := ownV_sh HT.out
    clear HT0
    obtain ⟨x0, x1, x2⟩ := KB.out wr HBr.out
    have HLN : Hid ((((List.range i).filter (d.stab)).map iv).length < 1000000) := by
      show _ < _
      rw [List.length_map]
      have := List.length_filter_le (d.stab) (List.range i)
      rw [List.length_range] at this
      omega
    by_cases hlt : i < N
    · have HSU := hid (filter_take (p := d.stab) i)
      have HCi := hid (HC.out i wr hlt (HB0.out.trans (HBr.out.mono HB0.out.size)))
      cases hb : d.stab i with
      | true =>
        rw [hb] at HCi HSU
        have HSN : Hid (((List.range i).filter (d.stab)).map iv ++ [.int .i64 (i : Int)] = ((List.range (i + 1)).filter (d.stab)).map iv) := by
          show _ = _
          rw [HSU.out, if_pos rfl, List.map_append]; rfl
        clear hb HSU
        obtain ⟨xs, hxs⟩ : ∃ xs, xs = ((List.range i).filter (d.stab)).map iv := ⟨_, rfl⟩
        rw [← hxs] at HT HSN HLN
        clear hxs
        go_upto_region 6 with (first | (go_at_call 83; refine HCi.out.mono ?_; rintro e w6 ⟨rfl, hb6⟩; have HB6k := hid hb6; have HB6 := hid (below_step HBr.out hb6); obtain ⟨y0, y1, y2⟩ := KB.out w6 HB6.out; clear hb6) | fail)
        have HT6 := hid (ownV_below HT.out HB6k.out)
        go_wp2_with (first | (at_builtin; refine wpl_app_int (i : Int) _ _ (.slice oa on oc) w0.heap.size xs (by rfl) (by rfl) (by rfl) (by rfl) HT6.out HLN.out HB6.out.size ?_; intro v' w7 ho7 hb7 hg7; rw [HSN.out] at ho7; have HO7 := hid ho7; have HB7 := hid (HB6.out.trans hb7); clear ho7 hb7 hg7) | fail)
        go_roundw
        case rel => exact ⟨i + 1, by go_num, by omega, HO7, HB7⟩
        case measure => simp [intOf]; omega
      | false =>
        rw [hb] at HCi HSU
        have HSU2 := HSU.out
        rw [if_neg (by decide)] at HSU2
        have HSU := hid HSU2
        clear hb HSU2
        go_wp2_with (first | (go_at_call 83; refine HCi.out.mono ?_; rintro e w6 ⟨rfl, hb6⟩; have HB6k := hid hb6; have HB6 := hid (below_step HBr.out hb6); obtain ⟨y0, y1, y2⟩ := KB.out w6 HB6.out; clear hb6) | fail)
        go_roundw
        case rel => exact ⟨i + 1, by go_num, by omega, by rw [HSU.out]; exact ownV_below HT.out HB6k.out, HB6⟩
        case measure => simp [intOf]; omega
    · have hiN : i = N := by omega
      subst hiN
      have HF : Hid (OwnV wr w0.heap.size 3 (.slice oa on oc) ((d.alls (d.stab)).map iv)) := by rw [← HAL.out]; exact HT.out
      clear HT
      go_wp2_with fail
      go_ret
      exact ⟨_, rfl, ownV_mono HF.out HB0.out.size, HB0.out.trans (HBr.out.mono HB0.out.size)⟩
set_option maxRecDepth 100000 in
set_option maxHeartbeats 2000000 in
theorem rAll4_any (b1 b2 : Nat) (d : Dsp) (w : World) (h : RDd w b1 b2 d) :
    Calls Try.prog 69 #[Dv b1 b2 d, .int .i64 4] w fun e w' => ∃ v, e = .returned v ∧ OwnV w' w.heap.size 3 v ((d.alls (fun _ => false)).map iv) ∧ Below w.heap.size w w' := by
  have HB0 : Hid (Below w.heap.size w (w.alloc (.cells #[.int .i64 (d.n : Int), .slice (some ⟨b1, 0, none⟩) d.n d.n, .slice (some ⟨b2, 0, none⟩) d.n d.n] 34))) := ba w _
  have hz := heap_alloc_new w (.cells #[.int .i64 (d.n : Int), .slice (some ⟨b1, 0, none⟩) d.n d.n, .slice (some ⟨b2, 0, none⟩) d.n d.n] 34)
  have HR := hid (rdd_below h HB0.out)
  obtain ⟨hn1, hn12, -⟩ := id h
  clear h
  obtain ⟨w0, hw0⟩ : ∃ w0, w0 = w.alloc (.cells #[.int .i64 (d.n : Int), .slice (some ⟨b1, 0, none⟩) d.n d.n, .slice (some ⟨b2, 0, none⟩) d.n d.n] 34) := ⟨_, rfl⟩
  rw [← hw0] at HB0 HR hz
  have HW0 := hid hw0
  clear hw0
  have hgl := heap_lt hz
  have KB : Hid (∀ w', Below w0.heap.size w0 w' → w'.cell? ⟨w.heap.size, 0, none⟩ = some (.int .i64 (d.n : Int)) ∧ w'.cell? ⟨w.heap.size, 1, none⟩ = some (.slice (some ⟨b1, 0, none⟩) d.n d.n) ∧ w'.cell? ⟨w.heap.size, 2, none⟩ = some (.slice (some ⟨b2, 0, none⟩) d.n d.n)) := fun w' hb => cells3_of ((hb.block _ hgl).trans hz)
  clear hz hgl
  unfold Dv
  go_enter Try.func69, Try.ntmps69
  go_upto_region 1 with fail
  rw [← HW0.out]
  go_upto_region 3 with fail
  have HT0 : Hid (OwnV (w0.alloc (.cells #[] 3)) w0.heap.size 3 (.slice (some ⟨w0.heap.size, 0, none⟩) 0 0) []) := ownV_made w0 w0.heap.size 3 (Nat.le_refl _)
  have HBm := hid (ba w0 (.cells #[] 3))
  have hsh := wrap64 (show d.n < 62 by omega)
  have h0n : (0 : Int) ≤ (d.n : Int) := by omega
  have h64 : (d.n : Int) ≤ 64 := by omega
  have hl3 : 2 ^ d.n ≤ 4096 := pow_small (n := 12) hn12
  have HAL : Hid ((List.range (2 ^ d.n)).filter (fun _ => false) = d.alls (fun _ => false)) := rfl
  obtain ⟨N, hN⟩ : ∃ N, N = 2 ^ d.n := ⟨_, rfl⟩
  rw [← hN] at hsh hl3 HAL 
  clear HW0 hN
  go_loopw [6, 5] (fun cv ov wr => ∃ i : Nat, cv = .int .i64 i ∧ i ≤ N ∧ Hid (OwnV wr w0.heap.size 3 ov (((List.range i).filter (fun _ => false)).map iv)) ∧ Hid (Below w0.heap.size w0 wr)) (fun cv _ _ => N - (intOf cv).toNat)
  case atStart => exact ⟨0, rfl, Nat.zero_le _, HT0, HBm⟩
  case round =>
    obtain ⟨i, rfl, hi, HT, HBr⟩ := hrel
    rename World => wr
    obtain ⟨oa, on, oc, rfl⟩ := ownV_sh HT.out
    clear HT0
    obtain ⟨x0, x1, x2⟩ := KB.out wr HBr.out
    have HLN : Hid ((((List.range i).filter (fun _ => false)).map iv).length < 1000000) := by
      show _ < _
      rw [List.length_map]
      have := List.length_filter_le (fun _ => false) (List.range i)
      rw [List.length_range] at this
      omega
    by_cases hlt : i < N
    · have HSU := hid (filter_take (p := fun _ => false) i)
      have HSU2 := HSU.out
      rw [if_neg (by decide)] at HSU2
      have HSU := hid HSU2
      clear HSU2
      go_wp2_with (first | fail | fail)
      go_roundw
      case rel => exact ⟨i + 1, by go_num, by omega, by rw [HSU.out]; exact HT.out, HBr⟩
      case measure => simp [intOf]; omega
    · have hiN : i = N := by omega
      subst hiN
      have HF : Hid (OwnV wr w0.heap.size 3 (.slice oa on oc) ((d.alls (fun _ => false)).map iv)) := by rw [← HAL.out]; exact HT.out
      clear HT
      go_wp2_with fail
      go_ret
      exact ⟨_, rfl, ownV_mono HF.out HB0.out.size, HB0.out.trans (HBr.out.mono HB0.out.size)⟩
theorem wpl_app_int2 {ops : Array Oper} {rest : List Oper} {o : Oper} {a : Act} {Q : Exit → Act → World → Prop} {W : World} (z : Int) (s y : Operand) (v : Value) (B : Nat) (xs : List Value)
    (hgd : o.guard = none) (ho : o.op = .call { callee := .builtin .append, args := #[s, y], argTypes := #[24, 24] })
    (hs : a.eval s = v) (hx : a.eval y = .slice (some ⟨W.heap.size, 0, none⟩) 1 1)
    (hown : OwnV W B 3 v xs) (hlen : xs.length < 1000000) (hB : B ≤ W.heap.size)
    (h : ∀ v' w', OwnV w' B 3 v' (xs ++ [.int .i64 z]) → Below B W w' → W.grownBy w' v.ownBlock → (∀ k, v'.ownBlock = some k → v.ownBlock = some k ∨ W.heap.size ≤ k) → wpList Try.prog ops Q rest (a.put o.dst v') w') :
    wpList Try.prog ops Q (o :: rest) a (W.alloc (.cells #[.int .i64 z] 3)) :=
  wpl_appn hgd s y 24 3 ho (.int .i64 0) 1 8 info3 rfl (by decide) Try.underlying24 v B xs.length xs hs hown [.int .i64 z] rfl (fun u hu => by simp at hu; rw [hu]; rfl) hx
    (by have : (xs.length + 1) * 8 ≤ 1000000 * 24 := Nat.mul_le_mul (by omega) (by decide)
        omega) (by unfold maxLen; omega) hB
    (fun v' w' h1 h2 => h v' w' (by unfold OwnV; rw [List.length_append]; exact h1) (((Below.refl B W).alloc hB _).trans (app_below h2 (by simp; omega) (fun k hk => (hown.lt k hk).1))) (grown_alloc h2.grown)
      (fun k hk => h2.block.imp (fun e => by rw [← e]; exact hk) (fun e => by
        rw [e] at hk
        have : (W.alloc (.cells [Value.int .i64 z].toArray 3)).heap.size = W.heap.size + 1 := by simp
        cases hk; omega)))
theorem ownV_kept2 {w w' : World} {B : Nat} {e : TypeId} {v u : Value} {xs : List Value} (h : OwnV w B e v xs) (hg : w.grownBy w' u.ownBlock) (hne : ∀ k, u.ownBlock = some k → v.ownBlock ≠ some k) : OwnV w' B e v xs :=
  ownV_kept h hg (by
    cases hv : v.ownBlock with
    | none => exact .inl rfl
    | some g => exact .inr fun e => hne g e.symm hv)
/-- one of the sets taken so far is greater -/
def gk (m : Nat → Nat) (L : List Nat) (s k : Nat) : Bool := (L.take k).any fun t => m t != m s && sub (m s) (m t)
theorem gk_succ (m : Nat → Nat) (L : List Nat) (s k : Nat) (h : k < L.length) : gk m L s (k + 1) = (gk m L s k || (m (L.getD k 0) != m s && (diff (m s) (m (L.getD k 0)) == 0))) := any_take _ L 0 k h
def grK (m : Nat → Nat) (L : List Nat) (i : Nat) : List Nat := (L.take i).filter fun s => !gk m L s L.length
theorem grK_succ (m : Nat → Nat) (L : List Nat) (i : Nat) (h : i < L.length) : grK m L (i + 1) = if gk m L (L.getD i 0) L.length then grK m L i else grK m L i ++ [L.getD i 0] := by
  unfold grK
  rw [List.take_succ_eq_append_getElem h, List.filter_append, List.getD_eq_getElem?_getD, List.getElem?_eq_getElem h]
  show _ = if gk m L L[i] L.length = true then _ else _
  cases hg : gk m L L[i] L.length <;> simp [hg]
theorem grK_all (m : Nat → Nat) (L : List Nat) : grK m L L.length = grt m L := by
  unfold grK grt gk
  rw [List.take_length]
theorem grK_len (m : Nat → Nat) (L : List Nat) (i : Nat) : (grK m L i).length ≤ L.length := Nat.le_trans (List.length_filter_le _ _) (by rw [List.length_take]; omega)
theorem alls_len5 (d : Dsp) (hn : d.n ≤ 12) (t : Nat → Bool) : (d.alls t).length ≤ 5000 := by have := alls_len d hn t; omega
set_option maxRecDepth 100000 in
theorem rSets0_any (b1 b2 : Nat) (d : Dsp) (w : World) (h : RDd w b1 b2 d) :
    Calls Try.prog 37 #[Dv b1 b2 d, .int .i64 0] w fun e w' => ∃ v, e = .returned v ∧ OwnV w' w.heap.size 3 v ((d.alls d.adm).map iv) ∧ Below w.heap.size w w' := by
  have HA2 : Hid (∀ w', Below w.heap.size w w' → Calls Try.prog 69 #[.agg #[.int .i64 (d.n : Int), .slice (some ⟨b1, 0, none⟩) d.n d.n, .slice (some ⟨b2, 0, none⟩) d.n d.n], .int .i64 0] w' fun e w'' => ∃ v, e = .returned v ∧ OwnV w'' w'.heap.size 3 v ((d.alls d.adm).map iv) ∧ Below w'.heap.size w' w'') := fun w' hb => rAll0_any b1 b2 d w' (rdd_below h hb)
  have HB0 : Hid (Below w.heap.size w (w.alloc (.cells #[.int .i64 (d.n : Int), .slice (some ⟨b1, 0, none⟩) d.n d.n, .slice (some ⟨b2, 0, none⟩) d.n d.n] 34))) := ba w _
  have hz := heap_alloc_new w (.cells #[.int .i64 (d.n : Int), .slice (some ⟨b1, 0, none⟩) d.n d.n, .slice (some ⟨b2, 0, none⟩) d.n d.n] 34)
  have HR := hid (rdd_below h HB0.out)
  obtain ⟨hn1, hn12, -⟩ := id h
  clear h
  obtain ⟨w0, hw0⟩ : ∃ w0, w0 = w.alloc (.cells #[.int .i64 (d.n : Int), .slice (some ⟨b1, 0, none⟩) d.n d.n, .slice (some ⟨b2, 0, none⟩) d.n d.n] 34) := ⟨_, rfl⟩
  rw [← hw0] at HB0 HR hz
  have HW0 := hid hw0
  clear hw0
  have hgl := heap_lt hz
  have KB : Hid (∀ w', Below w0.heap.size w0 w' → w'.cell? ⟨w.heap.size, 0, none⟩ = some (.int .i64 (d.n : Int)) ∧ w'.cell? ⟨w.heap.size, 1, none⟩ = some (.slice (some ⟨b1, 0, none⟩) d.n d.n) ∧ w'.cell? ⟨w.heap.size, 2, none⟩ = some (.slice (some ⟨b2, 0, none⟩) d.n d.n)) := fun w' hb => cells3_of ((hb.block _ hgl).trans hz)
  clear hz hgl
  unfold Dv
  go_enter Try.func37, Try.ntmps37
  go_upto_region 1 with fail
  rw [← HW0.out]
  obtain ⟨x0, x1, x2⟩ := KB.out w0 (Below.refl _ _)
  go_wp2_with (first | (go_at_call 69; with_reducible refine (HA2.out _ HB0.out).mono ?_; rintro e w4 ⟨v4, rfl, ho4, hb4⟩; have HO4 := hid (ownV_mono ho4 HB0.out.size); have HB4 := hid hb4; clear ho4 hb4) | fail)
  go_ret
  exact ⟨_, rfl, ownV_below HO4.out (ba w4 _), HB0.out.trans ((below_step HB4.out (ba w4 _)).mono HB0.out.size)⟩
set_option maxRecDepth 100000 in
theorem rSets1_any (b1 b2 : Nat) (d : Dsp) (w : World) (h : RDd w b1 b2 d) :
    Calls Try.prog 37 #[Dv b1 b2 d, .int .i64 1] w fun e w' => ∃ v, e = .returned v ∧ OwnV w' w.heap.size 3 v ((d.alls d.comp).map iv) ∧ Below w.heap.size w w' := by
  have HA2 : Hid (∀ w', Below w.heap.size w w' → Calls Try.prog 69 #[.agg #[.int .i64 (d.n : Int), .slice (some ⟨b1, 0, none⟩) d.n d.n, .slice (some ⟨b2, 0, none⟩) d.n d.n], .int .i64 1] w' fun e w'' => ∃ v, e = .returned v ∧ OwnV w'' w'.heap.size 3 v ((d.alls d.comp).map iv) ∧ Below w'.heap.size w' w'') := fun w' hb => rAll1_any b1 b2 d w' (rdd_below h hb)
  have HB0 : Hid (Below w.heap.size w (w.alloc (.cells #[.int .i64 (d.n : Int), .slice (some ⟨b1, 0, none⟩) d.n d.n, .slice (some ⟨b2, 0, none⟩) d.n d.n] 34))) := ba w _
  have hz := heap_alloc_new w (.cells #[.int .i64 (d.n : Int), .slice (some ⟨b1, 0, none⟩) d.n d.n, .slice (some ⟨b2, 0, none⟩) d.n d.n] 34)
  have HR := hid (rdd_below h HB0.out)
  obtain ⟨hn1, hn12, -⟩ := id h
  clear h
  obtain ⟨w0, hw0⟩ : ∃ w0, w0 = w.alloc (.cells #[.int .i64 (d.n : Int), .slice (some ⟨b1, 0, none⟩) d.n d.n, .slice (some ⟨b2, 0, none⟩) d.n d.n] 34) := ⟨_, rfl⟩
  rw [← hw0] at HB0 HR hz
  have HW0 := hid hw0
  clear hw0
  have hgl := heap_lt hz
  have KB : Hid (∀ w', Below w0.heap.size w0 w' → w'.cell? ⟨w.heap.size, 0, none⟩ = some (.int .i64 (d.n : Int)) ∧ w'.cell? ⟨w.heap.size, 1, none⟩ = some (.slice (some ⟨b1, 0, none⟩) d.n d.n) ∧ w'.cell? ⟨w.heap.size, 2, none⟩ = some (.slice (some ⟨b2, 0, none⟩) d.n d.n)) := fun w' hb => cells3_of ((hb.block _ hgl).trans hz)
  clear hz hgl
  unfold Dv
  go_enter Try.func37, Try.ntmps37
  go_upto_region 1 with fail
  rw [← HW0.out]
  obtain ⟨x0, x1, x2⟩ := KB.out w0 (Below.refl _ _)
  go_wp2_with (first | (go_at_call 69; with_reducible refine (HA2.out _ HB0.out).mono ?_; rintro e w4 ⟨v4, rfl, ho4, hb4⟩; have HO4 := hid (ownV_mono ho4 HB0.out.size); have HB4 := hid hb4; clear ho4 hb4) | fail)
  go_ret
  exact ⟨_, rfl, ownV_below HO4.out (ba w4 _), HB0.out.trans ((below_step HB4.out (ba w4 _)).mono HB0.out.size)⟩
set_option maxRecDepth 100000 in
theorem rSets3_any (b1 b2 : Nat) (d : Dsp) (w : World) (h : RDd w b1 b2 d) :
    Calls Try.prog 37 #[Dv b1 b2 d, .int .i64 3] w fun e w' => ∃ v, e = .returned v ∧ OwnV w' w.heap.size 3 v ((d.alls d.stab).map iv) ∧ Below w.heap.size w w' := by
  have HA2 : Hid (∀ w', Below w.heap.size w w' → Calls Try.prog 69 #[.agg #[.int .i64 (d.n : Int), .slice (some ⟨b1, 0, none⟩) d.n d.n, .slice (some ⟨b2, 0, none⟩) d.n d.n], .int .i64 3] w' fun e w'' => ∃ v, e = .returned v ∧ OwnV w'' w'.heap.size 3 v ((d.alls d.stab).map iv) ∧ Below w'.heap.size w' w'') := fun w' hb => rAll3_any b1 b2 d w' (rdd_below h hb)
  have HB0 : Hid (Below w.heap.size w (w.alloc (.cells #[.int .i64 (d.n : Int), .slice (some ⟨b1, 0, none⟩) d.n d.n, .slice (some ⟨b2, 0, none⟩) d.n d.n] 34))) := ba w _
  have hz := heap_alloc_new w (.cells #[.int .i64 (d.n : Int), .slice (some ⟨b1, 0, none⟩) d.n d.n, .slice (some ⟨b2, 0, none⟩) d.n d.n] 34)
  have HR := hid (rdd_below h HB0.out)
  obtain ⟨hn1, hn12, -⟩ := id h
  clear h
  obtain ⟨w0, hw0⟩ : ∃ w0, w0 = w.alloc (.cells #[.int .i64 (d.n : Int), .slice (some ⟨b1, 0, none⟩) d.n d.n, .slice (some ⟨b2, 0, none⟩) d.n d.n] 34) := ⟨_, rfl⟩
  rw [← hw0] at HB0 HR hz
  have HW0 := hid hw0
  clear hw0
  have hgl := heap_lt hz
  have KB : Hid (∀ w', Below w0.heap.size w0 w' → w'.cell? ⟨w.heap.size, 0, none⟩ = some (.int .i64 (d.n : Int)) ∧ w'.cell? ⟨w.heap.size, 1, none⟩ = some (.slice (some ⟨b1, 0, none⟩) d.n d.n) ∧ w'.cell? ⟨w.heap.size, 2, none⟩ = some (.slice (some ⟨b2, 0, none⟩) d.n d.n)) := fun w' hb => cells3_of ((hb.block _ hgl).trans hz)
  clear hz hgl
  unfold Dv
  go_enter Try.func37, Try.ntmps37
  go_upto_region 1 with fail
  rw [← HW0.out]
  obtain ⟨x0, x1, x2⟩ := KB.out w0 (Below.refl _ _)
  go_wp2_with (first | (go_at_call 69; with_reducible refine (HA2.out _ HB0.out).mono ?_; rintro e w4 ⟨v4, rfl, ho4, hb4⟩; have HO4 := hid (ownV_mono ho4 HB0.out.size); have HB4 := hid hb4; clear ho4 hb4) | fail)
  go_ret
  exact ⟨_, rfl, ownV_below HO4.out (ba w4 _), HB0.out.trans ((below_step HB4.out (ba w4 _)).mono HB0.out.size)⟩
set_option maxRecDepth 100000 in
set_option maxHeartbeats 4000000 in
theorem rSets2_any (b1 b2 : Nat) (d : Dsp) (w : World) (h : RDd w b1 b2 d) :
    Calls Try.prog 37 #[Dv b1 b2 d, .int .i64 2] w fun e w' => ∃ v, e = .returned v ∧ OwnV w' w.heap.size 3 v (d.pref.map iv) ∧ Below w.heap.size w w' := by
  have HA2 : Hid (∀ w', Below w.heap.size w w' → Calls Try.prog 69 #[.agg #[.int .i64 (d.n : Int), .slice (some ⟨b1, 0, none⟩) d.n d.n, .slice (some ⟨b2, 0, none⟩) d.n d.n], .int .i64 2] w' fun e w'' => ∃ v, e = .returned v ∧ OwnV w'' w'.heap.size 3 v ((d.alls fun _ => false).map iv) ∧ Below w'.heap.size w' w'') := fun w' hb => rAll2_any b1 b2 d w' (rdd_below h hb)
  have HA0 : Hid (∀ w', Below w.heap.size w w' → Calls Try.prog 69 #[.agg #[.int .i64 (d.n : Int), .slice (some ⟨b1, 0, none⟩) d.n d.n, .slice (some ⟨b2, 0, none⟩) d.n d.n], .int .i64 0] w' fun e w'' => ∃ v, e = .returned v ∧ OwnV w'' w'.heap.size 3 v ((d.alls d.adm).map iv) ∧ Below w'.heap.size w' w'') := fun w' hb => rAll0_any b1 b2 d w' (rdd_below h hb)
  have HC : Hid (∀ (s : Nat) w', s < 2 ^ d.n → Below w.heap.size w w' → Calls Try.prog 70 #[.agg #[.int .i64 (d.n : Int), .slice (some ⟨b1, 0, none⟩) d.n d.n, .slice (some ⟨b2, 0, none⟩) d.n d.n], .int .i64 (s : Int)] w' fun e w'' => e = .returned (.int .i64 ((d.hit s : Nat) : Int)) ∧ Below w'.heap.size w' w'') := fun s w' hs hb => rHit_any b1 b2 d s w' (rdd_below h hb) hs
  have HB0 : Hid (Below w.heap.size w (w.alloc (.cells #[.int .i64 (d.n : Int), .slice (some ⟨b1, 0, none⟩) d.n d.n, .slice (some ⟨b2, 0, none⟩) d.n d.n] 34))) := ba w _
  have hz := heap_alloc_new w (.cells #[.int .i64 (d.n : Int), .slice (some ⟨b1, 0, none⟩) d.n d.n, .slice (some ⟨b2, 0, none⟩) d.n d.n] 34)
  have HR := hid (rdd_below h HB0.out)
  obtain ⟨hn1, hn12, -⟩ := id h
  clear h
  obtain ⟨w0, hw0⟩ : ∃ w0, w0 = w.alloc (.cells #[.int .i64 (d.n : Int), .slice (some ⟨b1, 0, none⟩) d.n d.n, .slice (some ⟨b2, 0, none⟩) d.n d.n] 34) := ⟨_, rfl⟩
  rw [← hw0] at HB0 HR hz
  have HW0 := hid hw0
  clear hw0
  have hgl := heap_lt hz
  have KB : Hid (∀ w', Below w0.heap.size w0 w' → w'.cell? ⟨w.heap.size, 0, none⟩ = some (.int .i64 (d.n : Int)) ∧ w'.cell? ⟨w.heap.size, 1, none⟩ = some (.slice (some ⟨b1, 0, none⟩) d.n d.n) ∧ w'.cell? ⟨w.heap.size, 2, none⟩ = some (.slice (some ⟨b2, 0, none⟩) d.n d.n)) := fun w' hb => cells3_of ((hb.block _ hgl).trans hz)
  clear hz hgl
  unfold Dv
  go_enter Try.func37, Try.ntmps37
  go_upto_region 1 with fail
  rw [← HW0.out]
  obtain ⟨x0, x1, x2⟩ := KB.out w0 (Below.refl _ _)
  have hl3 : 2 ^ d.n ≤ 4096 := pow_small (n := 12) hn12
  have HLT : Hid (∀ s, s ∈ d.alls d.adm → s < 2 ^ d.n) := fun s hs => alls_lt d _ s hs
  have HLL : Hid ((d.alls d.adm).length ≤ 5000) := alls_len5 d hn12 _
  have HSP : Hid (d.pref = grt (fun s => s) (d.alls d.adm)) := rfl
  go_upto_region 9 with (first
    | (go_at_call 69; with_reducible refine (HA2.out _ HB0.out).mono ?_; rintro e w4 ⟨v4, rfl, -, hb4⟩; have HB4 := hid hb4; obtain ⟨y0, y1, y2⟩ := KB.out w4 hb4; obtain ⟨z0, z1, z2⟩ := KB.out (w4.alloc (.cells #[] 3)) (below_step hb4 (ba w4 _)); clear hb4)
    | (go_at_call 69; with_reducible refine (HA0.out _ (HB0.out.trans ((below_step HB4.out (ba w4 (.cells #[] 3))).mono HB0.out.size))).mono ?_; rintro e w6 ⟨v6, rfl, ho6, hb6⟩; obtain ⟨la, ln, lc, rfl⟩ := ownV_sh ho6; have HO6 := hid ho6; have HB6 := hid hb6; clear ho6 hb6)
    | fail)
  clear x0 x1 x2 y0 y1 y2 z0 z1 z2 HA2 HA0 HW0
  obtain ⟨L, hL⟩ : ∃ L, L = d.alls d.adm := ⟨_, rfl⟩
  rw [← hL] at HO6 HLT HLL HSP
  clear hL
  have hlnL : ln = L.length := by
    obtain ⟨_, _, e⟩ := ownV_slice HO6.out
    rw [List.length_map] at e
    cases e; rfl
  subst hlnL
  have hl5 : L.length ≤ 5000 := HLL.out
  have HM := hid (ownV_below (ownV_made w4 w4.heap.size 3 (Nat.le_refl _)) HB6.out)
  have hsz : (w4.alloc (.cells #[] 3)).heap.size = w4.heap.size + 1 := by simp
  have HNE : Hid (∀ k, (Value.slice (some ⟨w4.heap.size, 0, none⟩) 0 0).ownBlock = some k → (Value.slice la L.length lc).ownBlock ≠ some k) := fun k hk hk2 => by
    have h1 := (ownV_lt HO6.out k hk2).1
    simp [Value.ownBlock] at hk
    omega
  have HB46 := hid (below_step (below_step HB4.out (ba w4 (.cells #[] 3))) HB6.out)
  have HW4 : Hid (w0.heap.size ≤ w4.heap.size) := HB4.out.size
  have HW6 : Hid (w4.heap.size ≤ w6.heap.size) := by have := HB6.out.size; show _ ≤ _; omega
  clear HB4 HB6 hsz
  obtain ⟨B4, hB4⟩ : ∃ B4, B4 = w4.heap.size := ⟨_, rfl⟩
  rw [← hB4] at HM HNE HW4 HW6 ⊢
  have HO6' : Hid (OwnV w6 B4 3 (.slice la L.length lc) (L.map iv)) := by
    refine ownV_mono HO6.out ?_
    rw [hB4]; simp
  clear HO6 hB4
  go_loopw [7, 6] (fun cv ov wr => ∃ i : Nat, cv = .int .i64 i ∧ i ≤ L.length ∧ Hid (OwnV wr B4 3 ov ((grK (fun s => s) L i).map iv)) ∧ Hid (OwnV wr B4 3 (.slice la L.length lc) (L.map iv)) ∧ Hid (∀ k, ov.ownBlock = some k → (Value.slice la L.length lc).ownBlock ≠ some k) ∧ Hid (Below w0.heap.size w0 wr) ∧ B4 ≤ wr.heap.size) (fun cv _ _ => L.length - (intOf cv).toNat)
  case atStart => exact ⟨0, rfl, Nat.zero_le _, HM, HO6', HNE, HB46, HW6.out⟩
  case round =>
    obtain ⟨i, rfl, hi, HT, HL, HN, HBr, hB4r⟩ := hrel
    rename World => wr
    obtain ⟨oa, on, oc, rfl⟩ := ownV_sh HT.out
    clear HM HO6' HNE HB46
    by_cases hlt : i < L.length
    · obtain ⟨lg, rfl⟩ : ∃ lg, la = some ⟨lg, 0, none⟩ := by
        obtain ⟨lg, c', e, _⟩ := ownV_some HL.out (by rw [List.length_map]; omega)
        rw [List.length_map] at e
        cases e; exact ⟨lg, rfl⟩
      have HS2 : Hid (L.getD i 0 < 2 ^ d.n) := HLT.out _ (by rw [List.getD_eq_getElem?_getD, List.getElem?_eq_getElem hlt]; exact List.getElem_mem hlt)
      have CS : Hid (∀ w', Below wr.heap.size wr w' → w'.cell? ⟨lg, i, none⟩ = some (.int .i64 ((L.getD i 0 : Nat) : Int))) := fun w' hb => by
        have h1 := ownV_cell (ownV_below HL.out hb) i (by rw [List.length_map]; exact hlt)
        rw [getD_map iv _ 0 i hlt] at h1
        exact h1
      have HGR := hid (grK_succ (fun s => s) L i hlt)
      have HLN : Hid (((grK (fun s => s) L i).map iv).length < 1000000) := by have := grK_len (fun s => s) L i; show _ < _; rw [List.length_map]; omega
      generalize L.getD i 0 = s at *
      have hs4 : s < 4096 := by have := HS2.out; omega
      go_upto_region 13 with fail
      go_loopw [9, 8] (fun kv gv wk => ∃ k : Nat, kv = .int .i64 k ∧ k ≤ L.length ∧ gv = .bool (gk (fun s => s) L s k) ∧ Hid (Below wr.heap.size wr wk)) (fun kv _ _ => L.length - (intOf kv).toNat)
      case atStart => exact ⟨0, rfl, Nat.zero_le _, rfl, Below.refl _ _⟩
      case round =>
        obtain ⟨k, rfl, hk, rfl, HBk⟩ := hrel
        rename World => wk
        by_cases hkl : k < L.length
        · have HT2 : Hid (L.getD k 0 < 2 ^ d.n) := HLT.out _ (by rw [List.getD_eq_getElem?_getD, List.getElem?_eq_getElem hkl]; exact List.getElem_mem hkl)
          have CT : Hid (∀ w', Below wr.heap.size wr w' → w'.cell? ⟨lg, k, none⟩ = some (.int .i64 ((L.getD k 0 : Nat) : Int))) := fun w' hb => by
            have h1 := ownV_cell (ownV_below HL.out hb) k (by rw [List.length_map]; exact hkl)
            rw [getD_map iv _ 0 k hkl] at h1
            exact h1
          have HGS := hid (gk_succ (fun s => s) L s k hkl)
          generalize L.getD k 0 = t at *
          have ht4 : t < 4096 := by have := HT2.out; omega
          generalize gk (fun s => s) L s k = gb at *
          have c0 := CS.out wk HBk.out
          have c1 := CT.out wk HBk.out
          go_upto_region 15 with fail
          go_quiet (fail)
          have HBk := hid (below_drewN_r HBk.out nq)
          have c2 := CS.out _ HBk.out
          have c3 := CT.out _ HBk.out
          clear c0 c1
          generalize wk.drewN nq = wk at *
          have hdf := dif64 (a := s) (b := t) (by omega) (by omega)
          try dsimp only at HGS
          obtain ⟨X, hX⟩ : ∃ X, X = s := ⟨_, rfl⟩
          obtain ⟨Y, hY⟩ : ∃ Y, Y = t := ⟨_, rfl⟩
          rw [← hX, ← hY] at hdf
          have HGS2 : Hid (gk (fun s => s) L s (k + 1) = (gb || (Y != X && (diff X Y == 0)))) := by rw [hX, hY]; exact HGS.out
          clear HGS
          have HGS := HGS2
          clear HGS2
          generalize diff X Y = r at *
          go_upto_region 18 with fail
          clear c2 c3
          rw [← hX, ← hY]
          clear hX hY
          cases gb with
          | true =>
            have HG2 : Hid (gk (fun s => s) L s (k + 1) = true) := by show _ = _; rw [HGS.out]; rfl
            clear hdf
            go_wp2_with fail
            go_roundw
            case rel => exact ⟨k + 1, by go_num, by omega, by rw [HG2.out], HBk⟩
            case measure => simp [intOf]; omega
          | false =>
            by_cases hxy : X = Y
            · have HG2 : Hid (gk (fun s => s) L s (k + 1) = false) := by show _ = _; rw [HGS.out, hxy]; simp
              subst hxy
              clear hdf
              go_wp2_with fail
              go_roundw
              case rel => exact ⟨k + 1, by go_num, by omega, by rw [HG2.out], HBk⟩
              case measure => simp [intOf]; omega
            · have hxi : ((X : Int) == (Y : Int)) = false := beq_eq_false_iff_ne.2 (by omega)
              have hxn : ¬ (X : Int) = (Y : Int) := by omega
              have hxb : ((X : Int) != (Y : Int)) = true := bne_iff_ne.2 hxn
              by_cases hr : r = 0
              · subst hr
                have hdf0 : bits BinOp.andNot IntKind.i64 (X : Int) (Y : Int) = 0 := hdf
                have HG2 : Hid (gk (fun s => s) L s (k + 1) = true) := by show _ = _; rw [HGS.out, bne_iff_ne.2 (fun e => hxy e.symm)]; rfl
                clear hdf hxy
                go_wp2_with fail
                go_roundw
                case rel => exact ⟨k + 1, by go_num, by omega, by rw [HG2.out], HBk⟩
                case measure => simp [intOf]; omega
              · have HG2 : Hid (gk (fun s => s) L s (k + 1) = false) := by show _ = _; rw [HGS.out, bne_iff_ne.2 (fun e => hxy e.symm), beq_eq_false_iff_ne.2 hr]; rfl
                have hrb : ((r : Int) == 0) = false := beq_eq_false_iff_ne.2 (by omega)
                clear hxy
                go_wp2_with fail
                go_roundw
                case rel => exact ⟨k + 1, by go_num, by omega, by rw [HG2.out], HBk⟩
                case measure => simp [intOf]; omega
        · have hkl2 : k = L.length := by omega
          subst hkl2
          have HTk := hid (ownV_below HT.out HBk.out)
          have HLk := hid (ownV_below HL.out HBk.out)
          have HBB := hid (below_step HBr.out HBk.out)
          have hB4k : B4 ≤ wk.heap.size := Nat.le_trans hB4r HBk.out.size
          have c0 := CS.out wk HBk.out
          cases hg : gk (fun s => s) L s L.length with
          | true =>
            have HG2 := HGR.out
            rw [hg, if_pos rfl] at HG2
            have HG3 := hid HG2
            clear HG2 HGR hg CS
            go_wp2_with fail
            go_roundw
            case rel => exact ⟨i + 1, by go_num, by omega, by rw [HG3.out]; exact HTk, HLk, HN, HBB, hB4k⟩
            case measure => simp [intOf]; omega
          | false =>
            have HG2 := HGR.out
            rw [hg, if_neg (by decide)] at HG2
            have HSN : Hid ((grK (fun s => s) L i).map iv ++ [.int .i64 (s : Int)] = (grK (fun s => s) L (i + 1)).map iv) := by
              show _ = _
              rw [HG2, List.map_append]; rfl
            clear HG2 HGR hg CS
            obtain ⟨xs, hxs⟩ : ∃ xs, xs = (grK (fun s => s) L i).map iv := ⟨_, rfl⟩
            rw [← hxs] at HTk HSN HLN
            clear hxs HT HL
            go_wp2_with (first | (at_builtin; refine wpl_app_int2 (s : Int) _ _ (.slice oa on oc) B4 xs (by rfl) (by rfl) (by rfl) (by rfl) HTk.out HLN.out hB4k ?_; intro v' w7 ho7 hb7 hg7 hk7; rw [HSN.out] at ho7; have HO7 := hid ho7; have HB7 := hid (HBB.out.trans (hb7.mono HW4.out)); have HL7 := hid (ownV_kept2 HLk.out hg7 HN.out); have HN7 : Hid (∀ k, v'.ownBlock = some k → (Value.slice (some ⟨lg, 0, none⟩) L.length lc).ownBlock ≠ some k) := (fun k hk hk2 => (hk7 k hk).elim (fun e => HN.out k e hk2) (fun e => absurd (ownV_lt HLk.out k hk2).2 (by omega))); have hB47 : B4 ≤ w7.heap.size := Nat.le_trans hB4k hb7.size; clear ho7 hb7 hg7 hk7) | fail)
            go_roundw
            case rel => exact ⟨i + 1, by go_num, by omega, HO7, HL7, HN7, HB7, hB47⟩
            case measure => simp [intOf]; omega
    · have hiN : i = L.length := by omega
      have HF : Hid (OwnV wr B4 3 (.slice oa on oc) (d.pref.map iv)) := by
        have h1 := HT.out
        rw [hiN, grK_all, ← HSP.out] at h1
        exact h1
      clear HT HL HN
      go_wp2_with fail
      go_ret
      exact ⟨_, rfl, ownV_mono HF.out (Nat.le_trans HB0.out.size HW4.out), HB0.out.trans (HBr.out.mono HB0.out.size)⟩
set_option maxRecDepth 100000 in
set_option maxHeartbeats 4000000 in
theorem rSets4_any (b1 b2 : Nat) (d : Dsp) (w : World) (h : RDd w b1 b2 d) :
    Calls Try.prog 37 #[Dv b1 b2 d, .int .i64 4] w fun e w' => ∃ v, e = .returned v ∧ OwnV w' w.heap.size 3 v (d.semis.map iv) ∧ Below w.heap.size w w' := by
  have HA2 : Hid (∀ w', Below w.heap.size w w' → Calls Try.prog 69 #[.agg #[.int .i64 (d.n : Int), .slice (some ⟨b1, 0, none⟩) d.n d.n, .slice (some ⟨b2, 0, none⟩) d.n d.n], .int .i64 4] w' fun e w'' => ∃ v, e = .returned v ∧ OwnV w'' w'.heap.size 3 v ((d.alls fun _ => false).map iv) ∧ Below w'.heap.size w' w'') := fun w' hb => rAll4_any b1 b2 d w' (rdd_below h hb)
  have HA0 : Hid (∀ w', Below w.heap.size w w' → Calls Try.prog 69 #[.agg #[.int .i64 (d.n : Int), .slice (some ⟨b1, 0, none⟩) d.n d.n, .slice (some ⟨b2, 0, none⟩) d.n d.n], .int .i64 1] w' fun e w'' => ∃ v, e = .returned v ∧ OwnV w'' w'.heap.size 3 v ((d.alls d.comp).map iv) ∧ Below w'.heap.size w' w'') := fun w' hb => rAll1_any b1 b2 d w' (rdd_below h hb)
  have HC : Hid (∀ (s : Nat) w', s < 2 ^ d.n → Below w.heap.size w w' → Calls Try.prog 70 #[.agg #[.int .i64 (d.n : Int), .slice (some ⟨b1, 0, none⟩) d.n d.n, .slice (some ⟨b2, 0, none⟩) d.n d.n], .int .i64 (s : Int)] w' fun e w'' => e = .returned (.int .i64 ((d.hit s : Nat) : Int)) ∧ Below w'.heap.size w' w'') := fun s w' hs hb => rHit_any b1 b2 d s w' (rdd_below h hb) hs
  have HB0 : Hid (Below w.heap.size w (w.alloc (.cells #[.int .i64 (d.n : Int), .slice (some ⟨b1, 0, none⟩) d.n d.n, .slice (some ⟨b2, 0, none⟩) d.n d.n] 34))) := ba w _
  have hz := heap_alloc_new w (.cells #[.int .i64 (d.n : Int), .slice (some ⟨b1, 0, none⟩) d.n d.n, .slice (some ⟨b2, 0, none⟩) d.n d.n] 34)
  have HR := hid (rdd_below h HB0.out)
  obtain ⟨hn1, hn12, -⟩ := id h
  clear h
  obtain ⟨w0, hw0⟩ : ∃ w0, w0 = w.alloc (.cells #[.int .i64 (d.n : Int), .slice (some ⟨b1, 0, none⟩) d.n d.n, .slice (some ⟨b2, 0, none⟩) d.n d.n] 34) := ⟨_, rfl⟩
  rw [← hw0] at HB0 HR hz
  have HW0 := hid hw0
  clear hw0
  have hgl := heap_lt hz
  have KB : Hid (∀ w', Below w0.heap.size w0 w' → w'.cell? ⟨w.heap.size, 0, none⟩ = some (.int .i64 (d.n : Int)) ∧ w'.cell? ⟨w.heap.size, 1, none⟩ = some (.slice (some ⟨b1, 0, none⟩) d.n d.n) ∧ w'.cell? ⟨w.heap.size, 2, none⟩ = some (.slice (some ⟨b2, 0, none⟩) d.n d.n)) := fun w' hb => cells3_of ((hb.block _ hgl).trans hz)
  clear hz hgl
  unfold Dv
  go_enter Try.func37, Try.ntmps37
  go_upto_region 1 with fail
  rw [← HW0.out]
  obtain ⟨x0, x1, x2⟩ := KB.out w0 (Below.refl _ _)
  have hl3 : 2 ^ d.n ≤ 4096 := pow_small (n := 12) hn12
  have HLT : Hid (∀ s, s ∈ d.alls d.comp → s < 2 ^ d.n) := fun s hs => alls_lt d _ s hs
  have HLL : Hid ((d.alls d.comp).length ≤ 5000) := alls_len5 d hn12 _
  have HSP : Hid (d.semis = grt (fun s => s ||| d.hit s) (d.alls d.comp)) := rfl
  go_upto_region 9 with (first
    | (go_at_call 69; with_reducible refine (HA2.out _ HB0.out).mono ?_; rintro e w4 ⟨v4, rfl, -, hb4⟩; have HB4 := hid hb4; obtain ⟨y0, y1, y2⟩ := KB.out w4 hb4; obtain ⟨z0, z1, z2⟩ := KB.out (w4.alloc (.cells #[] 3)) (below_step hb4 (ba w4 _)); clear hb4)
    | (go_at_call 69; with_reducible refine (HA0.out _ (HB0.out.trans ((below_step HB4.out (ba w4 (.cells #[] 3))).mono HB0.out.size))).mono ?_; rintro e w6 ⟨v6, rfl, ho6, hb6⟩; obtain ⟨la, ln, lc, rfl⟩ := ownV_sh ho6; have HO6 := hid ho6; have HB6 := hid hb6; clear ho6 hb6)
    | fail)
  clear x0 x1 x2 y0 y1 y2 z0 z1 z2 HA2 HA0 HW0
  obtain ⟨L, hL⟩ : ∃ L, L = d.alls d.comp := ⟨_, rfl⟩
  rw [← hL] at HO6 HLT HLL HSP
  clear hL
  have hlnL : ln = L.length := by
    obtain ⟨_, _, e⟩ := ownV_slice HO6.out
    rw [List.length_map] at e
    cases e; rfl
  subst hlnL
  have hl5 : L.length ≤ 5000 := HLL.out
  have HM := hid (ownV_below (ownV_made w4 w4.heap.size 3 (Nat.le_refl _)) HB6.out)
  have hsz : (w4.alloc (.cells #[] 3)).heap.size = w4.heap.size + 1 := by simp
  have HNE : Hid (∀ k, (Value.slice (some ⟨w4.heap.size, 0, none⟩) 0 0).ownBlock = some k → (Value.slice la L.length lc).ownBlock ≠ some k) := fun k hk hk2 => by
    have h1 := (ownV_lt HO6.out k hk2).1
    simp [Value.ownBlock] at hk
    omega
  have HB46 := hid (below_step (below_step HB4.out (ba w4 (.cells #[] 3))) HB6.out)
  have HW4 : Hid (w0.heap.size ≤ w4.heap.size) := HB4.out.size
  have HW6 : Hid (w4.heap.size ≤ w6.heap.size) := by have := HB6.out.size; show _ ≤ _; omega
  clear HB4 HB6 hsz
  obtain ⟨B4, hB4⟩ : ∃ B4, B4 = w4.heap.size := ⟨_, rfl⟩
  rw [← hB4] at HM HNE HW4 HW6 ⊢
  have HO6' : Hid (OwnV w6 B4 3 (.slice la L.length lc) (L.map iv)) := by
    refine ownV_mono HO6.out ?_
    rw [hB4]; simp
  clear HO6 hB4
  go_loopw [7, 6] (fun cv ov wr => ∃ i : Nat, cv = .int .i64 i ∧ i ≤ L.length ∧ Hid (OwnV wr B4 3 ov ((grK (fun s => s ||| d.hit s) L i).map iv)) ∧ Hid (OwnV wr B4 3 (.slice la L.length lc) (L.map iv)) ∧ Hid (∀ k, ov.ownBlock = some k → (Value.slice la L.length lc).ownBlock ≠ some k) ∧ Hid (Below w0.heap.size w0 wr) ∧ B4 ≤ wr.heap.size) (fun cv _ _ => L.length - (intOf cv).toNat)
  case atStart => exact ⟨0, rfl, Nat.zero_le _, HM, HO6', HNE, HB46, HW6.out⟩
  case round =>
    obtain ⟨i, rfl, hi, HT, HL, HN, HBr, hB4r⟩ := hrel
    rename World => wr
    obtain ⟨oa, on, oc, rfl⟩ := ownV_sh HT.out
    clear HM HO6' HNE HB46
    by_cases hlt : i < L.length
    · obtain ⟨lg, rfl⟩ : ∃ lg, la = some ⟨lg, 0, none⟩ := by
        obtain ⟨lg, c', e, _⟩ := ownV_some HL.out (by rw [List.length_map]; omega)
        rw [List.length_map] at e
        cases e; exact ⟨lg, rfl⟩
      have HS2 : Hid (L.getD i 0 < 2 ^ d.n) := HLT.out _ (by rw [List.getD_eq_getElem?_getD, List.getElem?_eq_getElem hlt]; exact List.getElem_mem hlt)
      have CS : Hid (∀ w', Below wr.heap.size wr w' → w'.cell? ⟨lg, i, none⟩ = some (.int .i64 ((L.getD i 0 : Nat) : Int))) := fun w' hb => by
        have h1 := ownV_cell (ownV_below HL.out hb) i (by rw [List.length_map]; exact hlt)
        rw [getD_map iv _ 0 i hlt] at h1
        exact h1
      have HGR := hid (grK_succ (fun s => s ||| d.hit s) L i hlt)
      have HLN : Hid (((grK (fun s => s ||| d.hit s) L i).map iv).length < 1000000) := by have := grK_len (fun s => s ||| d.hit s) L i; show _ < _; rw [List.length_map]; omega
      generalize L.getD i 0 = s at *
      have hs4 : s < 4096 := by have := HS2.out; omega
      go_upto_region 13 with fail
      go_loopw [9, 8] (fun kv gv wk => ∃ k : Nat, kv = .int .i64 k ∧ k ≤ L.length ∧ gv = .bool (gk (fun s => s ||| d.hit s) L s k) ∧ Hid (Below wr.heap.size wr wk)) (fun kv _ _ => L.length - (intOf kv).toNat)
      case atStart => exact ⟨0, rfl, Nat.zero_le _, rfl, Below.refl _ _⟩
      case round =>
        obtain ⟨k, rfl, hk, rfl, HBk⟩ := hrel
        rename World => wk
        by_cases hkl : k < L.length
        · have HT2 : Hid (L.getD k 0 < 2 ^ d.n) := HLT.out _ (by rw [List.getD_eq_getElem?_getD, List.getElem?_eq_getElem hkl]; exact List.getElem_mem hkl)
          have CT : Hid (∀ w', Below wr.heap.size wr w' → w'.cell? ⟨lg, k, none⟩ = some (.int .i64 ((L.getD k 0 : Nat) : Int))) := fun w' hb => by
            have h1 := ownV_cell (ownV_below HL.out hb) k (by rw [List.length_map]; exact hkl)
            rw [getD_map iv _ 0 k hkl] at h1
            exact h1
          have HGS := hid (gk_succ (fun s => s ||| d.hit s) L s k hkl)
          generalize L.getD k 0 = t at *
          have ht4 : t < 4096 := by have := HT2.out; omega
          generalize gk (fun s => s ||| d.hit s) L s k = gb at *
          have c0 := CS.out wk HBk.out
          have c1 := CT.out wk HBk.out
          go_upto_region 15 with fail
          go_quiet (fail)
          have HBk := hid (below_drewN_r HBk.out nq)
          have c2 := CS.out _ HBk.out
          have c3 := CT.out _ HBk.out
          clear c0 c1
          generalize wk.drewN nq = wk at *
          have hh1 : d.hit s < 4096 := by have := d.hit_lt s; omega
          have hh2 : d.hit t < 4096 := by have := d.hit_lt t; omega
          have HOX := hid (or64 (a := s) (b := d.hit s) (by omega) (by omega))
          have HOY := hid (or64 (a := t) (b := d.hit t) (by omega) (by omega))
          have hX : s ||| d.hit s < 4096 := Nat.or_lt_two_pow (n := 12) hs4 hh1
          have hY : t ||| d.hit t < 4096 := Nat.or_lt_two_pow (n := 12) ht4 hh2
          have hdf := dif64 (a := s ||| d.hit s) (b := t ||| d.hit t) (by omega) (by omega)
          try dsimp only at HGS
          generalize hXe : s ||| d.hit s = X at *
          generalize hYe : t ||| d.hit t = Y at *
          generalize diff X Y = r at *
          go_upto_region 17 with fail
          clear c2 c3 hXe hYe
          refine wp_region_held_drew (S := fun w' => w'.cell? ⟨w.heap.size, 0, none⟩ = some (.int .i64 (d.n : Int)) ∧ w'.cell? ⟨w.heap.size, 1, none⟩ = some (.slice (some ⟨b1, 0, none⟩) d.n d.n) ∧ w'.cell? ⟨w.heap.size, 2, none⟩ = some (.slice (some ⟨b2, 0, none⟩) d.n d.n)) (by kernel_rfl) (KB.out _ (below_step (below_step HBr.out HBk.out) ((Below.refl wk.heap.size wk).drew))) (fun hHeld => ?_)
          have HZ0 : Hid (Below wk.heap.size wk wk.drew) := (Below.refl _ _).drew
          have HU0 := hid (below_step (below_step HBr.out HBk.out) HZ0.out)
          generalize wk.drew = u0 at *
          refine take_at (i := 0) 48 (v := .int .i64 (s : Int)) rfl (by kernel_rfl) (by kernel_rfl) (by kernel_rfl) rfl (fun _ _ _ h => h) (by rfl) (fun w hSw => ?_) hHeld ?_
          · (try dsimp only at hSw); go_simp
          simp only [Act.put, List.setIfInBounds_toArray, List.set_cons_zero, List.set_cons_succ]
          refine take_at (i := 1) 49 (v := .agg #[.int .i64 (d.n : Int), .slice (some ⟨b1, 0, none⟩) d.n d.n, .slice (some ⟨b2, 0, none⟩) d.n d.n]) rfl (by kernel_rfl) (by kernel_rfl) (by kernel_rfl) rfl (fun _ _ _ h => h) (by rfl) (fun w hSw => ?_) hHeld ?_
          · (try dsimp only at hSw); go_simp
          simp only [Act.put, List.setIfInBounds_toArray, List.set_cons_zero, List.set_cons_succ]
          refine take_at (i := 2) 50 (v := .int .i64 (s : Int)) rfl (by kernel_rfl) (by kernel_rfl) (by kernel_rfl) rfl (fun _ _ _ h => h) (by rfl) (fun w hSw => ?_) hHeld ?_
          · (try dsimp only at hSw); go_simp
          simp only [Act.put, List.setIfInBounds_toArray, List.set_cons_zero, List.set_cons_succ]
          refine take_at (i := 5) 53 (v := .int .i64 (t : Int)) rfl (by kernel_rfl) (by kernel_rfl) (by kernel_rfl) rfl (fun _ _ _ h => h) (by rfl) (fun w hSw => ?_) hHeld ?_
          · (try dsimp only at hSw); go_simp
          simp only [Act.put, List.setIfInBounds_toArray, List.set_cons_zero, List.set_cons_succ]
          refine take_at (i := 6) 54 (v := .agg #[.int .i64 (d.n : Int), .slice (some ⟨b1, 0, none⟩) d.n d.n, .slice (some ⟨b2, 0, none⟩) d.n d.n]) rfl (by kernel_rfl) (by kernel_rfl) (by kernel_rfl) rfl (fun _ _ _ h => h) (by rfl) (fun w hSw => ?_) hHeld ?_
          · (try dsimp only at hSw); go_simp
          simp only [Act.put, List.setIfInBounds_toArray, List.set_cons_zero, List.set_cons_succ]
          refine take_at (i := 7) 55 (v := .int .i64 (t : Int)) rfl (by kernel_rfl) (by kernel_rfl) (by kernel_rfl) rfl (fun _ _ _ h => h) (by rfl) (fun w hSw => ?_) hHeld ?_
          · (try dsimp only at hSw); go_simp
          simp only [Act.put, List.setIfInBounds_toArray, List.set_cons_zero, List.set_cons_succ]
          refine wpAnyH_ready (rs := [3]) (by kernel_rfl) (by simp) ?_
          refine node_f70 51 49 50 _ _ rfl (by rfl) rfl rfl rfl rfl ((HC.out s u0 HS2.out (HB0.out.trans (HU0.out.mono HB0.out.size))).mono ?_) AllReadyH.nil
          · rintro e u1 ⟨rfl, hb1⟩
            have HU1 := hid (below_step HU0.out hb1)
            have HZ1 := hid (below_step HZ0.out hb1)
            have hHeld := KB.out _ HU1.out
            refine ⟨_, rfl, hHeld, ?_⟩
            clear hb1
            simp only [Act.put, List.setIfInBounds_toArray, List.set_cons_zero, List.set_cons_succ]
            refine take_at (i := 4) 52 (v := .int .i64 (X : Int)) rfl (by kernel_rfl) (by kernel_rfl) (by kernel_rfl) rfl (fun _ _ _ h => h) (by rfl) (fun w hSw => ?_) hHeld ?_
            · (try dsimp only at hSw); go_simp; first | done | exact HOX.out | (rw [HOX.out])
            simp only [Act.put, List.setIfInBounds_toArray, List.set_cons_zero, List.set_cons_succ]
            refine wpAnyH_ready (rs := [8]) (by kernel_rfl) (by simp) ?_
            refine node_f70 56 54 55 _ _ rfl (by rfl) rfl rfl rfl rfl ((HC.out t u1 HT2.out (HB0.out.trans (HU1.out.mono HB0.out.size))).mono ?_) AllReadyH.nil
            · rintro e u2 ⟨rfl, hb1⟩
              have HU2 := hid (below_step HU1.out hb1)
              have HZ2 := hid (below_step HZ1.out hb1)
              have hHeld := KB.out _ HU2.out
              refine ⟨_, rfl, hHeld, ?_⟩
              clear hb1
              simp only [Act.put, List.setIfInBounds_toArray, List.set_cons_zero, List.set_cons_succ]
              refine take_at (i := 9) 57 (v := .int .i64 (Y : Int)) rfl (by kernel_rfl) (by kernel_rfl) (by kernel_rfl) rfl (fun _ _ _ h => h) (by rfl) (fun w hSw => ?_) hHeld ?_
              · (try dsimp only at hSw); go_simp; first | done | exact HOY.out | (rw [HOY.out])
              simp only [Act.put, List.setIfInBounds_toArray, List.set_cons_zero, List.set_cons_succ]
              refine take_at (i := 10) 10 (v := .int .i64 (X : Int)) rfl (by kernel_rfl) (by kernel_rfl) (by kernel_rfl) rfl (fun _ _ _ h => h) (by rfl) (fun w hSw => ?_) hHeld ?_
              · (try dsimp only at hSw); go_simp
              simp only [Act.put, List.setIfInBounds_toArray, List.set_cons_zero, List.set_cons_succ]
              refine take_at (i := 11) 11 (v := .int .i64 (Y : Int)) rfl (by kernel_rfl) (by kernel_rfl) (by kernel_rfl) rfl (fun _ _ _ h => h) (by rfl) (fun w hSw => ?_) hHeld ?_
              · (try dsimp only at hSw); go_simp
              simp only [Act.put, List.setIfInBounds_toArray, List.set_cons_zero, List.set_cons_succ]
              refine wpAnyH_done (by kernel_rfl) ?_ _
              clear hHeld
              have HBz := hid (below_step HBk.out HZ2.out)
              generalize u2 = wz at *
              cases gb with
              | true =>
                have HG2 : Hid (gk (fun s => s ||| d.hit s) L s (k + 1) = true) := by show _ = _; rw [HGS.out]; rfl
                clear hdf
                go_wp2_with fail
                go_roundw
                case rel => exact ⟨k + 1, by go_num, by omega, by rw [HG2.out], HBz⟩
                case measure => simp [intOf]; omega
              | false =>
                by_cases hxy : X = Y
                · have HG2 : Hid (gk (fun s => s ||| d.hit s) L s (k + 1) = false) := by show _ = _; rw [HGS.out, hxy]; simp
                  subst hxy
                  clear hdf
                  go_wp2_with fail
                  go_roundw
                  case rel => exact ⟨k + 1, by go_num, by omega, by rw [HG2.out], HBz⟩
                  case measure => simp [intOf]; omega
                · have hxi : ((X : Int) == (Y : Int)) = false := beq_eq_false_iff_ne.2 (by omega)
                  have hxn : ¬ (X : Int) = (Y : Int) := by omega
                  have hxb : ((X : Int) != (Y : Int)) = true := bne_iff_ne.2 hxn
                  by_cases hr : r = 0
                  · subst hr
                    have hdf0 : bits BinOp.andNot IntKind.i64 (X : Int) (Y : Int) = 0 := hdf
                    have HG2 : Hid (gk (fun s => s ||| d.hit s) L s (k + 1) = true) := by show _ = _; rw [HGS.out, bne_iff_ne.2 (fun e => hxy e.symm)]; rfl
                    clear hdf hxy
                    go_wp2_with fail
                    go_roundw
                    case rel => exact ⟨k + 1, by go_num, by omega, by rw [HG2.out], HBz⟩
                    case measure => simp [intOf]; omega
                  · have HG2 : Hid (gk (fun s => s ||| d.hit s) L s (k + 1) = false) := by show _ = _; rw [HGS.out, bne_iff_ne.2 (fun e => hxy e.symm), beq_eq_false_iff_ne.2 hr]; rfl
                    have hrb : ((r : Int) == 0) = false := beq_eq_false_iff_ne.2 (by omega)
                    clear hxy
                    go_wp2_with fail
                    go_roundw
                    case rel => exact ⟨k + 1, by go_num, by omega, by rw [HG2.out], HBz⟩
                    case measure => simp [intOf]; omega
        · have hkl2 : k = L.length := by omega
          subst hkl2
          have HTk := hid (ownV_below HT.out HBk.out)
          have HLk := hid (ownV_below HL.out HBk.out)
          have HBB := hid (below_step HBr.out HBk.out)
          have hB4k : B4 ≤ wk.heap.size := Nat.le_trans hB4r HBk.out.size
          have c0 := CS.out wk HBk.out
          cases hg : gk (fun s => s ||| d.hit s) L s L.length with
          | true =>
            have HG2 := HGR.out
            rw [hg, if_pos rfl] at HG2
            have HG3 := hid HG2
            clear HG2 HGR hg CS
            go_wp2_with fail
            go_roundw
            case rel => exact ⟨i + 1, by go_num, by omega, by rw [HG3.out]; exact HTk, HLk, HN, HBB, hB4k⟩
            case measure => simp [intOf]; omega
          | false =>
            have HG2 := HGR.out
            rw [hg, if_neg (by decide)] at HG2
            have HSN : Hid ((grK (fun s => s ||| d.hit s) L i).map iv ++ [.int .i64 (s : Int)] = (grK (fun s => s ||| d.hit s) L (i + 1)).map iv) := by
              show _ = _
              rw [HG2, List.map_append]; rfl
            clear HG2 HGR hg CS
            obtain ⟨xs, hxs⟩ : ∃ xs, xs = (grK (fun s => s ||| d.hit s) L i).map iv := ⟨_, rfl⟩
            rw [← hxs] at HTk HSN HLN
            clear hxs HT HL
            go_wp2_with (first | (at_builtin; refine wpl_app_int2 (s : Int) _ _ (.slice oa on oc) B4 xs (by rfl) (by rfl) (by rfl) (by rfl) HTk.out HLN.out hB4k ?_; intro v' w7 ho7 hb7 hg7 hk7; rw [HSN.out] at ho7; have HO7 := hid ho7; have HB7 := hid (HBB.out.trans (hb7.mono HW4.out)); have HL7 := hid (ownV_kept2 HLk.out hg7 HN.out); have HN7 : Hid (∀ k, v'.ownBlock = some k → (Value.slice (some ⟨lg, 0, none⟩) L.length lc).ownBlock ≠ some k) := (fun k hk hk2 => (hk7 k hk).elim (fun e => HN.out k e hk2) (fun e => absurd (ownV_lt HLk.out k hk2).2 (by omega))); have hB47 : B4 ≤ w7.heap.size := Nat.le_trans hB4k hb7.size; clear ho7 hb7 hg7 hk7) | fail)
            go_roundw
            case rel => exact ⟨i + 1, by go_num, by omega, HO7, HL7, HN7, HB7, hB47⟩
            case measure => simp [intOf]; omega
    · have hiN : i = L.length := by omega
      have HF : Hid (OwnV wr B4 3 (.slice oa on oc) (d.semis.map iv)) := by
        have h1 := HT.out
        rw [hiN, grK_all, ← HSP.out] at h1
        exact h1
      clear HT HL HN
      go_wp2_with fail
      go_ret
      exact ⟨_, rfl, ownV_mono HF.out (Nat.le_trans HB0.out.size HW4.out), HB0.out.trans (HBr.out.mono HB0.out.size)⟩
structure Rdo (w0 w : World) (D b1 b2 n : Nat) (d : Dsp) : Prop where
  box : w.heap[D]? = some (.cells #[.int .i64 (n : Int), .slice (some ⟨b1, 0, none⟩) n n, .slice (some ⟨b2, 0, none⟩) n n] 34)
  by_ : OwnV w w0.heap.size 3 (.slice (some ⟨b1, 0, none⟩) n n) ((byL d).map iv)
  fr : OwnV w w0.heap.size 3 (.slice (some ⟨b2, 0, none⟩) n n) ((fromL d).map iv)
  ne : b1 ≠ b2 ∧ D ≠ b1 ∧ D ≠ b2
  dn : d.n = n
  blo : Below w0.heap.size w0 w
section
variable {w0 w w' : World} {D b1 b2 n : Nat} {d : Dsp}
theorem Rdo.below (h : Rdo w0 w D b1 b2 n d) (hb : Below w.heap.size w w') : Rdo w0 w' D b1 b2 n d :=
  ⟨(hb.block D (heap_lt h.box)).trans h.box, ownV_below h.by_ hb, ownV_below h.fr hb, h.ne, h.dn, below_step h.blo hb⟩
theorem Rdo.by_at (h : Rdo w0 w D b1 b2 n d) {A : Nat} (hA : A < n) : w.cell? ⟨b1, A, none⟩ = some (iv ((byL d).getD A 0)) ∧ w.frozen? ⟨b1, A, none⟩ = false := by
  have hl : A < (byL d).length := by rw [byL_len, h.dn]; exact hA
  have h2 := ownV_cell h.by_ A (by rw [List.length_map]; exact hl)
  rw [getD_map iv _ 0 A hl] at h2
  exact ⟨h2, ownV_frozen h.by_ A⟩
theorem Rdo.fr_at (h : Rdo w0 w D b1 b2 n d) {A : Nat} (hA : A < n) : w.cell? ⟨b2, A, none⟩ = some (iv ((fromL d).getD A 0)) ∧ w.frozen? ⟨b2, A, none⟩ = false := by
  have hl : A < (fromL d).length := by rw [fromL_len, h.dn]; exact hA
  have h2 := ownV_cell h.fr A (by rw [List.length_map]; exact hl)
  rw [getD_map iv _ 0 A hl] at h2
  exact ⟨h2, ownV_frozen h.fr A⟩
/-- between the two stores of a round: the first row tells one attack more -/
structure Rdp (w0 w : World) (D b1 b2 n : Nat) (d e : Dsp) : Prop where
  box : w.heap[D]? = some (.cells #[.int .i64 (n : Int), .slice (some ⟨b1, 0, none⟩) n n, .slice (some ⟨b2, 0, none⟩) n n] 34)
  by_ : OwnV w w0.heap.size 3 (.slice (some ⟨b1, 0, none⟩) n n) ((byL e).map iv)
  fr : OwnV w w0.heap.size 3 (.slice (some ⟨b2, 0, none⟩) n n) ((fromL d).map iv)
  ne : b1 ≠ b2 ∧ D ≠ b1 ∧ D ≠ b2
  dn : d.n = n ∧ e.n = n
  blo : Below w0.heap.size w0 w
theorem Rdp.below {e : Dsp} (h : Rdp w0 w D b1 b2 n d e) (hb : Below w.heap.size w w') : Rdp w0 w' D b1 b2 n d e :=
  ⟨(hb.block D (heap_lt h.box)).trans h.box, ownV_below h.by_ hb, ownV_below h.fr hb, h.ne, h.dn, below_step h.blo hb⟩
theorem Rdp.fr_at {e : Dsp} (h : Rdp w0 w D b1 b2 n d e) {A : Nat} (hA : A < n) : w.cell? ⟨b2, A, none⟩ = some (iv ((fromL d).getD A 0)) ∧ w.frozen? ⟨b2, A, none⟩ = false := by
  have hl : A < (fromL d).length := by rw [fromL_len, h.dn.1]; exact hA
  have h2 := ownV_cell h.fr A (by rw [List.length_map]; exact hl)
  rw [getD_map iv _ 0 A hl] at h2
  exact ⟨h2, ownV_frozen h.fr A⟩
theorem Rdo.set1 {l : List Pr} (h : Rdo w0 w D b1 b2 n (dsp n l)) {A B : Nat} (hA : A < n) (hB : B < n) :
    Rdp w0 (w.setCell ⟨b1, A, none⟩ (iv ((byL (dsp n l)).getD A 0 ||| 2 ^ B))) D b1 b2 n (dsp n l) (dsp n (l ++ [((A : Int), (B : Int))])) := by
  obtain ⟨h1, h2⟩ := ownV_set h.by_ A (iv ((byL (dsp n l)).getD A 0 ||| 2 ^ B))
  rw [← map_set, ← byL_snoc n l A B hA hB] at h1
  refine ⟨?_, h1, ownV_kept h.fr h2 (.inr fun e => ?_), h.ne, ⟨rfl, rfl⟩, h.blo.setCell (p := ⟨b1, A, none⟩) (ownV_le h.by_).1 _⟩
  · rw [Below.heap_setCell _ _ _ _ h.ne.2.1]; exact h.box
  · simp [Value.ownBlock] at e
    exact h.ne.1 e.symm
theorem Rdp.set2 {l : List Pr} {A B : Nat} (h : Rdp w0 w D b1 b2 n (dsp n l) (dsp n (l ++ [((A : Int), (B : Int))]))) (hA : A < n) (hB : B < n) :
    Rdo w0 (w.setCell ⟨b2, B, none⟩ (iv ((fromL (dsp n l)).getD B 0 ||| 2 ^ A))) D b1 b2 n (dsp n (l ++ [((A : Int), (B : Int))])) := by
  obtain ⟨h1, h2⟩ := ownV_set h.fr B (iv ((fromL (dsp n l)).getD B 0 ||| 2 ^ A))
  rw [← map_set, ← fromL_snoc n l A B hA hB] at h1
  refine ⟨?_, ownV_kept h.by_ h2 (.inr fun e => ?_), h1, h.ne, rfl, h.blo.setCell (p := ⟨b2, B, none⟩) (ownV_le h.fr).1 _⟩
  · rw [Below.heap_setCell _ _ _ _ h.ne.2.2]; exact h.box
  · simp [Value.ownBlock] at e
    exact h.ne.1 e
end
theorem store3 {W : World} {g : Nat} {a b c x y z : Value} {t : TypeId} (h : W.heap[g]? = some (.cells #[a, b, c] t)) :
    (((W.setCell ⟨g, 0, none⟩ x).setCell ⟨g, 1, none⟩ y).setCell ⟨g, 2, none⟩ z).heap[g]? = some (.cells #[x, y, z] t) := by
  simp [World.setCell, Array.getElem?_modify, h]
theorem below_store3 {B g : Nat} {w W : World} {x y z : Value} (h : Below B w W) (hg : B ≤ g) : Below B w (((W.setCell ⟨g, 0, none⟩ x).setCell ⟨g, 1, none⟩ y).setCell ⟨g, 2, none⟩ z) :=
  ((h.setCell (p := ⟨g, 0, none⟩) hg _).setCell (p := ⟨g, 1, none⟩) hg _).setCell (p := ⟨g, 2, none⟩) hg _
theorem heap_store3n {W : World} {b g : Nat} (hne : b ≠ g) (x y z : Value) : (((W.setCell ⟨g, 0, none⟩ x).setCell ⟨g, 1, none⟩ y).setCell ⟨g, 2, none⟩ z).heap[b]? = W.heap[b]? := by
  rw [Below.heap_setCell _ _ _ _ hne, Below.heap_setCell _ _ _ _ hne, Below.heap_setCell _ _ _ _ hne]
section
variable {md : Region.Mode} {ops : Array Oper} {Q : Exit → Act → World → Prop} {S : World → Prop} {fuel : Nat} {listed : Array Bool} {a : Act} {w : World} {i : Nat} {o : Oper} {rs : List Nat}
theorem node_alloc34 (d : Nat) (hi : ops[i]? = some o) (hgd : o.guard = none) (ho : o.op = .alloc 34) (hd : o.dst = some d) (hS : S (w.alloc (.cells #[.int .i64 0, .slice none 0 0, .slice none 0 0] 34)))
    (h : S (w.alloc (.cells #[.int .i64 0, .slice none 0 0, .slice none 0 0] 34)) → wpAnyH Try.prog md ops Q S fuel (listed.setIfInBounds i true) (a.put (some d) (.pointer (some ⟨w.heap.size, 0, none⟩))) (w.alloc (.cells #[.int .i64 0, .slice none 0 0, .slice none 0 0] 34)))
    (hs : AllReadyH Try.prog md ops Q S fuel listed a w rs) : AllReadyH Try.prog md ops Q S fuel listed a w (i :: rs) := by
  refine AllReadyH.cons hi (fun K hK => ?_) hs
  have hw : Region.wanted o (yielded ops a.tmps) = true := by simp [Region.wanted, hgd]
  rw [if_pos hw]
  have hk := hK.out _ _ hS h
  unfold Oper.wp execOp
  simp [ho, go_sem]
  rw [hd]
  exact hk
theorem node_store34 (k j X : Nat) (x y z : Value) (n : Int) (a1 a2 : Option Addr) (n1 n2 c1 c2 : Nat)
    (hi : ops[i]? = some o) (hgd : o.guard = none) (ho : o.op = .store 34 (.tmp k) (.tmp j)) (hd : o.dst = none)
    (hp : a.tmps[k]?.getD undef = .pointer (some ⟨X, 0, none⟩)) (hv : a.tmps[j]?.getD undef = .agg #[.int .i64 n, .slice a1 n1 c1, .slice a2 n2 c2])
    (hh : w.heap[X]? = some (.cells #[x, y, z] 34))
    (hS : S (((w.setCell ⟨X, 0, none⟩ (.int .i64 n)).setCell ⟨X, 1, none⟩ (.slice a1 n1 c1)).setCell ⟨X, 2, none⟩ (.slice a2 n2 c2)))
    (h : wpAnyH Try.prog md ops Q S fuel (listed.setIfInBounds i true) a (((w.setCell ⟨X, 0, none⟩ (.int .i64 n)).setCell ⟨X, 1, none⟩ (.slice a1 n1 c1)).setCell ⟨X, 2, none⟩ (.slice a2 n2 c2)))
    (hs : AllReadyH Try.prog md ops Q S fuel listed a w rs) : AllReadyH Try.prog md ops Q S fuel listed a w (i :: rs) := by
  refine AllReadyH.cons hi (fun K hK => ?_) hs
  have hw : Region.wanted o (yielded ops a.tmps) = true := by simp [Region.wanted, hgd]
  rw [if_pos hw]
  obtain ⟨k0, k1, k2⟩ := cells3_of hh
  obtain ⟨f0, f1, f2⟩ := free3_of hh
  have hk := hK.out _ _ hS (fun _ => h)
  unfold Oper.wp execOp
  simp [ho, go_sem, hp, hv, k0, k1, k2, f0, f1, f2]
  rw [hd]
  exact hk
end
theorem rdo_start {w v : World} {D b1 b2 n : Nat} {cs : Array Value} (hcs : cs.toList = (List.replicate n 0).map iv) (hD : v.heap[D]? = some (.cells #[.int .i64 (n : Int), .slice (some ⟨b1, 0, none⟩) n n, .slice (some ⟨b2, 0, none⟩) n n] 34))
    (h1 : v.heap[b1]? = some (.cells cs 3)) (h2 : v.heap[b2]? = some (.cells cs 3)) (hne : b1 ≠ b2) (hnd : D ≠ b1 ∧ D ≠ b2) (g1 : w.heap.size ≤ b1) (g2 : w.heap.size ≤ b2) (hb : Below w.heap.size w v) (hn : n ≤ 12) : Rdo w v D b1 b2 n (dsp n []) := by
  have hsz : cs.size = n := by rw [← Array.length_toList, hcs]; simp
  have row : ∀ b, v.heap[b]? = some (.cells cs 3) → w.heap.size ≤ b → OwnV v w.heap.size 3 (.slice (some ⟨b, 0, none⟩) n n) ((List.replicate n 0).map iv) := fun b hb2 hle => by
    refine ⟨by simp, .inr ⟨b, n, cs, by simp, hle, hb2, by simp, by unfold maxLen; omega, by rw [hsz]; simp, ?_⟩⟩
    rw [hcs, List.take_of_length_le (by simp)]
  have h3 := dsp_nil n
  exact ⟨hD, by rw [h3.1]; exact row b1 h1 g1, by rw [h3.2]; exact row b2 h2 g2, ⟨hne, hnd.1, hnd.2⟩, rfl, hb⟩
theorem make_ints (n : Nat) (hn : n ≤ 12) : ∃ cs : Array Value, cs.toList = (List.replicate n 0).map iv ∧ ∀ w : World, (Instr.makeSlice 24 (.int .i64 (n : Int)) (.int .i64 (n : Int))).run Try.prog w = .ok (.slice (some ⟨w.heap.size, 0, none⟩) n n) (w.alloc (.cells cs 3)) := by
  cases hi0 : Try.prog.info? 3 with
  | none => have := info3; rw [hi0] at this; cases this
  | some i =>
    have h := info3
    rw [hi0] at h
    simp only [Option.map_some, Option.some.injEq, Prod.mk.injEq] at h
    obtain ⟨h1, h2, h3⟩ := h
    refine ⟨madeCells (Value.int .i64 0).cells (n * 1), ?_, fun w => ?_⟩
    · rw [Nat.mul_one, List.map_replicate]
      exact made1 (.int .i64 0) n
    · have := run_make (P := Try.prog) (w := w) 24 3 i (.int .i64 0) Try.underlying24 hi0 h1 .i64 .i64 (n : Int) (n : Int) (by omega) (by omega) (by rw [h3]; omega) (by omega)
      rw [this, h2]
      simp
theorem hRO_cells {w1 w' : World} {D b1 b2 n : Nat} {d : Dsp} (h : Rdo w1 w' D b1 b2 n d) : w'.cell? ⟨D, 0, none⟩ = some (.int .i64 n) ∧ w'.cell? ⟨D, 1, none⟩ = some (.slice (some ⟨b1, 0, none⟩) n n) ∧ w'.cell? ⟨D, 2, none⟩ = some (.slice (some ⟨b2, 0, none⟩) n n) := cells3_of h.box
theorem hRP_cells {w1 w' : World} {D b1 b2 n : Nat} {d e : Dsp} (h : Rdp w1 w' D b1 b2 n d e) : w'.cell? ⟨D, 0, none⟩ = some (.int .i64 n) ∧ w'.cell? ⟨D, 1, none⟩ = some (.slice (some ⟨b1, 0, none⟩) n n) ∧ w'.cell? ⟨D, 2, none⟩ = some (.slice (some ⟨b2, 0, none⟩) n n) := cells3_of h.box
set_option maxHeartbeats 4000000 in
set_option maxRecDepth 100000 in
theorem rOf_any (n : Nat) (v : Value) (l : List Pr) (w : World) (hv : IsPr w v l) (hva : validP (n : Int) l = true) :
    Calls Try.prog 21 #[.int .i64 (n : Int), v] w fun e w' => ∃ b1 b2, e = .returned (Dv b1 b2 (dsp n l)) ∧ RDd w' b1 b2 (dsp n l) ∧ Below w.heap.size w w' := by
  obtain ⟨a, c, rfl⟩ := isPr_slice hv
  have hnn := (valid_n hva).2
  have hn12 : n ≤ 12 := by have := hnn; omega
  have hn1 : 1 ≤ n := by have := valid_n hva; omega
  obtain ⟨cs, hcs, hmk⟩ := make_ints n hn12
  have HCS := hid hcs
  have HMK := hid hmk
  have HIN : Hid (∀ p, p ∈ l → inB (n : Int) p = true) := by
    have h := hva
    unfold validP at h
    simp only [Bool.and_eq_true, List.all_eq_true] at h
    exact h.2
  have hl40 : l.length ≤ 40 := by have := hva; unfold validP at this; simp only [Bool.and_eq_true, decide_eq_true_eq] at this; omega
  have HB1 := hid (ba w (.cells #[.int .i64 0, .slice none 0 0, .slice none 0 0] 34))
  have HV := hid (isPr_below hv HB1.out)
  have HRZ := hid (heap_alloc_new w (.cells #[.int .i64 0, .slice none 0 0, .slice none 0 0] 34))
  clear hv hva hcs hmk hnn
  go_enter Try.func21, Try.ntmps21
  go_upto_region 1 with fail
  obtain ⟨w1, hw1⟩ : ∃ v, v = w.alloc (.cells #[.int .i64 0, .slice none 0 0, .slice none 0 0] 34) := ⟨_, rfl⟩
  rw [← hw1] at HB1 HV HRZ ⊢
  clear hw1
  obtain ⟨RB, hRB⟩ : ∃ b, b = w.heap.size := ⟨_, rfl⟩
  rw [← hRB] at HRZ ⊢
  have HRB : Hid (RB < w1.heap.size ∧ w.heap.size ≤ RB) := ⟨heap_lt HRZ.out, by omega⟩
  clear hRB
  go_cut [5] (fun v5 wx => ∃ D b1 b2, v5 = .pointer (some ⟨D, 0, none⟩) ∧ Hid (Rdo w1 wx D b1 b2 n (dsp n [])))
  case first =>
    refine wp_region_held_drew (S := fun _ => True) (by kernel_rfl) trivial (fun hHeld => ?_)
    have HR0 : Hid (Below w1.heap.size w1 w1.drew) := (Below.refl _ _).drew
    generalize w1.drew = v0 at *
    refine take_at (i := 0) 7 (v := .int .i64 n) rfl (by kernel_rfl) (by kernel_rfl) (by kernel_rfl) rfl (fun _ _ _ h => h) (by rfl) (fun w hSw => ?_) hHeld ?_
    · (try dsimp only at hSw); go_simp
    simp only [Act.put, List.setIfInBounds_toArray, List.set_cons_zero, List.set_cons_succ]
    refine take_at (i := 1) 8 (v := .int .i64 n) rfl (by kernel_rfl) (by kernel_rfl) (by kernel_rfl) rfl (fun _ _ _ h => h) (by rfl) (fun w hSw => ?_) hHeld ?_
    · (try dsimp only at hSw); go_simp
    simp only [Act.put, List.setIfInBounds_toArray, List.set_cons_zero, List.set_cons_succ]
    refine take_at (i := 3) 10 (v := .int .i64 n) rfl (by kernel_rfl) (by kernel_rfl) (by kernel_rfl) rfl (fun _ _ _ h => h) (by rfl) (fun w hSw => ?_) hHeld ?_
    · (try dsimp only at hSw); go_simp
    simp only [Act.put, List.setIfInBounds_toArray, List.set_cons_zero, List.set_cons_succ]
    refine wpAnyH_ready (rs := [2, 4, 6]) (by kernel_rfl) (by simp) ?_
    refine node_make24 9 8 n cs rfl rfl rfl rfl rfl HMK.out trivial (fun hHeld => ?_) ?_
    · have HR1 := hid (Below.alloc HR0.out (Below.size HR0.out) (.cells cs 3))
      have Zb11 := hid (heap_alloc_new v0 (.cells cs 3))
      obtain ⟨b1, hb1⟩ : ∃ b, b = v0.heap.size := ⟨_, rfl⟩
      have Gb1 : Hid (w1.heap.size ≤ b1) := by rw [hb1]; exact Below.size HR0.out
      obtain ⟨v1, hv1⟩ : ∃ v, v = v0.alloc (.cells cs 3) := ⟨_, rfl⟩
      rw [← hv1] at HR1 Zb11  ⊢
      rw [← hb1] at Zb11 ⊢
      clear hb1 hv1
      simp only [Act.put, List.setIfInBounds_toArray, List.set_cons_zero, List.set_cons_succ]
      refine wpAnyH_ready (rs := [4, 6]) (by kernel_rfl) (by simp) ?_
      refine node_make24 11 10 n cs rfl rfl rfl rfl rfl HMK.out trivial (fun hHeld => ?_) ?_
      · have HR2 := hid (Below.alloc HR1.out (Below.size HR1.out) (.cells cs 3))
        have Zb22 := hid (heap_alloc_new v1 (.cells cs 3))
        have Zb12 := hid ((Below.heap_alloc v1 (.cells cs 3) b1 (heap_lt Zb11.out)).trans Zb11.out)
        obtain ⟨b2, hb2⟩ : ∃ b, b = v1.heap.size := ⟨_, rfl⟩
        have Gb2 : Hid (w1.heap.size ≤ b2) := by rw [hb2]; exact Below.size HR1.out
        have Nb1b2 : Hid (b1 ≠ b2) := by have := heap_lt Zb11.out; show _ ≠ _; omega
        obtain ⟨v2, hv2⟩ : ∃ v, v = v1.alloc (.cells cs 3) := ⟨_, rfl⟩
        rw [← hv2] at HR2 Zb22 Zb12 ⊢
        rw [← hb2] at Zb22 ⊢
        clear hb2 hv2
        simp only [Act.put, List.setIfInBounds_toArray, List.set_cons_zero, List.set_cons_succ]
        refine take_at (i := 5) 12 (v := .agg #[.int .i64 n, .slice (some ⟨b1, 0, none⟩) n n, .slice (some ⟨b2, 0, none⟩) n n]) rfl (by kernel_rfl) (by kernel_rfl) (by kernel_rfl) rfl (fun _ _ _ h => h) (by rfl) (fun w hSw => ?_) hHeld ?_
        · (try dsimp only at hSw); go_simp
        simp only [Act.put, List.setIfInBounds_toArray, List.set_cons_zero, List.set_cons_succ]
        refine wpAnyH_ready (rs := [6]) (by kernel_rfl) (by simp) ?_
        refine node_alloc34 5 rfl rfl rfl rfl trivial (fun hHeld => ?_) AllReadyH.nil
        · have HR3 := hid (Below.alloc HR2.out (Below.size HR2.out) (.cells #[.int .i64 0, .slice none 0 0, .slice none 0 0] 34))
          have ZD3 := hid (heap_alloc_new v2 (.cells #[.int .i64 0, .slice none 0 0, .slice none 0 0] 34))
          have Zb13 := hid ((Below.heap_alloc v2 (.cells #[.int .i64 0, .slice none 0 0, .slice none 0 0] 34) b1 (heap_lt Zb12.out)).trans Zb12.out)
          have Zb23 := hid ((Below.heap_alloc v2 (.cells #[.int .i64 0, .slice none 0 0, .slice none 0 0] 34) b2 (heap_lt Zb22.out)).trans Zb22.out)
          obtain ⟨D, hD⟩ : ∃ b, b = v2.heap.size := ⟨_, rfl⟩
          have GD : Hid (w1.heap.size ≤ D) := by rw [hD]; exact Below.size HR2.out
          have Nb1D : Hid (b1 ≠ D) := by have := heap_lt Zb12.out; show _ ≠ _; omega
          have Nb2D : Hid (b2 ≠ D) := by have := heap_lt Zb22.out; show _ ≠ _; omega
          obtain ⟨v3, hv3⟩ : ∃ v, v = v2.alloc (.cells #[.int .i64 0, .slice none 0 0, .slice none 0 0] 34) := ⟨_, rfl⟩
          rw [← hv3] at HR3 ZD3 Zb13 Zb23 ⊢
          rw [← hD] at ZD3 ⊢
          clear hD hv3
          simp only [Act.put, List.setIfInBounds_toArray, List.set_cons_zero, List.set_cons_succ]
          refine wpAnyH_ready (rs := [7]) (by kernel_rfl) (by simp) ?_
          refine node_store34 5 12 D _ _ _ _ _ _ _ _ _ _ rfl rfl rfl rfl rfl rfl ZD3.out trivial ?_ AllReadyH.nil
          · have HR4 := hid (below_store3 (x := .int .i64 (n : Int)) (y := .slice (some ⟨b1, 0, none⟩) n n) (z := .slice (some ⟨b2, 0, none⟩) n n) HR3.out GD.out)
            have ZD4 := hid (store3 (x := .int .i64 (n : Int)) (y := .slice (some ⟨b1, 0, none⟩) n n) (z := .slice (some ⟨b2, 0, none⟩) n n) ZD3.out)
            have Zb14 := hid ((heap_store3n (W := v3) Nb1D.out (.int .i64 (n : Int)) (.slice (some ⟨b1, 0, none⟩) n n) (.slice (some ⟨b2, 0, none⟩) n n)).trans Zb13.out)
            have Zb24 := hid ((heap_store3n (W := v3) Nb2D.out (.int .i64 (n : Int)) (.slice (some ⟨b1, 0, none⟩) n n) (.slice (some ⟨b2, 0, none⟩) n n)).trans Zb23.out)
            have HRO := hid (rdo_start (n := n) HCS.out ZD4.out Zb14.out Zb24.out Nb1b2.out ⟨Nb1D.out.symm, Nb2D.out.symm⟩ Gb1.out Gb2.out HR4.out hn12)
            obtain ⟨wx, hwx⟩ : ∃ v, v = (((v3.setCell ⟨D, 0, none⟩ (.int .i64 (n : Int))).setCell ⟨D, 1, none⟩ (.slice (some ⟨b1, 0, none⟩) n n)).setCell ⟨D, 2, none⟩ (.slice (some ⟨b2, 0, none⟩) n n)) := ⟨_, rfl⟩
            rw [← hwx] at HRO ⊢
            refine wpAnyH_done (by kernel_rfl) ?_ _
            clear hHeld
            go_wp2_with fail
            go_meet
            exact ⟨D, b1, b2, rfl, HRO⟩
      refine node_alloc34 5 rfl rfl rfl rfl trivial (fun hHeld => ?_) AllReadyH.nil
      · have HR2 := hid (Below.alloc HR1.out (Below.size HR1.out) (.cells #[.int .i64 0, .slice none 0 0, .slice none 0 0] 34))
        have ZD2 := hid (heap_alloc_new v1 (.cells #[.int .i64 0, .slice none 0 0, .slice none 0 0] 34))
        have Zb12 := hid ((Below.heap_alloc v1 (.cells #[.int .i64 0, .slice none 0 0, .slice none 0 0] 34) b1 (heap_lt Zb11.out)).trans Zb11.out)
        obtain ⟨D, hD⟩ : ∃ b, b = v1.heap.size := ⟨_, rfl⟩
        have GD : Hid (w1.heap.size ≤ D) := by rw [hD]; exact Below.size HR1.out
        have Nb1D : Hid (b1 ≠ D) := by have := heap_lt Zb11.out; show _ ≠ _; omega
        obtain ⟨v2, hv2⟩ : ∃ v, v = v1.alloc (.cells #[.int .i64 0, .slice none 0 0, .slice none 0 0] 34) := ⟨_, rfl⟩
        rw [← hv2] at HR2 ZD2 Zb12 ⊢
        rw [← hD] at ZD2 ⊢
        clear hD hv2
        simp only [Act.put, List.setIfInBounds_toArray, List.set_cons_zero, List.set_cons_succ]
        refine wpAnyH_ready (rs := [4]) (by kernel_rfl) (by simp) ?_
        refine node_make24 11 10 n cs rfl rfl rfl rfl rfl HMK.out trivial (fun hHeld => ?_) AllReadyH.nil
        · have HR3 := hid (Below.alloc HR2.out (Below.size HR2.out) (.cells cs 3))
          have Zb23 := hid (heap_alloc_new v2 (.cells cs 3))
          have Zb13 := hid ((Below.heap_alloc v2 (.cells cs 3) b1 (heap_lt Zb12.out)).trans Zb12.out)
          have ZD3 := hid ((Below.heap_alloc v2 (.cells cs 3) D (heap_lt ZD2.out)).trans ZD2.out)
          obtain ⟨b2, hb2⟩ : ∃ b, b = v2.heap.size := ⟨_, rfl⟩
          have Gb2 : Hid (w1.heap.size ≤ b2) := by rw [hb2]; exact Below.size HR2.out
          have Nb1b2 : Hid (b1 ≠ b2) := by have := heap_lt Zb12.out; show _ ≠ _; omega
          have NDb2 : Hid (D ≠ b2) := by have := heap_lt ZD2.out; show _ ≠ _; omega
          obtain ⟨v3, hv3⟩ : ∃ v, v = v2.alloc (.cells cs 3) := ⟨_, rfl⟩
          rw [← hv3] at HR3 Zb23 Zb13 ZD3 ⊢
          rw [← hb2] at Zb23 ⊢
          clear hb2 hv3
          simp only [Act.put, List.setIfInBounds_toArray, List.set_cons_zero, List.set_cons_succ]
          refine take_at (i := 5) 12 (v := .agg #[.int .i64 n, .slice (some ⟨b1, 0, none⟩) n n, .slice (some ⟨b2, 0, none⟩) n n]) rfl (by kernel_rfl) (by kernel_rfl) (by kernel_rfl) rfl (fun _ _ _ h => h) (by rfl) (fun w hSw => ?_) hHeld ?_
          · (try dsimp only at hSw); go_simp
          simp only [Act.put, List.setIfInBounds_toArray, List.set_cons_zero, List.set_cons_succ]
          refine wpAnyH_ready (rs := [7]) (by kernel_rfl) (by simp) ?_
          refine node_store34 5 12 D _ _ _ _ _ _ _ _ _ _ rfl rfl rfl rfl rfl rfl ZD3.out trivial ?_ AllReadyH.nil
          · have HR4 := hid (below_store3 (x := .int .i64 (n : Int)) (y := .slice (some ⟨b1, 0, none⟩) n n) (z := .slice (some ⟨b2, 0, none⟩) n n) HR3.out GD.out)
            have ZD4 := hid (store3 (x := .int .i64 (n : Int)) (y := .slice (some ⟨b1, 0, none⟩) n n) (z := .slice (some ⟨b2, 0, none⟩) n n) ZD3.out)
            have Zb14 := hid ((heap_store3n (W := v3) Nb1D.out (.int .i64 (n : Int)) (.slice (some ⟨b1, 0, none⟩) n n) (.slice (some ⟨b2, 0, none⟩) n n)).trans Zb13.out)
            have Zb24 := hid ((heap_store3n (W := v3) NDb2.out.symm (.int .i64 (n : Int)) (.slice (some ⟨b1, 0, none⟩) n n) (.slice (some ⟨b2, 0, none⟩) n n)).trans Zb23.out)
            have HRO := hid (rdo_start (n := n) HCS.out ZD4.out Zb14.out Zb24.out Nb1b2.out ⟨Nb1D.out.symm, NDb2.out⟩ Gb1.out Gb2.out HR4.out hn12)
            obtain ⟨wx, hwx⟩ : ∃ v, v = (((v3.setCell ⟨D, 0, none⟩ (.int .i64 (n : Int))).setCell ⟨D, 1, none⟩ (.slice (some ⟨b1, 0, none⟩) n n)).setCell ⟨D, 2, none⟩ (.slice (some ⟨b2, 0, none⟩) n n)) := ⟨_, rfl⟩
            rw [← hwx] at HRO ⊢
            refine wpAnyH_done (by kernel_rfl) ?_ _
            clear hHeld
            go_wp2_with fail
            go_meet
            exact ⟨D, b1, b2, rfl, HRO⟩
    refine node_make24 11 10 n cs rfl rfl rfl rfl rfl HMK.out trivial (fun hHeld => ?_) ?_
    · have HR1 := hid (Below.alloc HR0.out (Below.size HR0.out) (.cells cs 3))
      have Zb21 := hid (heap_alloc_new v0 (.cells cs 3))
      obtain ⟨b2, hb2⟩ : ∃ b, b = v0.heap.size := ⟨_, rfl⟩
      have Gb2 : Hid (w1.heap.size ≤ b2) := by rw [hb2]; exact Below.size HR0.out
      obtain ⟨v1, hv1⟩ : ∃ v, v = v0.alloc (.cells cs 3) := ⟨_, rfl⟩
      rw [← hv1] at HR1 Zb21  ⊢
      rw [← hb2] at Zb21 ⊢
      clear hb2 hv1
      simp only [Act.put, List.setIfInBounds_toArray, List.set_cons_zero, List.set_cons_succ]
      refine wpAnyH_ready (rs := [2, 6]) (by kernel_rfl) (by simp) ?_
      refine node_make24 9 8 n cs rfl rfl rfl rfl rfl HMK.out trivial (fun hHeld => ?_) ?_
      · have HR2 := hid (Below.alloc HR1.out (Below.size HR1.out) (.cells cs 3))
        have Zb12 := hid (heap_alloc_new v1 (.cells cs 3))
        have Zb22 := hid ((Below.heap_alloc v1 (.cells cs 3) b2 (heap_lt Zb21.out)).trans Zb21.out)
        obtain ⟨b1, hb1⟩ : ∃ b, b = v1.heap.size := ⟨_, rfl⟩
        have Gb1 : Hid (w1.heap.size ≤ b1) := by rw [hb1]; exact Below.size HR1.out
        have Nb2b1 : Hid (b2 ≠ b1) := by have := heap_lt Zb21.out; show _ ≠ _; omega
        obtain ⟨v2, hv2⟩ : ∃ v, v = v1.alloc (.cells cs 3) := ⟨_, rfl⟩
        rw [← hv2] at HR2 Zb12 Zb22 ⊢
        rw [← hb1] at Zb12 ⊢
        clear hb1 hv2
        simp only [Act.put, List.setIfInBounds_toArray, List.set_cons_zero, List.set_cons_succ]
        refine take_at (i := 5) 12 (v := .agg #[.int .i64 n, .slice (some ⟨b1, 0, none⟩) n n, .slice (some ⟨b2, 0, none⟩) n n]) rfl (by kernel_rfl) (by kernel_rfl) (by kernel_rfl) rfl (fun _ _ _ h => h) (by rfl) (fun w hSw => ?_) hHeld ?_
        · (try dsimp only at hSw); go_simp
        simp only [Act.put, List.setIfInBounds_toArray, List.set_cons_zero, List.set_cons_succ]
        refine wpAnyH_ready (rs := [6]) (by kernel_rfl) (by simp) ?_
        refine node_alloc34 5 rfl rfl rfl rfl trivial (fun hHeld => ?_) AllReadyH.nil
        · have HR3 := hid (Below.alloc HR2.out (Below.size HR2.out) (.cells #[.int .i64 0, .slice none 0 0, .slice none 0 0] 34))
          have ZD3 := hid (heap_alloc_new v2 (.cells #[.int .i64 0, .slice none 0 0, .slice none 0 0] 34))
          have Zb13 := hid ((Below.heap_alloc v2 (.cells #[.int .i64 0, .slice none 0 0, .slice none 0 0] 34) b1 (heap_lt Zb12.out)).trans Zb12.out)
          have Zb23 := hid ((Below.heap_alloc v2 (.cells #[.int .i64 0, .slice none 0 0, .slice none 0 0] 34) b2 (heap_lt Zb22.out)).trans Zb22.out)
          obtain ⟨D, hD⟩ : ∃ b, b = v2.heap.size := ⟨_, rfl⟩
          have GD : Hid (w1.heap.size ≤ D) := by rw [hD]; exact Below.size HR2.out
          have Nb1D : Hid (b1 ≠ D) := by have := heap_lt Zb12.out; show _ ≠ _; omega
          have Nb2D : Hid (b2 ≠ D) := by have := heap_lt Zb22.out; show _ ≠ _; omega
          obtain ⟨v3, hv3⟩ : ∃ v, v = v2.alloc (.cells #[.int .i64 0, .slice none 0 0, .slice none 0 0] 34) := ⟨_, rfl⟩
          rw [← hv3] at HR3 ZD3 Zb13 Zb23 ⊢
          rw [← hD] at ZD3 ⊢
          clear hD hv3
          simp only [Act.put, List.setIfInBounds_toArray, List.set_cons_zero, List.set_cons_succ]
          refine wpAnyH_ready (rs := [7]) (by kernel_rfl) (by simp) ?_
          refine node_store34 5 12 D _ _ _ _ _ _ _ _ _ _ rfl rfl rfl rfl rfl rfl ZD3.out trivial ?_ AllReadyH.nil
          · have HR4 := hid (below_store3 (x := .int .i64 (n : Int)) (y := .slice (some ⟨b1, 0, none⟩) n n) (z := .slice (some ⟨b2, 0, none⟩) n n) HR3.out GD.out)
            have ZD4 := hid (store3 (x := .int .i64 (n : Int)) (y := .slice (some ⟨b1, 0, none⟩) n n) (z := .slice (some ⟨b2, 0, none⟩) n n) ZD3.out)
            have Zb14 := hid ((heap_store3n (W := v3) Nb1D.out (.int .i64 (n : Int)) (.slice (some ⟨b1, 0, none⟩) n n) (.slice (some ⟨b2, 0, none⟩) n n)).trans Zb13.out)
            have Zb24 := hid ((heap_store3n (W := v3) Nb2D.out (.int .i64 (n : Int)) (.slice (some ⟨b1, 0, none⟩) n n) (.slice (some ⟨b2, 0, none⟩) n n)).trans Zb23.out)
            have HRO := hid (rdo_start (n := n) HCS.out ZD4.out Zb14.out Zb24.out Nb2b1.out.symm ⟨Nb1D.out.symm, Nb2D.out.symm⟩ Gb1.out Gb2.out HR4.out hn12)
            obtain ⟨wx, hwx⟩ : ∃ v, v = (((v3.setCell ⟨D, 0, none⟩ (.int .i64 (n : Int))).setCell ⟨D, 1, none⟩ (.slice (some ⟨b1, 0, none⟩) n n)).setCell ⟨D, 2, none⟩ (.slice (some ⟨b2, 0, none⟩) n n)) := ⟨_, rfl⟩
            rw [← hwx] at HRO ⊢
            refine wpAnyH_done (by kernel_rfl) ?_ _
            clear hHeld
            go_wp2_with fail
            go_meet
            exact ⟨D, b1, b2, rfl, HRO⟩
      refine node_alloc34 5 rfl rfl rfl rfl trivial (fun hHeld => ?_) AllReadyH.nil
      · have HR2 := hid (Below.alloc HR1.out (Below.size HR1.out) (.cells #[.int .i64 0, .slice none 0 0, .slice none 0 0] 34))
        have ZD2 := hid (heap_alloc_new v1 (.cells #[.int .i64 0, .slice none 0 0, .slice none 0 0] 34))
        have Zb22 := hid ((Below.heap_alloc v1 (.cells #[.int .i64 0, .slice none 0 0, .slice none 0 0] 34) b2 (heap_lt Zb21.out)).trans Zb21.out)
        obtain ⟨D, hD⟩ : ∃ b, b = v1.heap.size := ⟨_, rfl⟩
        have GD : Hid (w1.heap.size ≤ D) := by rw [hD]; exact Below.size HR1.out
        have Nb2D : Hid (b2 ≠ D) := by have := heap_lt Zb21.out; show _ ≠ _; omega
        obtain ⟨v2, hv2⟩ : ∃ v, v = v1.alloc (.cells #[.int .i64 0, .slice none 0 0, .slice none 0 0] 34) := ⟨_, rfl⟩
        rw [← hv2] at HR2 ZD2 Zb22 ⊢
        rw [← hD] at ZD2 ⊢
        clear hD hv2
        simp only [Act.put, List.setIfInBounds_toArray, List.set_cons_zero, List.set_cons_succ]
        refine wpAnyH_ready (rs := [2]) (by kernel_rfl) (by simp) ?_
        refine node_make24 9 8 n cs rfl rfl rfl rfl rfl HMK.out trivial (fun hHeld => ?_) AllReadyH.nil
        · have HR3 := hid (Below.alloc HR2.out (Below.size HR2.out) (.cells cs 3))
          have Zb13 := hid (heap_alloc_new v2 (.cells cs 3))
          have Zb23 := hid ((Below.heap_alloc v2 (.cells cs 3) b2 (heap_lt Zb22.out)).trans Zb22.out)
          have ZD3 := hid ((Below.heap_alloc v2 (.cells cs 3) D (heap_lt ZD2.out)).trans ZD2.out)
          obtain ⟨b1, hb1⟩ : ∃ b, b = v2.heap.size := ⟨_, rfl⟩
          have Gb1 : Hid (w1.heap.size ≤ b1) := by rw [hb1]; exact Below.size HR2.out
          have Nb2b1 : Hid (b2 ≠ b1) := by have := heap_lt Zb22.out; show _ ≠ _; omega
          have NDb1 : Hid (D ≠ b1) := by have := heap_lt ZD2.out; show _ ≠ _; omega
          obtain ⟨v3, hv3⟩ : ∃ v, v = v2.alloc (.cells cs 3) := ⟨_, rfl⟩
          rw [← hv3] at HR3 Zb13 Zb23 ZD3 ⊢
          rw [← hb1] at Zb13 ⊢
          clear hb1 hv3
          simp only [Act.put, List.setIfInBounds_toArray, List.set_cons_zero, List.set_cons_succ]
          refine take_at (i := 5) 12 (v := .agg #[.int .i64 n, .slice (some ⟨b1, 0, none⟩) n n, .slice (some ⟨b2, 0, none⟩) n n]) rfl (by kernel_rfl) (by kernel_rfl) (by kernel_rfl) rfl (fun _ _ _ h => h) (by rfl) (fun w hSw => ?_) hHeld ?_
          · (try dsimp only at hSw); go_simp
          simp only [Act.put, List.setIfInBounds_toArray, List.set_cons_zero, List.set_cons_succ]
          refine wpAnyH_ready (rs := [7]) (by kernel_rfl) (by simp) ?_
          refine node_store34 5 12 D _ _ _ _ _ _ _ _ _ _ rfl rfl rfl rfl rfl rfl ZD3.out trivial ?_ AllReadyH.nil
          · have HR4 := hid (below_store3 (x := .int .i64 (n : Int)) (y := .slice (some ⟨b1, 0, none⟩) n n) (z := .slice (some ⟨b2, 0, none⟩) n n) HR3.out GD.out)
            have ZD4 := hid (store3 (x := .int .i64 (n : Int)) (y := .slice (some ⟨b1, 0, none⟩) n n) (z := .slice (some ⟨b2, 0, none⟩) n n) ZD3.out)
            have Zb14 := hid ((heap_store3n (W := v3) NDb1.out.symm (.int .i64 (n : Int)) (.slice (some ⟨b1, 0, none⟩) n n) (.slice (some ⟨b2, 0, none⟩) n n)).trans Zb13.out)
            have Zb24 := hid ((heap_store3n (W := v3) Nb2D.out (.int .i64 (n : Int)) (.slice (some ⟨b1, 0, none⟩) n n) (.slice (some ⟨b2, 0, none⟩) n n)).trans Zb23.out)
            have HRO := hid (rdo_start (n := n) HCS.out ZD4.out Zb14.out Zb24.out Nb2b1.out.symm ⟨NDb1.out, Nb2D.out.symm⟩ Gb1.out Gb2.out HR4.out hn12)
            obtain ⟨wx, hwx⟩ : ∃ v, v = (((v3.setCell ⟨D, 0, none⟩ (.int .i64 (n : Int))).setCell ⟨D, 1, none⟩ (.slice (some ⟨b1, 0, none⟩) n n)).setCell ⟨D, 2, none⟩ (.slice (some ⟨b2, 0, none⟩) n n)) := ⟨_, rfl⟩
            rw [← hwx] at HRO ⊢
            refine wpAnyH_done (by kernel_rfl) ?_ _
            clear hHeld
            go_wp2_with fail
            go_meet
            exact ⟨D, b1, b2, rfl, HRO⟩
    refine node_alloc34 5 rfl rfl rfl rfl trivial (fun hHeld => ?_) AllReadyH.nil
    · have HR1 := hid (Below.alloc HR0.out (Below.size HR0.out) (.cells #[.int .i64 0, .slice none 0 0, .slice none 0 0] 34))
      have ZD1 := hid (heap_alloc_new v0 (.cells #[.int .i64 0, .slice none 0 0, .slice none 0 0] 34))
      obtain ⟨D, hD⟩ : ∃ b, b = v0.heap.size := ⟨_, rfl⟩
      have GD : Hid (w1.heap.size ≤ D) := by rw [hD]; exact Below.size HR0.out
      obtain ⟨v1, hv1⟩ : ∃ v, v = v0.alloc (.cells #[.int .i64 0, .slice none 0 0, .slice none 0 0] 34) := ⟨_, rfl⟩
      rw [← hv1] at HR1 ZD1  ⊢
      rw [← hD] at ZD1 ⊢
      clear hD hv1
      simp only [Act.put, List.setIfInBounds_toArray, List.set_cons_zero, List.set_cons_succ]
      refine wpAnyH_ready (rs := [2, 4]) (by kernel_rfl) (by simp) ?_
      refine node_make24 9 8 n cs rfl rfl rfl rfl rfl HMK.out trivial (fun hHeld => ?_) ?_
      · have HR2 := hid (Below.alloc HR1.out (Below.size HR1.out) (.cells cs 3))
        have Zb12 := hid (heap_alloc_new v1 (.cells cs 3))
        have ZD2 := hid ((Below.heap_alloc v1 (.cells cs 3) D (heap_lt ZD1.out)).trans ZD1.out)
        obtain ⟨b1, hb1⟩ : ∃ b, b = v1.heap.size := ⟨_, rfl⟩
        have Gb1 : Hid (w1.heap.size ≤ b1) := by rw [hb1]; exact Below.size HR1.out
        have NDb1 : Hid (D ≠ b1) := by have := heap_lt ZD1.out; show _ ≠ _; omega
        obtain ⟨v2, hv2⟩ : ∃ v, v = v1.alloc (.cells cs 3) := ⟨_, rfl⟩
        rw [← hv2] at HR2 Zb12 ZD2 ⊢
        rw [← hb1] at Zb12 ⊢
        clear hb1 hv2
        simp only [Act.put, List.setIfInBounds_toArray, List.set_cons_zero, List.set_cons_succ]
        refine wpAnyH_ready (rs := [4]) (by kernel_rfl) (by simp) ?_
        refine node_make24 11 10 n cs rfl rfl rfl rfl rfl HMK.out trivial (fun hHeld => ?_) AllReadyH.nil
        · have HR3 := hid (Below.alloc HR2.out (Below.size HR2.out) (.cells cs 3))
          have Zb23 := hid (heap_alloc_new v2 (.cells cs 3))
          have Zb13 := hid ((Below.heap_alloc v2 (.cells cs 3) b1 (heap_lt Zb12.out)).trans Zb12.out)
          have ZD3 := hid ((Below.heap_alloc v2 (.cells cs 3) D (heap_lt ZD2.out)).trans ZD2.out)
          obtain ⟨b2, hb2⟩ : ∃ b, b = v2.heap.size := ⟨_, rfl⟩
          have Gb2 : Hid (w1.heap.size ≤ b2) := by rw [hb2]; exact Below.size HR2.out
          have Nb1b2 : Hid (b1 ≠ b2) := by have := heap_lt Zb12.out; show _ ≠ _; omega
          have NDb2 : Hid (D ≠ b2) := by have := heap_lt ZD2.out; show _ ≠ _; omega
          obtain ⟨v3, hv3⟩ : ∃ v, v = v2.alloc (.cells cs 3) := ⟨_, rfl⟩
          rw [← hv3] at HR3 Zb23 Zb13 ZD3 ⊢
          rw [← hb2] at Zb23 ⊢
          clear hb2 hv3
          simp only [Act.put, List.setIfInBounds_toArray, List.set_cons_zero, List.set_cons_succ]
          refine take_at (i := 5) 12 (v := .agg #[.int .i64 n, .slice (some ⟨b1, 0, none⟩) n n, .slice (some ⟨b2, 0, none⟩) n n]) rfl (by kernel_rfl) (by kernel_rfl) (by kernel_rfl) rfl (fun _ _ _ h => h) (by rfl) (fun w hSw => ?_) hHeld ?_
          · (try dsimp only at hSw); go_simp
          simp only [Act.put, List.setIfInBounds_toArray, List.set_cons_zero, List.set_cons_succ]
          refine wpAnyH_ready (rs := [7]) (by kernel_rfl) (by simp) ?_
          refine node_store34 5 12 D _ _ _ _ _ _ _ _ _ _ rfl rfl rfl rfl rfl rfl ZD3.out trivial ?_ AllReadyH.nil
          · have HR4 := hid (below_store3 (x := .int .i64 (n : Int)) (y := .slice (some ⟨b1, 0, none⟩) n n) (z := .slice (some ⟨b2, 0, none⟩) n n) HR3.out GD.out)
            have ZD4 := hid (store3 (x := .int .i64 (n : Int)) (y := .slice (some ⟨b1, 0, none⟩) n n) (z := .slice (some ⟨b2, 0, none⟩) n n) ZD3.out)
            have Zb14 := hid ((heap_store3n (W := v3) NDb1.out.symm (.int .i64 (n : Int)) (.slice (some ⟨b1, 0, none⟩) n n) (.slice (some ⟨b2, 0, none⟩) n n)).trans Zb13.out)
            have Zb24 := hid ((heap_store3n (W := v3) NDb2.out.symm (.int .i64 (n : Int)) (.slice (some ⟨b1, 0, none⟩) n n) (.slice (some ⟨b2, 0, none⟩) n n)).trans Zb23.out)
            have HRO := hid (rdo_start (n := n) HCS.out ZD4.out Zb14.out Zb24.out Nb1b2.out ⟨NDb1.out, NDb2.out⟩ Gb1.out Gb2.out HR4.out hn12)
            obtain ⟨wx, hwx⟩ : ∃ v, v = (((v3.setCell ⟨D, 0, none⟩ (.int .i64 (n : Int))).setCell ⟨D, 1, none⟩ (.slice (some ⟨b1, 0, none⟩) n n)).setCell ⟨D, 2, none⟩ (.slice (some ⟨b2, 0, none⟩) n n)) := ⟨_, rfl⟩
            rw [← hwx] at HRO ⊢
            refine wpAnyH_done (by kernel_rfl) ?_ _
            clear hHeld
            go_wp2_with fail
            go_meet
            exact ⟨D, b1, b2, rfl, HRO⟩
      refine node_make24 11 10 n cs rfl rfl rfl rfl rfl HMK.out trivial (fun hHeld => ?_) AllReadyH.nil
      · have HR2 := hid (Below.alloc HR1.out (Below.size HR1.out) (.cells cs 3))
        have Zb22 := hid (heap_alloc_new v1 (.cells cs 3))
        have ZD2 := hid ((Below.heap_alloc v1 (.cells cs 3) D (heap_lt ZD1.out)).trans ZD1.out)
        obtain ⟨b2, hb2⟩ : ∃ b, b = v1.heap.size := ⟨_, rfl⟩
        have Gb2 : Hid (w1.heap.size ≤ b2) := by rw [hb2]; exact Below.size HR1.out
        have NDb2 : Hid (D ≠ b2) := by have := heap_lt ZD1.out; show _ ≠ _; omega
        obtain ⟨v2, hv2⟩ : ∃ v, v = v1.alloc (.cells cs 3) := ⟨_, rfl⟩
        rw [← hv2] at HR2 Zb22 ZD2 ⊢
        rw [← hb2] at Zb22 ⊢
        clear hb2 hv2
        simp only [Act.put, List.setIfInBounds_toArray, List.set_cons_zero, List.set_cons_succ]
        refine wpAnyH_ready (rs := [2]) (by kernel_rfl) (by simp) ?_
        refine node_make24 9 8 n cs rfl rfl rfl rfl rfl HMK.out trivial (fun hHeld => ?_) AllReadyH.nil
        · have HR3 := hid (Below.alloc HR2.out (Below.size HR2.out) (.cells cs 3))
          have Zb13 := hid (heap_alloc_new v2 (.cells cs 3))
          have Zb23 := hid ((Below.heap_alloc v2 (.cells cs 3) b2 (heap_lt Zb22.out)).trans Zb22.out)
          have ZD3 := hid ((Below.heap_alloc v2 (.cells cs 3) D (heap_lt ZD2.out)).trans ZD2.out)
          obtain ⟨b1, hb1⟩ : ∃ b, b = v2.heap.size := ⟨_, rfl⟩
          have Gb1 : Hid (w1.heap.size ≤ b1) := by rw [hb1]; exact Below.size HR2.out
          have Nb2b1 : Hid (b2 ≠ b1) := by have := heap_lt Zb22.out; show _ ≠ _; omega
          have NDb1 : Hid (D ≠ b1) := by have := heap_lt ZD2.out; show _ ≠ _; omega
          obtain ⟨v3, hv3⟩ : ∃ v, v = v2.alloc (.cells cs 3) := ⟨_, rfl⟩
          rw [← hv3] at HR3 Zb13 Zb23 ZD3 ⊢
          rw [← hb1] at Zb13 ⊢
          clear hb1 hv3
          simp only [Act.put, List.setIfInBounds_toArray, List.set_cons_zero, List.set_cons_succ]
          refine take_at (i := 5) 12 (v := .agg #[.int .i64 n, .slice (some ⟨b1, 0, none⟩) n n, .slice (some ⟨b2, 0, none⟩) n n]) rfl (by kernel_rfl) (by kernel_rfl) (by kernel_rfl) rfl (fun _ _ _ h => h) (by rfl) (fun w hSw => ?_) hHeld ?_
          · (try dsimp only at hSw); go_simp
          simp only [Act.put, List.setIfInBounds_toArray, List.set_cons_zero, List.set_cons_succ]
          refine wpAnyH_ready (rs := [7]) (by kernel_rfl) (by simp) ?_
          refine node_store34 5 12 D _ _ _ _ _ _ _ _ _ _ rfl rfl rfl rfl rfl rfl ZD3.out trivial ?_ AllReadyH.nil
          · have HR4 := hid (below_store3 (x := .int .i64 (n : Int)) (y := .slice (some ⟨b1, 0, none⟩) n n) (z := .slice (some ⟨b2, 0, none⟩) n n) HR3.out GD.out)
            have ZD4 := hid (store3 (x := .int .i64 (n : Int)) (y := .slice (some ⟨b1, 0, none⟩) n n) (z := .slice (some ⟨b2, 0, none⟩) n n) ZD3.out)
            have Zb14 := hid ((heap_store3n (W := v3) NDb1.out.symm (.int .i64 (n : Int)) (.slice (some ⟨b1, 0, none⟩) n n) (.slice (some ⟨b2, 0, none⟩) n n)).trans Zb13.out)
            have Zb24 := hid ((heap_store3n (W := v3) NDb2.out.symm (.int .i64 (n : Int)) (.slice (some ⟨b1, 0, none⟩) n n) (.slice (some ⟨b2, 0, none⟩) n n)).trans Zb23.out)
            have HRO := hid (rdo_start (n := n) HCS.out ZD4.out Zb14.out Zb24.out Nb2b1.out.symm ⟨NDb1.out, NDb2.out⟩ Gb1.out Gb2.out HR4.out hn12)
            obtain ⟨wx, hwx⟩ : ∃ v, v = (((v3.setCell ⟨D, 0, none⟩ (.int .i64 (n : Int))).setCell ⟨D, 1, none⟩ (.slice (some ⟨b1, 0, none⟩) n n)).setCell ⟨D, 2, none⟩ (.slice (some ⟨b2, 0, none⟩) n n)) := ⟨_, rfl⟩
            rw [← hwx] at HRO ⊢
            refine wpAnyH_done (by kernel_rfl) ?_ _
            clear hHeld
            go_wp2_with fail
            go_meet
            exact ⟨D, b1, b2, rfl, HRO⟩
  case rest =>
    obtain ⟨D, b1, b2, rfl, HRD⟩ := hcut
    rename World => wc
    have HEND : Hid (l.take l.length = l) := List.take_length
    go_wp2_with fail
    go_loopw [6] (fun cv wr => ∃ i : Nat, cv = .int .i64 i ∧ i ≤ l.length ∧ Hid (Rdo w1 wr D b1 b2 n (dsp n (l.take i)))) (fun cv _ => l.length - (intOf cv).toNat)
    case atStart => exact ⟨0, rfl, Nat.zero_le _, HRD⟩
    case round =>
      obtain ⟨i, rfl, hi, HRr⟩ := hrel
      rename World => wr
      by_cases hlt : i < l.length
      · obtain ⟨g, rfl, -, -, -⟩ := isPr_at (isPr_below HV.out HRr.out.blo) i hlt
        have HLC : Hid (∀ w', Below w1.heap.size w1 w' → w'.cell? ⟨g, i * 2, none⟩ = some (.int .i64 (prAt l i).1) ∧ w'.cell? ⟨g, i * 2 + 1, none⟩ = some (.int .i64 (prAt l i).2)) := fun w' hb => by
          obtain ⟨g', e, -, d0, d1⟩ := isPr_at (isPr_below HV.out hb) i hlt
          cases e
          exact ⟨d0, d1⟩
        have hgl : g < w1.heap.size := by
          obtain ⟨g', e, -, d0, -⟩ := isPr_at HV.out i hlt
          cases e
          exact World.block_lt_of_cell? w1 _ d0
        have HT1 := hid (take_pr l i hlt)
        have hin := HIN.out (prAt l i) (by unfold prAt; rw [List.getD_eq_getElem?_getD, List.getElem?_eq_getElem hlt]; exact List.getElem_mem hlt)
        generalize prAt l i = pr at *
        obtain ⟨x, y⟩ := pr
        dsimp only at HLC
        have hin2 : 0 ≤ x ∧ x < (n : Int) ∧ 0 ≤ y ∧ y < (n : Int) := of_decide_eq_true hin
        obtain ⟨A, rfl⟩ : ∃ A : Nat, x = (A : Int) := ⟨x.toNat, by omega⟩
        obtain ⟨B, rfl⟩ : ∃ B : Nat, y = (B : Int) := ⟨y.toNat, by omega⟩
        have hA : A < n := by omega
        have hB : B < n := by omega
        clear hin hin2
        obtain ⟨pA, hpA⟩ : ∃ p, p = 2 ^ A := ⟨_, rfl⟩
        obtain ⟨pB, hpB⟩ : ∃ p, p = 2 ^ B := ⟨_, rfl⟩
        obtain ⟨x0, hx0'⟩ : ∃ z, z = (byL (dsp n (l.take i))).getD A 0 := ⟨_, rfl⟩
        obtain ⟨x1, hx1'⟩ : ∃ z, z = (fromL (dsp n (l.take i))).getD B 0 := ⟨_, rfl⟩
        have HSHA : Hid (IntKind.i64.wrap (2 ^ A) = (pA : Int)) := by rw [hpA]; exact wrap64 (show A < 62 by omega)
        have HSHB : Hid (IntKind.i64.wrap (2 ^ B) = (pB : Int)) := by rw [hpB]; exact wrap64 (show B < 62 by omega)
        have hq1 := byL_lt (dsp n (l.take i)) hn12 A
        have hq2 := fromL_lt (dsp n (l.take i)) hn12 B
        rw [← hx0'] at hq1
        rw [← hx1'] at hq2
        have hq3 : pA < 65536 := by rw [hpA]; exact Nat.lt_of_le_of_lt (pow_small (show A ≤ 12 by omega)) (by decide)
        have hq4 : pB < 65536 := by rw [hpB]; exact Nat.lt_of_le_of_lt (pow_small (show B ≤ 12 by omega)) (by decide)
        obtain ⟨y0, hy0'⟩ : ∃ z, z = x0 ||| pB := ⟨_, rfl⟩
        obtain ⟨y1, hy1'⟩ : ∃ z, z = x1 ||| pA := ⟨_, rfl⟩
        have HOR1 : Hid (bits .or .i64 (x0 : Int) (pB : Int) = (y0 : Int)) := by rw [hy0']; exact or64 (by omega) (by omega)
        have HOR2 : Hid (bits .or .i64 (x1 : Int) (pA : Int) = (y1 : Int)) := by rw [hy1']; exact or64 (by omega) (by omega)
        have HX1 : Hid (∀ w', Rdo w1 w' D b1 b2 n (dsp n (l.take i)) → w'.cell? ⟨b1, A, none⟩ = some (.int .i64 (x0 : Int)) ∧ w'.frozen? ⟨b1, A, none⟩ = false) := fun w' h => by rw [hx0']; exact h.by_at hA
        have HX2 : Hid (∀ w', Rdp w1 w' D b1 b2 n (dsp n (l.take i)) (dsp n (l.take i ++ [((A : Int), (B : Int))])) → w'.cell? ⟨b2, B, none⟩ = some (.int .i64 (x1 : Int)) ∧ w'.frozen? ⟨b2, B, none⟩ = false) := fun w' h => by rw [hx1']; exact h.fr_at hB
        have ST1 : Hid (∀ w', Rdo w1 w' D b1 b2 n (dsp n (l.take i)) → Rdp w1 (w'.setCell ⟨b1, A, none⟩ (.int .i64 (y0 : Int))) D b1 b2 n (dsp n (l.take i)) (dsp n (l.take i ++ [((A : Int), (B : Int))]))) := fun w' h => by rw [hy0', hx0', hpB]; exact h.set1 hA hB
        have ST2 : Hid (∀ w', Rdp w1 w' D b1 b2 n (dsp n (l.take i)) (dsp n (l.take i ++ [((A : Int), (B : Int))])) → Rdo w1 (w'.setCell ⟨b2, B, none⟩ (.int .i64 (y1 : Int))) D b1 b2 n (dsp n (l.take i ++ [((A : Int), (B : Int))]))) := fun w' h => by rw [hy1', hx1', hpA]; exact h.set2 hA hB
        have KP1 : Hid (∀ w', Rdo w1 w' D b1 b2 n (dsp n (l.take i)) → w'.cell? ⟨D, 0, none⟩ = some (.int .i64 n) ∧ w'.cell? ⟨D, 1, none⟩ = some (.slice (some ⟨b1, 0, none⟩) n n) ∧ w'.cell? ⟨D, 2, none⟩ = some (.slice (some ⟨b2, 0, none⟩) n n) ∧ w'.cell? ⟨g, i * 2, none⟩ = some (.int .i64 (A : Int)) ∧ w'.cell? ⟨g, i * 2 + 1, none⟩ = some (.int .i64 (B : Int))) := fun w' h => by
          obtain ⟨k0, k1, k2⟩ := hRO_cells h
          exact ⟨k0, k1, k2, (HLC.out w' h.blo).1, (HLC.out w' h.blo).2⟩
        have KP2 : Hid (∀ w', Rdp w1 w' D b1 b2 n (dsp n (l.take i)) (dsp n (l.take i ++ [((A : Int), (B : Int))])) → w'.cell? ⟨D, 0, none⟩ = some (.int .i64 n) ∧ w'.cell? ⟨D, 1, none⟩ = some (.slice (some ⟨b1, 0, none⟩) n n) ∧ w'.cell? ⟨D, 2, none⟩ = some (.slice (some ⟨b2, 0, none⟩) n n) ∧ w'.cell? ⟨g, i * 2, none⟩ = some (.int .i64 (A : Int)) ∧ w'.cell? ⟨g, i * 2 + 1, none⟩ = some (.int .i64 (B : Int))) := fun w' h => by
          obtain ⟨k0, k1, k2⟩ := hRP_cells h
          exact ⟨k0, k1, k2, (HLC.out w' h.blo).1, (HLC.out w' h.blo).2⟩
        have KP1s : Hid (∀ w', Rdo w1 w' D b1 b2 n (dsp n (l.take i)) → (w'.setCell ⟨b1, A, none⟩ (.int .i64 (y0 : Int))).cell? ⟨D, 0, none⟩ = some (.int .i64 n) ∧ (w'.setCell ⟨b1, A, none⟩ (.int .i64 (y0 : Int))).cell? ⟨D, 1, none⟩ = some (.slice (some ⟨b1, 0, none⟩) n n) ∧ (w'.setCell ⟨b1, A, none⟩ (.int .i64 (y0 : Int))).cell? ⟨D, 2, none⟩ = some (.slice (some ⟨b2, 0, none⟩) n n) ∧ (w'.setCell ⟨b1, A, none⟩ (.int .i64 (y0 : Int))).cell? ⟨g, i * 2, none⟩ = some (.int .i64 (A : Int)) ∧ (w'.setCell ⟨b1, A, none⟩ (.int .i64 (y0 : Int))).cell? ⟨g, i * 2 + 1, none⟩ = some (.int .i64 (B : Int))) := fun w' h => KP2.out _ (ST1.out w' h)
        have KP3 : Hid (∀ w', Rdo w1 w' D b1 b2 n (dsp n (l.take i ++ [((A : Int), (B : Int))])) → w'.cell? ⟨D, 0, none⟩ = some (.int .i64 n) ∧ w'.cell? ⟨D, 1, none⟩ = some (.slice (some ⟨b1, 0, none⟩) n n) ∧ w'.cell? ⟨D, 2, none⟩ = some (.slice (some ⟨b2, 0, none⟩) n n) ∧ w'.cell? ⟨g, i * 2, none⟩ = some (.int .i64 (A : Int)) ∧ w'.cell? ⟨g, i * 2 + 1, none⟩ = some (.int .i64 (B : Int))) := fun w' h => by
          obtain ⟨k0, k1, k2⟩ := hRO_cells h
          exact ⟨k0, k1, k2, (HLC.out w' h.blo).1, (HLC.out w' h.blo).2⟩
        have KP2s : Hid (∀ w', Rdp w1 w' D b1 b2 n (dsp n (l.take i)) (dsp n (l.take i ++ [((A : Int), (B : Int))])) → (w'.setCell ⟨b2, B, none⟩ (.int .i64 (y1 : Int))).cell? ⟨D, 0, none⟩ = some (.int .i64 n) ∧ (w'.setCell ⟨b2, B, none⟩ (.int .i64 (y1 : Int))).cell? ⟨D, 1, none⟩ = some (.slice (some ⟨b1, 0, none⟩) n n) ∧ (w'.setCell ⟨b2, B, none⟩ (.int .i64 (y1 : Int))).cell? ⟨D, 2, none⟩ = some (.slice (some ⟨b2, 0, none⟩) n n) ∧ (w'.setCell ⟨b2, B, none⟩ (.int .i64 (y1 : Int))).cell? ⟨g, i * 2, none⟩ = some (.int .i64 (A : Int)) ∧ (w'.setCell ⟨b2, B, none⟩ (.int .i64 (y1 : Int))).cell? ⟨g, i * 2 + 1, none⟩ = some (.int .i64 (B : Int))) := fun w' h => KP3.out _ (ST2.out w' h)
        clear hpA hpB hx0' hx1' hy0' hy1' HIN HRD
        have hA0 : (0 : Int) ≤ (A : Int) := by omega
        have hB0 : (0 : Int) ≤ (B : Int) := by omega
        have hA64 : (A : Int) < 64 := by omega
        have hB64 : (B : Int) < 64 := by omega
        go_upto_region 5 with fail
        refine wp_region_held_drew (S := fun w' => w'.cell? ⟨D, 0, none⟩ = some (.int .i64 n) ∧ w'.cell? ⟨D, 1, none⟩ = some (.slice (some ⟨b1, 0, none⟩) n n) ∧ w'.cell? ⟨D, 2, none⟩ = some (.slice (some ⟨b2, 0, none⟩) n n) ∧ w'.cell? ⟨g, i * 2, none⟩ = some (.int .i64 (A : Int)) ∧ w'.cell? ⟨g, i * 2 + 1, none⟩ = some (.int .i64 (B : Int))) (by kernel_rfl) (KP1.out _ (HRr.out.below ((Below.refl _ _).drew))) (fun hHeld => ?_)
        have HU0 := hid (HRr.out.below ((Below.refl _ _).drew))
        generalize wr.drew = u0 at *
        refine take_at (i := 0) 19 (v := .pointer (some ⟨D, 1, none⟩)) rfl (by kernel_rfl) (by kernel_rfl) (by kernel_rfl) rfl (fun _ _ _ h => h) (by rfl) (fun w hSw => ?_) hHeld ?_
        · (try dsimp only at hSw); go_simp
        simp only [Act.put, List.setIfInBounds_toArray, List.set_cons_zero, List.set_cons_succ]
        refine take_at (i := 1) 20 (v := .slice (some ⟨b1, 0, none⟩) n n) rfl (by kernel_rfl) (by kernel_rfl) (by kernel_rfl) rfl (fun _ _ _ h => h) (by rfl) (fun w hSw => ?_) hHeld ?_
        · (try dsimp only at hSw); go_simp
        simp only [Act.put, List.setIfInBounds_toArray, List.set_cons_zero, List.set_cons_succ]
        refine take_at (i := 2) 21 (v := .slice (some ⟨g, 0, none⟩) l.length c) rfl (by kernel_rfl) (by kernel_rfl) (by kernel_rfl) rfl (fun _ _ _ h => h) (by rfl) (fun w hSw => ?_) hHeld ?_
        · (try dsimp only at hSw); go_simp
        simp only [Act.put, List.setIfInBounds_toArray, List.set_cons_zero, List.set_cons_succ]
        refine take_at (i := 3) 22 (v := .int .i64 i) rfl (by kernel_rfl) (by kernel_rfl) (by kernel_rfl) rfl (fun _ _ _ h => h) (by rfl) (fun w hSw => ?_) hHeld ?_
        · (try dsimp only at hSw); go_simp
        simp only [Act.put, List.setIfInBounds_toArray, List.set_cons_zero, List.set_cons_succ]
        refine take_at (i := 4) 23 (v := .pointer (some ⟨g, i * 2, none⟩)) rfl (by kernel_rfl) (by kernel_rfl) (by kernel_rfl) rfl (fun _ _ _ h => h) (by rfl) (fun w hSw => ?_) hHeld ?_
        · (try dsimp only at hSw); go_simp
        simp only [Act.put, List.setIfInBounds_toArray, List.set_cons_zero, List.set_cons_succ]
        refine take_at (i := 5) 24 (v := .pointer (some ⟨g, i * 2, none⟩)) rfl (by kernel_rfl) (by kernel_rfl) (by kernel_rfl) rfl (fun _ _ _ h => h) (by rfl) (fun w hSw => ?_) hHeld ?_
        · (try dsimp only at hSw); go_simp
        simp only [Act.put, List.setIfInBounds_toArray, List.set_cons_zero, List.set_cons_succ]
        refine take_at (i := 6) 25 (v := .int .i64 (A : Int)) rfl (by kernel_rfl) (by kernel_rfl) (by kernel_rfl) rfl (fun _ _ _ h => h) (by rfl) (fun w hSw => ?_) hHeld ?_
        · (try dsimp only at hSw); go_simp
        simp only [Act.put, List.setIfInBounds_toArray, List.set_cons_zero, List.set_cons_succ]
        refine take_at (i := 7) 26 (v := .pointer (some ⟨b1, A, none⟩)) rfl (by kernel_rfl) (by kernel_rfl) (by kernel_rfl) rfl (fun _ _ _ h => h) (by rfl) (fun w hSw => ?_) hHeld ?_
        · (try dsimp only at hSw); go_simp
        simp only [Act.put, List.setIfInBounds_toArray, List.set_cons_zero, List.set_cons_succ]
        refine take_at (i := 9) 28 (v := .slice (some ⟨g, 0, none⟩) l.length c) rfl (by kernel_rfl) (by kernel_rfl) (by kernel_rfl) rfl (fun _ _ _ h => h) (by rfl) (fun w hSw => ?_) hHeld ?_
        · (try dsimp only at hSw); go_simp
        simp only [Act.put, List.setIfInBounds_toArray, List.set_cons_zero, List.set_cons_succ]
        refine take_at (i := 10) 29 (v := .int .i64 i) rfl (by kernel_rfl) (by kernel_rfl) (by kernel_rfl) rfl (fun _ _ _ h => h) (by rfl) (fun w hSw => ?_) hHeld ?_
        · (try dsimp only at hSw); go_simp
        simp only [Act.put, List.setIfInBounds_toArray, List.set_cons_zero, List.set_cons_succ]
        refine take_at (i := 11) 30 (v := .pointer (some ⟨g, i * 2, none⟩)) rfl (by kernel_rfl) (by kernel_rfl) (by kernel_rfl) rfl (fun _ _ _ h => h) (by rfl) (fun w hSw => ?_) hHeld ?_
        · (try dsimp only at hSw); go_simp
        simp only [Act.put, List.setIfInBounds_toArray, List.set_cons_zero, List.set_cons_succ]
        refine take_at (i := 12) 31 (v := .pointer (some ⟨g, i * 2 + 1, none⟩)) rfl (by kernel_rfl) (by kernel_rfl) (by kernel_rfl) rfl (fun _ _ _ h => h) (by rfl) (fun w hSw => ?_) hHeld ?_
        · (try dsimp only at hSw); go_simp
        simp only [Act.put, List.setIfInBounds_toArray, List.set_cons_zero, List.set_cons_succ]
        refine take_at (i := 13) 32 (v := .int .i64 (B : Int)) rfl (by kernel_rfl) (by kernel_rfl) (by kernel_rfl) rfl (fun _ _ _ h => h) (by rfl) (fun w hSw => ?_) hHeld ?_
        · (try dsimp only at hSw); go_simp
        simp only [Act.put, List.setIfInBounds_toArray, List.set_cons_zero, List.set_cons_succ]
        refine take_at (i := 14) 33 (v := .int .i64 (pB : Int)) rfl (by kernel_rfl) (by kernel_rfl) (by kernel_rfl) rfl (fun _ _ _ h => h) (by rfl) (fun w hSw => ?_) hHeld ?_
        · (try dsimp only at hSw); go_simp; first | done | exact HSHB.out | (rw [HSHB.out])
        simp only [Act.put, List.setIfInBounds_toArray, List.set_cons_zero, List.set_cons_succ]
        refine wpAnyH_ready (rs := [8]) (by kernel_rfl) (by simp) ?_
        refine node_load3 27 26 _ _ rfl rfl rfl rfl rfl (HX1.out _ HU0.out).1 (KP1.out _ HU0.out) ?_ AllReadyH.nil
        · skip
          simp only [Act.put, List.setIfInBounds_toArray, List.set_cons_zero, List.set_cons_succ]
          refine take_at (i := 15) 34 (v := .int .i64 (y0 : Int)) rfl (by kernel_rfl) (by kernel_rfl) (by kernel_rfl) rfl (fun _ _ _ h => h) (by rfl) (fun w hSw => ?_) hHeld ?_
          · (try dsimp only at hSw); go_simp; rw [HOR1.out]
          simp only [Act.put, List.setIfInBounds_toArray, List.set_cons_zero, List.set_cons_succ]
          refine take_at (i := 16) 35 (v := .pointer (some ⟨b1, A, none⟩)) rfl (by kernel_rfl) (by kernel_rfl) (by kernel_rfl) rfl (fun _ _ _ h => h) (by rfl) (fun w hSw => ?_) hHeld ?_
          · (try dsimp only at hSw); go_simp
          simp only [Act.put, List.setIfInBounds_toArray, List.set_cons_zero, List.set_cons_succ]
          refine wpAnyH_ready (rs := [17]) (by kernel_rfl) (by simp) ?_
          refine node_store3 35 34 b1 A _ _ rfl rfl rfl rfl rfl rfl (HX1.out _ HU0.out).1 (HX1.out _ HU0.out).2 (KP1s.out _ HU0.out) ?_ AllReadyH.nil
          · skip
            refine wpAnyH_done (by kernel_rfl) ?_ _
            clear hHeld
            have HZ := hid (ST1.out _ HU0.out)
            obtain ⟨wz, hwz⟩ : ∃ wz, wz = u0.setCell ⟨b1, A, none⟩ (.int .i64 (y0 : Int)) := ⟨_, rfl⟩
            rw [← hwz] at HZ ⊢
            clear hwz
            clear HU0
            go_upto_region 6 with fail
            refine wp_region_held_drew (S := fun w' => w'.cell? ⟨D, 0, none⟩ = some (.int .i64 n) ∧ w'.cell? ⟨D, 1, none⟩ = some (.slice (some ⟨b1, 0, none⟩) n n) ∧ w'.cell? ⟨D, 2, none⟩ = some (.slice (some ⟨b2, 0, none⟩) n n) ∧ w'.cell? ⟨g, i * 2, none⟩ = some (.int .i64 (A : Int)) ∧ w'.cell? ⟨g, i * 2 + 1, none⟩ = some (.int .i64 (B : Int))) (by kernel_rfl) (KP2.out _ (HZ.out.below ((Below.refl _ _).drew))) (fun hHeld => ?_)
            have HU0 := hid (HZ.out.below ((Below.refl _ _).drew))
            generalize wz.drew = u0 at *
            refine take_at (i := 0) 36 (v := .pointer (some ⟨D, 2, none⟩)) rfl (by kernel_rfl) (by kernel_rfl) (by kernel_rfl) rfl (fun _ _ _ h => h) (by rfl) (fun w hSw => ?_) hHeld ?_
            · (try dsimp only at hSw); go_simp
            simp only [Act.put, List.setIfInBounds_toArray, List.set_cons_zero, List.set_cons_succ]
            refine take_at (i := 1) 37 (v := .slice (some ⟨b2, 0, none⟩) n n) rfl (by kernel_rfl) (by kernel_rfl) (by kernel_rfl) rfl (fun _ _ _ h => h) (by rfl) (fun w hSw => ?_) hHeld ?_
            · (try dsimp only at hSw); go_simp
            simp only [Act.put, List.setIfInBounds_toArray, List.set_cons_zero, List.set_cons_succ]
            refine take_at (i := 2) 38 (v := .slice (some ⟨g, 0, none⟩) l.length c) rfl (by kernel_rfl) (by kernel_rfl) (by kernel_rfl) rfl (fun _ _ _ h => h) (by rfl) (fun w hSw => ?_) hHeld ?_
            · (try dsimp only at hSw); go_simp
            simp only [Act.put, List.setIfInBounds_toArray, List.set_cons_zero, List.set_cons_succ]
            refine take_at (i := 3) 39 (v := .int .i64 i) rfl (by kernel_rfl) (by kernel_rfl) (by kernel_rfl) rfl (fun _ _ _ h => h) (by rfl) (fun w hSw => ?_) hHeld ?_
            · (try dsimp only at hSw); go_simp
            simp only [Act.put, List.setIfInBounds_toArray, List.set_cons_zero, List.set_cons_succ]
            refine take_at (i := 4) 40 (v := .pointer (some ⟨g, i * 2, none⟩)) rfl (by kernel_rfl) (by kernel_rfl) (by kernel_rfl) rfl (fun _ _ _ h => h) (by rfl) (fun w hSw => ?_) hHeld ?_
            · (try dsimp only at hSw); go_simp
            simp only [Act.put, List.setIfInBounds_toArray, List.set_cons_zero, List.set_cons_succ]
            refine take_at (i := 5) 41 (v := .pointer (some ⟨g, i * 2 + 1, none⟩)) rfl (by kernel_rfl) (by kernel_rfl) (by kernel_rfl) rfl (fun _ _ _ h => h) (by rfl) (fun w hSw => ?_) hHeld ?_
            · (try dsimp only at hSw); go_simp
            simp only [Act.put, List.setIfInBounds_toArray, List.set_cons_zero, List.set_cons_succ]
            refine take_at (i := 6) 42 (v := .int .i64 (B : Int)) rfl (by kernel_rfl) (by kernel_rfl) (by kernel_rfl) rfl (fun _ _ _ h => h) (by rfl) (fun w hSw => ?_) hHeld ?_
            · (try dsimp only at hSw); go_simp
            simp only [Act.put, List.setIfInBounds_toArray, List.set_cons_zero, List.set_cons_succ]
            refine take_at (i := 7) 43 (v := .pointer (some ⟨b2, B, none⟩)) rfl (by kernel_rfl) (by kernel_rfl) (by kernel_rfl) rfl (fun _ _ _ h => h) (by rfl) (fun w hSw => ?_) hHeld ?_
            · (try dsimp only at hSw); go_simp
            simp only [Act.put, List.setIfInBounds_toArray, List.set_cons_zero, List.set_cons_succ]
            refine take_at (i := 9) 45 (v := .slice (some ⟨g, 0, none⟩) l.length c) rfl (by kernel_rfl) (by kernel_rfl) (by kernel_rfl) rfl (fun _ _ _ h => h) (by rfl) (fun w hSw => ?_) hHeld ?_
            · (try dsimp only at hSw); go_simp
            simp only [Act.put, List.setIfInBounds_toArray, List.set_cons_zero, List.set_cons_succ]
            refine take_at (i := 10) 46 (v := .int .i64 i) rfl (by kernel_rfl) (by kernel_rfl) (by kernel_rfl) rfl (fun _ _ _ h => h) (by rfl) (fun w hSw => ?_) hHeld ?_
            · (try dsimp only at hSw); go_simp
            simp only [Act.put, List.setIfInBounds_toArray, List.set_cons_zero, List.set_cons_succ]
            refine take_at (i := 11) 47 (v := .pointer (some ⟨g, i * 2, none⟩)) rfl (by kernel_rfl) (by kernel_rfl) (by kernel_rfl) rfl (fun _ _ _ h => h) (by rfl) (fun w hSw => ?_) hHeld ?_
            · (try dsimp only at hSw); go_simp
            simp only [Act.put, List.setIfInBounds_toArray, List.set_cons_zero, List.set_cons_succ]
            refine take_at (i := 12) 48 (v := .pointer (some ⟨g, i * 2, none⟩)) rfl (by kernel_rfl) (by kernel_rfl) (by kernel_rfl) rfl (fun _ _ _ h => h) (by rfl) (fun w hSw => ?_) hHeld ?_
            · (try dsimp only at hSw); go_simp
            simp only [Act.put, List.setIfInBounds_toArray, List.set_cons_zero, List.set_cons_succ]
            refine take_at (i := 13) 49 (v := .int .i64 (A : Int)) rfl (by kernel_rfl) (by kernel_rfl) (by kernel_rfl) rfl (fun _ _ _ h => h) (by rfl) (fun w hSw => ?_) hHeld ?_
            · (try dsimp only at hSw); go_simp
            simp only [Act.put, List.setIfInBounds_toArray, List.set_cons_zero, List.set_cons_succ]
            refine take_at (i := 14) 50 (v := .int .i64 (pA : Int)) rfl (by kernel_rfl) (by kernel_rfl) (by kernel_rfl) rfl (fun _ _ _ h => h) (by rfl) (fun w hSw => ?_) hHeld ?_
            · (try dsimp only at hSw); go_simp; first | done | exact HSHA.out | (rw [HSHA.out])
            simp only [Act.put, List.setIfInBounds_toArray, List.set_cons_zero, List.set_cons_succ]
            refine wpAnyH_ready (rs := [8]) (by kernel_rfl) (by simp) ?_
            refine node_load3 44 43 _ _ rfl rfl rfl rfl rfl (HX2.out _ HU0.out).1 (KP2.out _ HU0.out) ?_ AllReadyH.nil
            · skip
              simp only [Act.put, List.setIfInBounds_toArray, List.set_cons_zero, List.set_cons_succ]
              refine take_at (i := 15) 51 (v := .int .i64 (y1 : Int)) rfl (by kernel_rfl) (by kernel_rfl) (by kernel_rfl) rfl (fun _ _ _ h => h) (by rfl) (fun w hSw => ?_) hHeld ?_
              · (try dsimp only at hSw); go_simp; rw [HOR2.out]
              simp only [Act.put, List.setIfInBounds_toArray, List.set_cons_zero, List.set_cons_succ]
              refine take_at (i := 16) 52 (v := .pointer (some ⟨b2, B, none⟩)) rfl (by kernel_rfl) (by kernel_rfl) (by kernel_rfl) rfl (fun _ _ _ h => h) (by rfl) (fun w hSw => ?_) hHeld ?_
              · (try dsimp only at hSw); go_simp
              simp only [Act.put, List.setIfInBounds_toArray, List.set_cons_zero, List.set_cons_succ]
              refine wpAnyH_ready (rs := [17]) (by kernel_rfl) (by simp) ?_
              refine node_store3 52 51 b2 B _ _ rfl rfl rfl rfl rfl rfl (HX2.out _ HU0.out).1 (HX2.out _ HU0.out).2 (KP2s.out _ HU0.out) ?_ AllReadyH.nil
              · skip
                refine wpAnyH_done (by kernel_rfl) ?_ _
                clear hHeld
                have HQ := hid (ST2.out _ HU0.out)
                go_wp2_with fail
                go_roundw
                case rel => exact ⟨i + 1, by go_num, by omega, by rw [HT1.out]; exact HQ.out⟩
                case measure => simp [intOf]; omega
      · obtain rfl : i = l.length := by omega
        rw [HEND.out] at HRr
        obtain ⟨k0, k1, k2⟩ := hRO_cells HRr.out
        have HRc := hid ((HRr.out.blo.block _ HRB.out.1).trans HRZ.out)
        obtain ⟨r0, r1, r2⟩ := cells3_of HRc.out
        obtain ⟨f0, f1, f2⟩ := free3_of HRc.out
        go_wp2_with fail
        obtain ⟨q0, q1, q2⟩ := cells3_of (store3 (x := .int .i64 (n : Int)) (y := .slice (some ⟨b1, 0, none⟩) n n) (z := .slice (some ⟨b2, 0, none⟩) n n) HRc.out)
        refine bodyPost_ret (v := .agg #[.int .i64 n, .slice (some ⟨b1, 0, none⟩) n n, .slice (some ⟨b2, 0, none⟩) n n]) (by simp [results, Try.results21, go_sem, q0, q1, q2]) rfl ?_
        have hle1 := ownV_le HRr.out.by_
        have hle2 := ownV_le HRr.out.fr
        have hn1' := HRB.out.1
        have hn2' := HRB.out.2
        refine ⟨b1, b2, rfl, ⟨hn1, hn12, fun j hj => ?_, fun j hj => ?_⟩, below_store3 ((HB1.out.trans (HRr.out.blo.mono HB1.out.size))) hn2'⟩
        · refine Eq.trans ?_ (HRr.out.by_at hj).1
          exact cell_same (heap_store3n (by omega) _ _ _)
        · refine Eq.trans ?_ (HRr.out.fr_at hj).1
          exact cell_same (heap_store3n (by omega) _ _ _)
section
open Go.ChangeShapes Go.WideShapes Go.Deep Go.Joins
/-- an argument that is a list of attacks ¦ of numbers -/
def ArgPr (w : World) (v : Value) (xs : List Pr) : Prop := xs.length ≤ maxLen ∧ ∃ a c, v = .slice a xs.length c ∧ xs.length ≤ c ∧ c ≤ maxLen ∧ ((a = none ∧ c = 0) ∨ ∃ ad, a = some ad ∧ (0 < xs.length → ad.block < w.heap.size) ∧ ∀ j u, (pcells xs)[j]? = some u → w.cell? (ad.add j) = some u)
def ArgIn (w : World) (v : Value) (xs : List Int) : Prop := xs.length ≤ maxLen ∧ ∃ a c, v = .slice a xs.length c ∧ xs.length ≤ c ∧ c ≤ maxLen ∧ ((a = none ∧ c = 0) ∨ ∃ ad, a = some ad ∧ (0 < xs.length → ad.block < w.heap.size) ∧ ∀ j u, (xs.map zv)[j]? = some u → w.cell? (ad.add j) = some u)
theorem argPr_below {w w' : World} {v : Value} {ms : List Pr} (h : ArgPr w v ms) (hb : Below w.heap.size w w') : ArgPr w' v ms := by
  obtain ⟨h1, a, c, h2, h3, h4, h5⟩ := h
  refine ⟨h1, a, c, h2, h3, h4, h5.imp_right ?_⟩
  rintro ⟨ad, e, hlt, hc⟩
  refine ⟨ad, e, fun h0 => Nat.lt_of_lt_of_le (hlt h0) hb.size, fun j u hj => ?_⟩
  have hk := (List.getElem?_eq_some_iff.1 hj).1
  rw [pcells_len] at hk
  exact (hb.cell (by rw [add_block]; exact hlt (by omega))).trans (hc j u hj)
theorem argIn_below {w w' : World} {v : Value} {ms : List Int} (h : ArgIn w v ms) (hb : Below w.heap.size w w') : ArgIn w' v ms := by
  obtain ⟨h1, a, c, h2, h3, h4, h5⟩ := h
  refine ⟨h1, a, c, h2, h3, h4, h5.imp_right ?_⟩
  rintro ⟨ad, e, hlt, hc⟩
  refine ⟨ad, e, fun h0 => Nat.lt_of_lt_of_le (hlt h0) hb.size, fun j u hj => ?_⟩
  have hk := (List.getElem?_eq_some_iff.1 hj).1
  rw [List.length_map] at hk
  exact (hb.cell (by rw [add_block]; exact hlt (by omega))).trans (hc j u hj)
section
variable {H : Type} {enc : TypeId × Value → H} {w : World} {base : Nat} {held : Bool}
theorem read_prs {n : Nat} {v : Value} {y : DataW H × List MemPlace} (h : DataW.trod enc Try.prog w base (fun _ => true) held n 22 [v] = some y) : ∃ js, ArgPr w v js := by
  have c55 : Try.prog.cellsOf 45 = 2 := by kernel_rfl
  have c3 : Try.prog.cellsOf 3 = 1 := by kernel_rfl
  rcases open_slice Try.underlying22 h with ⟨hcs, _⟩ | ⟨a, len, cap, m, n', D, Pl, hcs, _, hl, hm, hmm, _, hc⟩
  · simp only [List.cons.injEq, and_true] at hcs
    subst hcs
    exact ⟨[], by decide, none, 0, rfl, by simp, by decide, .inl ⟨rfl, rfl⟩⟩
  · simp only [List.cons.injEq, and_true] at hcs
    subst hcs
    simp only [if_true] at hmm
    have hx : ∀ i, ∃ q : Int × Int, i < len → (w.cell? (a.add (i * 2)) = some (.int .i64 q.1) ∧ w.cell? (a.add (i * 2 + 1)) = some (.int .i64 q.2)) := by
      intro i
      by_cases hi : i < len
      · obtain ⟨cs', hcs', ht⟩ := hc i (by omega)
        rw [c55] at hcs'
        obtain ⟨_, hlen, hat⟩ := World.cells?_some hcs'
        obtain ⟨y0, y1, n2, _, _, h0, h1⟩ := trod_struct2 Try.underlying45 ht
        simp only [c3] at h0 h1
        match cs', hlen with
        | [e0, e1], _ =>
          simp only [List.drop_zero, List.take_succ_cons, List.take_zero, List.drop_succ_cons] at h0 h1
          obtain ⟨z0, hz0, _, g0⟩ := DataW.trod_int Try.underlying3 h0
          obtain ⟨z1, hz1, _, g1⟩ := DataW.trod_int Try.underlying3 h1
          simp only [List.cons.injEq, and_true] at hz0 hz1
          subst hz0 hz1
          refine ⟨(z0, z1), fun _ => ⟨?_, ?_⟩⟩
          · have := hat 0 (by decide); rw [add_add] at this; exact this
          · have := hat 1 (by decide); rw [add_add] at this; exact this
      · exact ⟨(0, 0), fun h => absurd h hi⟩
    obtain ⟨F, hF⟩ := Classical.axiomOfChoice hx
    have hml : ((List.range len).map F).length = len := by simp
    refine ⟨(List.range len).map F, by rw [hml]; omega, some a, cap, by rw [hml], by rw [hml]; exact hl, hm, .inr ⟨a, rfl, ?_, ?_⟩⟩
    · intro h0
      rw [hml] at h0
      have := World.block_lt_of_cell? w _ (hF 0 h0).1
      rwa [add_block] at this
    · intro j u hj
      have hjl : j < len * 2 := by
        have := (List.getElem?_eq_some_iff.1 hj).1
        rwa [pcells_len, hml] at this
      obtain ⟨i, r, hr, rfl⟩ : ∃ i r, r < 2 ∧ j = i * 2 + r := ⟨j / 2, j % 2, by omega, by omega⟩
      have hi : i < len := by omega
      obtain ⟨c0, c1⟩ := pcells_at ((List.range len).map F) i (by rw [hml]; exact hi)
      have hmv : prAt ((List.range len).map F) i = F i := by simp [prAt, List.getD, hi]
      rw [hmv] at c0 c1
      obtain ⟨f0, f1⟩ := hF i hi
      have hr : r = 0 ∨ r = 1 := by omega
      rcases hr with rfl | rfl
      · rw [Nat.add_zero] at hj ⊢
        rw [c0] at hj
        cases hj
        exact f0
      · rw [c1] at hj
        cases hj
        exact f1
theorem read_ins {n : Nat} {v : Value} {y : DataW H × List MemPlace} (h : DataW.trod enc Try.prog w base (fun _ => true) held n 24 [v] = some y) : ∃ js, ArgIn w v js := by
  have c3 : Try.prog.cellsOf 3 = 1 := by kernel_rfl
  rcases open_slice Try.underlying24 h with ⟨hcs, _⟩ | ⟨a, len, cap, m, n', D, Pl, hcs, _, hl, hm, hmm, _, hc⟩
  · simp only [List.cons.injEq, and_true] at hcs
    subst hcs
    exact ⟨[], by decide, none, 0, rfl, by simp, by decide, .inl ⟨rfl, rfl⟩⟩
  · simp only [List.cons.injEq, and_true] at hcs
    subst hcs
    simp only [if_true] at hmm
    have hx : ∀ i, ∃ q : Int, i < len → w.cell? (a.add i) = some (.int .i64 q) := by
      intro i
      by_cases hi : i < len
      · obtain ⟨cs', hcs', ht⟩ := hc i (by omega)
        rw [c3] at hcs'
        obtain ⟨_, hlen, hat⟩ := World.cells?_some hcs'
        match cs', hlen with
        | [e0], _ =>
          obtain ⟨z0, hz0, _, g0⟩ := DataW.trod_int Try.underlying3 ht
          simp only [List.cons.injEq, and_true] at hz0
          subst hz0
          refine ⟨z0, fun _ => ?_⟩
          have := hat 0 (by decide)
          rw [add_add, Nat.mul_one, Nat.add_zero] at this
          exact this
      · exact ⟨0, fun h => absurd h hi⟩
    obtain ⟨F, hF⟩ := Classical.axiomOfChoice hx
    have hml : ((List.range len).map F).length = len := by simp
    refine ⟨(List.range len).map F, by rw [hml]; omega, some a, cap, by rw [hml], by rw [hml]; exact hl, hm, .inr ⟨a, rfl, ?_, ?_⟩⟩
    · intro h0
      rw [hml] at h0
      have := World.block_lt_of_cell? w _ (hF 0 h0)
      rwa [add_block] at this
    · intro j u hj
      have hjl : j < len := by
        have := (List.getElem?_eq_some_iff.1 hj).1
        rwa [List.length_map, hml] at this
      have e : (((List.range len).map F).map zv)[j]? = some (.int .i64 (F j)) := by simp [hjl, zv]
      rw [e] at hj
      cases hj
      exact hF j hjl
end
theorem rd_prs {w : World} {v : Value} {xs : List Pr} (h : ArgPr w v xs) (k m : Nat) (hk : k = min xs.length m) : ∃ a c, v = .slice a xs.length c ∧ xs.length ≤ c ∧ c ≤ maxLen ∧ (a = none → c = 0) ∧ Rd w (.slice a k c) k 2 (pcells (xs.take m)) := by
  obtain ⟨-, a, c, rfl, h1, h2, h3⟩ := h
  have hl : (pcells (xs.take m)).length = k * 2 := by rw [pcells_len, List.length_take, hk, Nat.min_comm]
  rcases h3 with ⟨rfl, rfl⟩ | ⟨ad, rfl, hlt, hc⟩
  · have hx : xs = [] := List.length_eq_zero_iff.1 (by omega)
    subst hx
    obtain rfl : k = 0 := by simpa using hk
    exact ⟨none, 0, rfl, h1, h2, fun _ => rfl, hl, pcells_one _, .inl ⟨rfl, rfl⟩⟩
  · refine ⟨some ad, c, rfl, h1, h2, fun e => (by cases e), hl, pcells_one _, .inr ⟨ad, c, rfl, fun h0 => hlt (by rw [hl] at h0; omega), fun j u hj => hc j u ?_⟩⟩
    rw [pcells_take, List.getElem?_take] at hj
    split at hj
    · exact hj
    · cases hj
theorem rd_ins {w : World} {v : Value} {xs : List Int} (h : ArgIn w v xs) (k m : Nat) (hk : k = min xs.length m) : ∃ a c, v = .slice a xs.length c ∧ xs.length ≤ c ∧ c ≤ maxLen ∧ (a = none → c = 0) ∧ Rd w (.slice a k c) k 1 ((xs.take m).map zv) := by
  obtain ⟨-, a, c, rfl, h1, h2, h3⟩ := h
  have hl : ((xs.take m).map zv).length = k * 1 := by rw [List.length_map, List.length_take, hk, Nat.min_comm, Nat.mul_one]
  have h1c : ∀ u ∈ (xs.take m).map zv, u.oneCell' = true := by
    intro u hu
    rw [List.mem_map] at hu
    obtain ⟨z, _, rfl⟩ := hu
    rfl
  rcases h3 with ⟨rfl, rfl⟩ | ⟨ad, rfl, hlt, hc⟩
  · have hx : xs = [] := List.length_eq_zero_iff.1 (by omega)
    subst hx
    obtain rfl : k = 0 := by simpa using hk
    exact ⟨none, 0, rfl, h1, h2, fun _ => rfl, hl, h1c, .inl ⟨rfl, rfl⟩⟩
  · refine ⟨some ad, c, rfl, h1, h2, fun e => (by cases e), hl, h1c, .inr ⟨ad, c, rfl, fun h0 => hlt (by rw [hl] at h0; omega), fun j u hj => hc j u ?_⟩⟩
    rw [List.map_take, List.getElem?_take] at hj
    split at hj
    · exact hj
    · cases hj
/-- append of some elements to an empty slice, in a region that does not draw -/
theorem wpl_app_many {ops : Array Oper} {rest : List Oper} {o : Oper} {a : Act} {Q : Exit → Act → World → Prop} {W : World}
    (B : Nat) (s x : Operand) (t e : TypeId) (z : Value) (size bytes : Nat) (hi : (Try.prog.info? e).map (fun i => (i.zero, i.size, i.bytes)) = some (some z, size, bytes)) (hz : z.cells.size = size) (hsz : 0 < size)
    (ht : Try.prog.underlying t = some (.slice e)) (g m : Nat) (us : List Value) (src : Value)
    (hgd : o.guard = none) (ho : o.op = .call { callee := .builtin .append, args := #[s, x], argTypes := #[t, t] })
    (hs : a.eval s = .slice (some ⟨g, 0, none⟩) 0 0) (hx : a.eval x = src) (hsrc : Rd W src m size us) (hg : W.heap[g]? = some (.cells #[] e)) (hB : B ≤ g)
    (hlen : m * bytes ≤ 100000000 ∧ m ≤ 1000000)
    (h : ∀ sa sn sc w', Hid (w'.ownsRow B e size (.slice sa sn sc) m us) → Hid (W.grownBy w' (some g)) → wpList Try.prog ops Q rest (a.put o.dst (.slice sa sn sc)) w') :
    wpList Try.prog ops Q (o :: rest) a W :=
  wpList_plain hgd fun K hK => by
    have h1 := step_app (ops := ops) (K := K) (Q := Q) (E := True) B s x t e z size bytes hi hz hsz ht g m us src hgd ho hs hx hsrc hg hB hlen (fun sa sn sc w' h1 h2 => hK _ _ (h sa sn sc w' h1 h2))
    have hw : Region.wanted o (yielded ops a.tmps) = true := by simp [Region.wanted, hgd]
    rw [if_pos hw] at h1
    exact h1
set_option maxRecDepth 100000 in
theorem few_any (v : Value) (xs : List Pr) (w : World) (h : ArgPr w v xs) :
    Calls Try.prog 16 #[v] w fun e w' => ∃ u, e = .returned u ∧ OwnP w' w.heap.size 45 u (xs.take 41) ∧ Below w.heap.size w w' := by
  obtain ⟨k, hk⟩ : ∃ k, k = min xs.length 41 := ⟨_, rfl⟩
  have HBa := hid (ba w (.cells #[] 45))
  have hml : xs.length ≤ maxLen := h.1
  obtain ⟨a, c, rfl, hlc, hcm, hnn, hrd⟩ := rd_prs (argPr_below h HBa.out) k 41 hk
  have HRD := hid hrd
  have HTL : Hid ((xs.take 41).length = k) := by show _ = _; rw [List.length_take, hk, Nat.min_comm]
  have hk1 : k ≤ 41 := by omega
  have hk2 : k ≤ c := by omega
  have hki : min (xs.length : Int) 41 = (k : Int) := by omega
  have hmx : xs.length ≤ 9223372036854775807 := by unfold maxLen at hml; omega
  clear hrd h
  generalize xs.length = n at *
  clear hml
  cases a with
  | none =>
    have hc0 := hnn rfl
    subst hc0
    have hk0 : k = 0 := by omega
    have hn0 : n = 0 := by omega
    subst hk0 hn0
    clear hki hk1 hk2 hnn hlc hcm hmx hk
    go_enter Try.func16, Try.ntmps16
    go_wp2_with (first | (at_builtin; refine wpl_app_many w.heap.size _ _ 22 45 (.agg #[.int .i64 0, .int .i64 0]) 2 16 info45 rfl (by decide) Try.underlying22 w.heap.size 0 _ _ (by rfl) (by rfl) (by rfl) (by rfl) HRD.out (heap_alloc_new w (.cells #[] 45)) (Nat.le_refl _) (by decide) ?_; intro sa sn sc w' ho hg; have HO := ho; have HG := hg; clear ho hg) | fail)
    go_ret
    exact ⟨_, rfl, by unfold OwnP; rw [HTL.out]; exact HO.out, HBa.out.grown HG.out HBa.out.size (fun k hk => by cases hk; exact Nat.le_refl _)⟩
  | some ad =>
    clear hnn hk
    go_enter Try.func16, Try.ntmps16
    go_wp2_with (first | (at_builtin; refine wpl_app_many w.heap.size _ _ 22 45 (.agg #[.int .i64 0, .int .i64 0]) 2 16 info45 rfl (by decide) Try.underlying22 w.heap.size k _ _ (by rfl) (by rfl) (by rfl) (by rfl) HRD.out (heap_alloc_new w (.cells #[] 45)) (Nat.le_refl _) (by omega) ?_; intro sa sn sc w' ho hg; have HO := ho; have HG := hg; clear ho hg) | fail)
    go_ret
    exact ⟨_, rfl, by unfold OwnP; rw [HTL.out]; exact HO.out, HBa.out.grown HG.out HBa.out.size (fun k hk => by cases hk; exact Nat.le_refl _)⟩
end
def cK (d : Dsp) (i : Nat) : Nat := (d.pref.take i).foldl (fun a s => a &&& s) d.full
theorem foldl_and_le : ∀ (l : List Nat) (a : Nat), l.foldl (fun a s => a &&& s) a ≤ a
  | [], _ => Nat.le_refl _
  | s :: l, a => Nat.le_trans (foldl_and_le l (a &&& s)) Nat.and_le_left
theorem cK_lt (d : Dsp) (i : Nat) : cK d i < 2 ^ d.n := by
  have h1 := foldl_and_le (d.pref.take i) d.full
  have h2 : d.full < 2 ^ d.n := by
    have := Nat.pow_pos (n := d.n) (show 0 < 2 by decide)
    unfold Dsp.full; omega
  exact Nat.lt_of_le_of_lt h1 h2
theorem cK_succ (d : Dsp) (i : Nat) (h : i < d.pref.length) : cK d (i + 1) = cK d i &&& d.pref.getD i 0 := by
  unfold cK
  rw [List.take_succ_eq_append_getElem h, List.foldl_append, List.getD_eq_getElem?_getD, List.getElem?_eq_getElem h]; rfl
theorem cK_all (d : Dsp) : cK d d.pref.length = d.common := by unfold cK; rw [List.take_length]; rfl
def oK (d : Dsp) (i : Nat) : Nat := (((d.alls d.adm).take i).filter fun s => sub s d.common).foldl (fun a s => a ||| s) 0
theorem foldl_or_lt {n : Nat} : ∀ (l : List Nat) (a : Nat), a < 2 ^ n → (∀ s, s ∈ l → s < 2 ^ n) → l.foldl (fun a s => a ||| s) a < 2 ^ n
  | [], _, h, _ => h
  | s :: l, a, h, hl => foldl_or_lt l (a ||| s) (Nat.or_lt_two_pow h (hl s (List.mem_cons_self ..))) fun x hx => hl x (List.mem_cons_of_mem _ hx)
theorem oK_lt (d : Dsp) (i : Nat) : oK d i < 2 ^ d.n := foldl_or_lt _ 0 (Nat.pow_pos (by decide)) fun s hs => alls_lt d _ s (List.mem_of_mem_take (List.mem_filter.1 hs).1)
theorem oK_succ (d : Dsp) (i : Nat) (h : i < (d.alls d.adm).length) : oK d (i + 1) = if diff ((d.alls d.adm).getD i 0) d.common = 0 then oK d i ||| (d.alls d.adm).getD i 0 else oK d i := by
  unfold oK
  rw [List.take_succ_eq_append_getElem h, List.filter_append, List.foldl_append, List.getD_eq_getElem?_getD, List.getElem?_eq_getElem h]
  show _ = if diff (d.alls d.adm)[i] d.common = 0 then _ ||| (d.alls d.adm)[i] else _
  by_cases h0 : diff (d.alls d.adm)[i] d.common = 0
  · rw [if_pos h0]
    have : sub (d.alls d.adm)[i] d.common = true := beq_iff_eq.2 h0
    simp [this]
  · rw [if_neg h0]
    have : sub (d.alls d.adm)[i] d.common = false := beq_eq_false_iff_ne.2 h0
    simp [this]
theorem oK_all (d : Dsp) : oK d (d.alls d.adm).length = d.ideal := by unfold oK; rw [List.take_length]; rfl
set_option maxRecDepth 100000 in
set_option maxHeartbeats 4000000 in
theorem rIdeal_any (b1 b2 : Nat) (d : Dsp) (w : World) (h : RDd w b1 b2 d) :
    Calls Try.prog 34 #[Dv b1 b2 d] w fun e w' => e = .returned (.int .i64 ((d.ideal : Nat) : Int)) ∧ Below w.heap.size w w' := by
  have HA2 : Hid (∀ w', Below w.heap.size w w' → Calls Try.prog 37 #[.agg #[.int .i64 (d.n : Int), .slice (some ⟨b1, 0, none⟩) d.n d.n, .slice (some ⟨b2, 0, none⟩) d.n d.n], .int .i64 2] w' fun e w'' => ∃ v, e = .returned v ∧ OwnV w'' w'.heap.size 3 v (d.pref.map iv) ∧ Below w'.heap.size w' w'') := fun w' hb => rSets2_any b1 b2 d w' (rdd_below h hb)
  have HA0 : Hid (∀ w', Below w.heap.size w w' → Calls Try.prog 37 #[.agg #[.int .i64 (d.n : Int), .slice (some ⟨b1, 0, none⟩) d.n d.n, .slice (some ⟨b2, 0, none⟩) d.n d.n], .int .i64 0] w' fun e w'' => ∃ v, e = .returned v ∧ OwnV w'' w'.heap.size 3 v ((d.alls d.adm).map iv) ∧ Below w'.heap.size w' w'') := fun w' hb => rSets0_any b1 b2 d w' (rdd_below h hb)
  have HB0 : Hid (Below w.heap.size w (w.alloc (.cells #[.int .i64 (d.n : Int), .slice (some ⟨b1, 0, none⟩) d.n d.n, .slice (some ⟨b2, 0, none⟩) d.n d.n] 34))) := ba w _
  have hz := heap_alloc_new w (.cells #[.int .i64 (d.n : Int), .slice (some ⟨b1, 0, none⟩) d.n d.n, .slice (some ⟨b2, 0, none⟩) d.n d.n] 34)
  have HR := hid (rdd_below h HB0.out)
  obtain ⟨hn1, hn12, -⟩ := id h
  clear h
  obtain ⟨w0, hw0⟩ : ∃ w0, w0 = w.alloc (.cells #[.int .i64 (d.n : Int), .slice (some ⟨b1, 0, none⟩) d.n d.n, .slice (some ⟨b2, 0, none⟩) d.n d.n] 34) := ⟨_, rfl⟩
  rw [← hw0] at HB0 HR hz
  have HW0 := hid hw0
  clear hw0
  have hgl := heap_lt hz
  have KB : Hid (∀ w', Below w0.heap.size w0 w' → w'.cell? ⟨w.heap.size, 0, none⟩ = some (.int .i64 (d.n : Int)) ∧ w'.cell? ⟨w.heap.size, 1, none⟩ = some (.slice (some ⟨b1, 0, none⟩) d.n d.n) ∧ w'.cell? ⟨w.heap.size, 2, none⟩ = some (.slice (some ⟨b2, 0, none⟩) d.n d.n)) := fun w' hb => cells3_of ((hb.block _ hgl).trans hz)
  clear hz hgl
  unfold Dv
  go_enter Try.func34, Try.ntmps34
  go_upto_region 1 with fail
  rw [← HW0.out]
  obtain ⟨x0, x1, x2⟩ := KB.out w0 (Below.refl _ _)
  have hl3 : 2 ^ d.n ≤ 4096 := pow_small (n := 12) hn12
  have hp1 := Nat.pow_pos (n := d.n) (show 0 < 2 by decide)
  have hsh := wrap64 (show d.n < 62 by omega)
  have h0n : (0 : Int) ≤ (d.n : Int) := by omega
  have h64 : (d.n : Int) ≤ 64 := by omega
  have HC0 : Hid (cK d 0 = 2 ^ d.n - 1) := rfl
  have HPL : Hid (d.pref.length ≤ 5000) := (small_pref d hn12).2
  have HAL : Hid ((d.alls d.adm).length ≤ 5000) := alls_len5 d hn12 _
  have HPT : Hid (∀ s, s ∈ d.pref → s < 4096) := (small_pref d hn12).1
  have HAT : Hid (∀ s, s ∈ d.alls d.adm → s < 4096) := fun s hs => lt12 hn12 (alls_lt d _ s hs)
  have HCL : Hid (∀ i, cK d i < 4096) := fun i => Nat.lt_of_lt_of_le (cK_lt d i) hl3
  have HOL : Hid (∀ i, oK d i < 4096) := fun i => Nat.lt_of_lt_of_le (oK_lt d i) hl3
  have HCF : Hid (cK d d.pref.length = d.common) := cK_all d
  have HOF : Hid (oK d (d.alls d.adm).length = d.ideal) := oK_all d
  have HCS : Hid (∀ i, i < d.pref.length → cK d (i + 1) = cK d i &&& d.pref.getD i 0) := fun i hi => cK_succ d i hi
  have HOS : Hid (∀ i, i < (d.alls d.adm).length → oK d (i + 1) = if diff ((d.alls d.adm).getD i 0) d.common = 0 then oK d i ||| (d.alls d.adm).getD i 0 else oK d i) := fun i hi => oK_succ d i hi
  obtain ⟨N, hN⟩ : ∃ N, N = 2 ^ d.n := ⟨_, rfl⟩
  rw [← hN] at hsh hl3 HC0 hp1
  clear hN
  go_upto_region 4 with (first | (go_at_call 37; with_reducible refine (HA2.out _ HB0.out).mono ?_; rintro e w4 ⟨v4, rfl, ho4, hb4⟩; obtain ⟨pa, pn, pc, rfl⟩ := ownV_sh ho4; have HO4 := hid ho4; have HB4 := hid hb4; clear ho4 hb4) | fail)
  have hpn : pn = d.pref.length := by
    obtain ⟨_, _, e⟩ := ownV_slice HO4.out
    rw [List.length_map] at e
    cases e; rfl
  subst hpn
  have hp5 : d.pref.length ≤ 5000 := HPL.out
  clear x0 x1 x2 hsh HW0
  go_loopw [5, 3] (fun cv sv' wr => ∃ i : Nat, cv = .int .i64 i ∧ i ≤ d.pref.length ∧ sv' = .int .i64 ((cK d i : Nat) : Int) ∧ Hid (Below w4.heap.size w4 wr)) (fun cv _ _ => d.pref.length - (intOf cv).toNat)
  case atStart => exact ⟨0, rfl, Nat.zero_le _, by rw [HC0.out]; congr 1; omega, Below.refl _ _⟩
  case round =>
    obtain ⟨i, rfl, hi, rfl, HBr⟩ := hrel
    rename World => wr
    by_cases hlt : i < d.pref.length
    · obtain ⟨pg, rfl⟩ : ∃ pg, pa = some ⟨pg, 0, none⟩ := by
        obtain ⟨lg, c', e, _⟩ := ownV_some HO4.out (by rw [List.length_map]; omega)
        rw [List.length_map] at e
        cases e; exact ⟨lg, rfl⟩
      have c0 := ownV_cell (ownV_below HO4.out HBr.out) i (by rw [List.length_map]; exact hlt)
      rw [getD_map iv _ 0 i hlt] at c0
      have hs4 := HPT.out (d.pref.getD i 0) (by rw [List.getD_eq_getElem?_getD, List.getElem?_eq_getElem hlt]; exact List.getElem_mem hlt)
      have hc4 := HCL.out i
      have HS := hid (HCS.out i hlt)
      change wr.cell? _ = some (.int .i64 ((d.pref.getD i 0 : Nat) : Int)) at c0
      have hand := and64 (a := cK d i) (b := d.pref.getD i 0) (by omega) (by omega)
      rw [← HS.out] at hand
      have HAN := hid hand
      clear hand HS HCS HOS
      generalize d.pref.getD i 0 = s at *
      generalize cK d i = C at *
      go_wp2_with fail
      go_roundw
      case rel => exact ⟨i + 1, by go_num, by omega, by rw [HAN.out], HBr⟩
      case measure => simp [intOf]; omega
    · have hip : i = d.pref.length := by omega
      rw [hip, HCF.out]
      clear hlt hip HCS
      have HBB := hid (below_step HB4.out HBr.out)
      obtain ⟨x0, x1, x2⟩ := KB.out wr HBB.out
      go_upto_region 10 with (first | (go_at_call 37; with_reducible refine (HA0.out _ (HB0.out.trans (HBB.out.mono HB0.out.size))).mono ?_; rintro e w6 ⟨v6, rfl, ho6, hb6⟩; obtain ⟨la, ln, lc, rfl⟩ := ownV_sh ho6; have HO6 := hid ho6; have HB6 := hid (below_step HBB.out hb6); clear ho6 hb6) | fail)
      clear x0 x1 x2
      have hln : ln = (d.alls d.adm).length := by
        obtain ⟨_, _, e⟩ := ownV_slice HO6.out
        rw [List.length_map] at e
        cases e; rfl
      subst hln
      have hl5 : (d.alls d.adm).length ≤ 5000 := HAL.out
      have hcm : d.common < 4096 := by rw [← HCF.out]; exact HCL.out _
      go_loopw [8, 6] (fun cv sv' wk => ∃ k : Nat, cv = .int .i64 k ∧ k ≤ (d.alls d.adm).length ∧ sv' = .int .i64 ((oK d k : Nat) : Int) ∧ Hid (Below w6.heap.size w6 wk)) (fun cv _ _ => (d.alls d.adm).length - (intOf cv).toNat)
      case atStart => exact ⟨0, rfl, Nat.zero_le _, rfl, Below.refl _ _⟩
      case round =>
        obtain ⟨k, rfl, hk, rfl, HBk⟩ := hrel
        rename World => wk
        by_cases hkl : k < (d.alls d.adm).length
        · obtain ⟨lg, rfl⟩ : ∃ pg, la = some ⟨pg, 0, none⟩ := by
            obtain ⟨lg, c', e, _⟩ := ownV_some HO6.out (by rw [List.length_map]; omega)
            rw [List.length_map] at e
            cases e; exact ⟨lg, rfl⟩
          have c0 := ownV_cell (ownV_below HO6.out HBk.out) k (by rw [List.length_map]; exact hkl)
          rw [getD_map iv _ 0 k hkl] at c0
          have hs4 := HAT.out ((d.alls d.adm).getD k 0) (by rw [List.getD_eq_getElem?_getD, List.getElem?_eq_getElem hkl]; exact List.getElem_mem hkl)
          have hc4 := HOL.out k
          have HS := HOS.out k hkl
          change wk.cell? _ = some (.int .i64 (((d.alls d.adm).getD k 0 : Nat) : Int)) at c0
          have hdf := dif64 (a := (d.alls d.adm).getD k 0) (b := d.common) (by omega) (by omega)
          have hor := or64 (a := oK d k) (b := (d.alls d.adm).getD k 0) (by omega) (by omega)
          generalize diff ((d.alls d.adm).getD k 0) d.common = q at *
          by_cases hq : q = 0
          · rw [if_pos hq] at HS
            rw [← HS] at hor
            have HOR := hid hor
            subst hq
            have hdf0 : bits BinOp.andNot IntKind.i64 (((d.alls d.adm).getD k 0 : Nat) : Int) ((d.common : Nat) : Int) = 0 := hdf
            clear hor hdf HS HOS
            generalize (d.alls d.adm).getD k 0 = s at *
            generalize oK d k = C at *
            go_wp2_with fail
            go_roundw
            case rel => exact ⟨k + 1, by go_num, by omega, by rw [HOR.out], HBk⟩
            case measure => simp [intOf]; omega
          · rw [if_neg hq] at HS
            have HS' := hid HS
            clear hor HS HOS
            generalize (d.alls d.adm).getD k 0 = s at *
            go_wp2_with fail
            go_roundw
            case rel => exact ⟨k + 1, by go_num, by omega, by rw [HS'.out], HBk⟩
            case measure => simp [intOf]; omega
        · have hip : k = (d.alls d.adm).length := by omega
          rw [hip, HOF.out]
          clear hkl hip HOS
          have HFF := hid (HB0.out.trans ((below_step HB6.out HBk.out).mono HB0.out.size))
          go_wp2_with fail
          go_ret
          exact ⟨rfl, HFF.out⟩
end Go.Proofs.Ytaedbkdimpdngaa
