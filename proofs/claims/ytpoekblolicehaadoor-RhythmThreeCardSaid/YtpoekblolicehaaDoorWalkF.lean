/-
  Walks over chapter 1: the greatest common divisor, the even rhythm, in the program and in the reference.
-/
import Derived.Test.YtpoekblolicehaaDoorWalkE
import Derived.Deep.LoopGhost
namespace Go.Proofs.YtpoekblolicehaaDoor
open Go.RowKit

/-- the i-th letter of the even rhythm of p and q, and its beginnings -/
def evl (p q i : Nat) : UInt8 := if (i * q) % (p + q) + q < p + q then 97 else 98
def evenTo (p q k : Nat) : Str := (List.range k).map (evl p q)
def even (p q : Nat) : Str := evenTo p q (p + q)
theorem evenTo_succ (p q k : Nat) : evenTo p q (k + 1) = evenTo p q k ++ [evl p q k] := by simp [evenTo, List.range_succ]
theorem evenTo_length (p q k : Nat) : (evenTo p q k).length = k := by simp [evenTo]
theorem ev_step (k q n : Nat) : (k * q % n + q) % n = (k + 1) * q % n := by
  rw [Nat.add_mul, Nat.one_mul, Nat.mod_add_mod]

set_option maxHeartbeats 400000 in
theorem divisor_any (a b : Int) (w : World) (ha : 0 ≤ a) (hb : 0 ≤ b) (ha' : a ≤ 100000) (hb' : b ≤ 100000) :
    Calls Tryd.prog 60 #[.int .i64 a, .int .i64 b] w fun e w' => e = .returned (.int .i64 (Nat.gcd a.toNat b.toNat)) ∧ ∃ n, w' = w.drewN n := by
  obtain ⟨x, rfl⟩ := Int.eq_ofNat_of_zero_le ha
  obtain ⟨y, rfl⟩ := Int.eq_ofNat_of_zero_le hb
  rw [Int.toNat_natCast, Int.toNat_natCast]
  go_enter Tryd.func60, Tryd.ntmps60
  go_wp2
  go_loopw [0, 1] (fun u v wr => ∃ x' y' : Nat, u = .int .i64 x' ∧ v = .int .i64 y' ∧ x' ≤ 100000 ∧ y' ≤ 100000 ∧ Nat.gcd x' y' = Nat.gcd x y ∧ ∃ n, wr = w.drewN n) (fun _ v _ => (intOf v).toNat)
  case atStart => exact ⟨x, y, rfl, rfl, by omega, by omega, rfl, 0, rfl⟩
  case round =>
    obtain ⟨x', y', rfl, rfl, hx, hy, hg, n, rfl⟩ := hrel
    have Hg := hid hg; clear hg
    by_cases hz : y' = 0
    · subst hz
      go_wp2
      go_ret
      exact ⟨ret_int (by rw [← Hg.out]; simp), _, rfl⟩
    · have hb : ((y' : Int) != 0) = true := by simp; omega
      have h1 : 1 ≤ (y' : Int) := by omega
      go_wp2
      go_quiet (fail)
      go_wp2
      go_roundw
      case rel => exact ⟨y', x' % y', rfl, by go_num, hy, by have := Nat.mod_lt x' (show y' > 0 by omega); omega, by rw [← Hg.out, Nat.gcd_comm x' y', Nat.gcd_rec y' x', Nat.gcd_comm], (by first | exact ⟨_, rfl⟩ | exact drew2 _ _ _)⟩
      case measure =>
        have := Nat.mod_lt x' (show y' > 0 by omega)
        simp [intOf]; omega

set_option maxHeartbeats 400000 in
theorem gcd_any (a b : Int) (w : World) (ha : 0 ≤ a) (hb : 0 ≤ b) (ha' : a ≤ 100000) (hb' : b ≤ 100000) :
    Calls Tryd.prog 35 #[.int .i64 a, .int .i64 b] w fun e w' => e = .returned (.int .i64 (Nat.gcd a.toNat b.toNat)) ∧ ∃ n, w' = w.drewN n := by
  obtain ⟨x, rfl⟩ := Int.eq_ofNat_of_zero_le ha
  obtain ⟨y, rfl⟩ := Int.eq_ofNat_of_zero_le hb
  rw [Int.toNat_natCast, Int.toNat_natCast]
  go_enter Tryd.func35, Tryd.ntmps35
  go_wp2
  go_loopw [0, 1] (fun u v wr => ∃ x' y' : Nat, u = .int .i64 x' ∧ v = .int .i64 y' ∧ x' ≤ 100000 ∧ y' ≤ 100000 ∧ Nat.gcd x' y' = Nat.gcd x y ∧ ∃ n, wr = w.drewN n) (fun _ v _ => (intOf v).toNat)
  case atStart => exact ⟨x, y, rfl, rfl, by omega, by omega, rfl, 0, rfl⟩
  case round =>
    obtain ⟨x', y', rfl, rfl, hx, hy, hg, n, rfl⟩ := hrel
    have Hg := hid hg; clear hg
    by_cases hz : y' = 0
    · subst hz
      go_wp2
      go_ret
      exact ⟨ret_int (by rw [← Hg.out]; simp), _, rfl⟩
    · have h1 : 1 ≤ (y' : Int) := by omega
      have h2 : 0 < (y' : Int) := by omega
      go_wp2
      go_quiet (fail)
      go_wp2
      go_roundw
      case rel => exact ⟨y', x' % y', rfl, by go_num, hy, by have := Nat.mod_lt x' (show y' > 0 by omega); omega, by rw [← Hg.out, Nat.gcd_comm x' y', Nat.gcd_rec y' x', Nat.gcd_comm], (by first | exact ⟨_, rfl⟩ | exact drew2 _ _ _)⟩
      case measure =>
        have := Nat.mod_lt x' (show y' > 0 by omega)
        simp [intOf]; omega

/-- what Even answers: the error, or 0 -/
def evErr (p q : Int) : Int := if p < 1 ∨ q < 1 ∨ 200 < p ∨ 200 - p < q then 1 else if 1 < Nat.gcd p.toNat q.toNat then 5 else 0

set_option maxHeartbeats 400000 in
set_option maxRecDepth 100000 in
theorem even_bad (p q : Int) (w : World) (h : p < 1 ∨ q < 1 ∨ 200 < p ∨ 200 - p < q) :
    Calls Tryd.prog 34 #[.int .i64 p, .int .i64 q] w fun e w' => e = .returned (.tuple #[.string ⟨#[]⟩, .int .i64 1]) ∧ w' = w := by
  by_cases h1 : p < 1
  · go_enter Tryd.func34, Tryd.ntmps34
    go_wp2_with fail
    go_ret2
    exact ⟨rfl, rfl⟩
  · by_cases h2 : q < 1
    · go_enter Tryd.func34, Tryd.ntmps34
      go_wp2_with fail
      go_ret2
      exact ⟨rfl, rfl⟩
    · by_cases h3 : 200 < p
      · go_enter Tryd.func34, Tryd.ntmps34
        go_wp2_with fail
        go_ret2
        exact ⟨rfl, rfl⟩
      · have h4 : 200 - p < q := by omega
        go_enter Tryd.func34, Tryd.ntmps34
        go_wp2_with fail
        go_ret2
        exact ⟨rfl, rfl⟩

set_option maxHeartbeats 400000 in
set_option maxRecDepth 100000 in
theorem even_none (p q : Nat) (w : World) (h1 : 1 ≤ p) (h2 : 1 ≤ q) (h3 : p + q ≤ 200) (hg : 1 < Nat.gcd p q) :
    Calls Tryd.prog 34 #[.int .i64 p, .int .i64 q] w fun e w' => e = .returned (.tuple #[.string ⟨#[]⟩, .int .i64 5]) ∧ Below w.heap.size w w' := by
  have hd := fun w => divisor_any p q w (by omega) (by omega) (by omega) (by omega)
  rw [Int.toNat_natCast, Int.toNat_natCast] at hd
  have Hd := hid hd; clear hd
  generalize Nat.gcd p q = g at *
  have b1 : ¬ (p : Int) < 1 := by omega
  have b2 : ¬ (q : Int) < 1 := by omega
  have b3 : ¬ 200 < (p : Int) := by omega
  have b4 : ¬ 200 - (p : Int) < q := by omega
  go_enter Tryd.func34, Tryd.ntmps34
  go_wp2_with fail
  refine (Hd.out _).mono ?_
  rintro e w1 ⟨rfl, n, rfl⟩
  go_wp2_with fail
  go_ret2
  exact ⟨rfl, below_drewN' _ _ _⟩

set_option maxHeartbeats 400000 in
set_option maxRecDepth 100000 in
theorem even_ok (p q : Nat) (w : World) (h1 : 1 ≤ p) (h2 : 1 ≤ q) (h3 : p + q ≤ 200) (hg : Nat.gcd p q = 1) :
    Calls Tryd.prog 34 #[.int .i64 p, .int .i64 q] w fun e w' => e = .returned (.tuple #[.string ⟨(even p q).toArray⟩, .int .i64 0]) ∧ Below w.heap.size w w' := by
  have hd := fun w => divisor_any p q w (by omega) (by omega) (by omega) (by omega)
  rw [Int.toNat_natCast, Int.toNat_natCast, hg] at hd
  have Hd := hid hd; clear hd hg
  have b1 : ¬ (p : Int) < 1 := by omega
  have b2 : ¬ (q : Int) < 1 := by omega
  have b3 : ¬ 200 < (p : Int) := by omega
  have b4 : ¬ 200 - (p : Int) < q := by omega
  go_enter Tryd.func34, Tryd.ntmps34
  go_wp2_with fail
  refine (Hd.out _).mono ?_
  rintro e w1 ⟨rfl, n, rfl⟩
  go_wp2_with fail
  have hB0 : Lib.IsBuilder 70 5 w.heap.size w.heap.size (Lib.byteCells (evenTo p q 0)) ((w.drewN n).alloc (.cells #[.pointer none, .slice none 0 0] 70)) :=
    .inl ⟨Nat.le_refl _, .slice none 0 0, heap_alloc_new (w.drewN n) _, World.ownsRow_nil _ _ _ _, by simp [Value.ownBlock]⟩
  have HB0 := hid hB0; clear hB0
  have hn1 : 1 ≤ p + q := by omega
  go_loopg [8] (p + q) (fun g r wr => ∃ k : Nat, k ≤ p + q ∧ g = p + q - k ∧ r = .int .i64 ((k * q % (p + q) : Nat) : Int) ∧ Lib.IsBuilder 70 5 w.heap.size w.heap.size (Lib.byteCells (evenTo p q k)) wr ∧ Below w.heap.size w wr)
  case atStart => exact ⟨0, Nat.zero_le _, by omega, by simp, HB0.out, (below_drewN' _ _ _).alloc (Nat.le_refl _) _⟩
  case round =>
    obtain ⟨k, hk, hgk, rfl, hbld, hbel⟩ := hrel
    have hbz := hbel.size
    have hlenc : (Lib.byteCells (evenTo p q k)).length = k := by rw [Lib.byteCells_length, evenTo_length]
    have hLen := Tryd.Builder_Len _ _ _ _ hbld
    rw [hlenc] at hLen
    have HGK := hid hgk; clear hgk
    have Hbel := hid hbel; clear hbel
    have hr1 := Nat.mod_lt (k * q) (show p + q > 0 by omega)
    obtain ⟨r, hr⟩ : ∃ r, r = k * q % (p + q) := ⟨_, rfl⟩
    rw [← hr] at hr1
    rw [← hr]
    have Hr := hid hr; clear hr
    have HL := hid hLen; clear hLen
    by_cases hlt : k < p + q
    · have hW := fun c => Tryd.Builder_WriteByte w.heap.size w.heap.size (Lib.byteCells (evenTo p q k)) c wr hbld (by rw [hlenc]; omega) hbz
      have HW := hid hW; clear hW hlenc hbld
      have hm0 : (0 : Int) ≤ (r : Int) + (q : Int) := by omega
      have hstep : ((r : Int) + (q : Int)) % ((p : Int) + (q : Int)) = (((k + 1) * q % (p + q) : Nat) : Int) := by
        rw [← ev_step, ← Hr.out, Int.natCast_emod, Int.natCast_add, Int.natCast_add]
      have Hst := hid hstep; clear hstep
      by_cases hc : r + q < p + q
      · have he : evl p q k = 97 := by unfold evl; rw [← Hr.out, if_pos hc]
        have He := hid he; clear he
        go_wp2_with fail
        refine (HL.out).mono ?_
        rintro e w2 ⟨rfl, rfl⟩
        go_wp2_with fail
        refine (HW.out 97).mono ?_
        rintro e w2 ⟨rfl, hb1, hb2⟩
        have Hb1 := hid hb1; clear hb1
        go_wp2_with fail
        go_roundg (p + q - (k + 1))
        case measure => have := HGK.out; omega
        case rel => exact ⟨k + 1, by omega, rfl, by rw [Hst.out], .inr (by rw [evenTo_succ, He.out]; simpa [Lib.byteCells] using Hb1.out), Hbel.out.trans hb2⟩
      · have he : evl p q k = 98 := by unfold evl; rw [← Hr.out, if_neg hc]
        have He := hid he; clear he
        go_wp2_with fail
        refine (HL.out).mono ?_
        rintro e w2 ⟨rfl, rfl⟩
        go_wp2_with fail
        refine (HW.out 98).mono ?_
        rintro e w2 ⟨rfl, hb1, hb2⟩
        have Hb1 := hid hb1; clear hb1
        go_wp2_with fail
        go_roundg (p + q - (k + 1))
        case measure => have := HGK.out; omega
        case rel => exact ⟨k + 1, by omega, rfl, by rw [Hst.out], .inr (by rw [evenTo_succ, He.out]; simpa [Lib.byteCells] using Hb1.out), Hbel.out.trans hb2⟩
    · have hS := Tryd.Builder_String_any _ _ _ _ hbld hbz
      obtain rfl : k = p + q := by omega
      have HS := hid hS; clear hS hlenc hbld
      go_wp2_with fail
      refine (HL.out).mono ?_
      rintro e w2 ⟨rfl, rfl⟩
      go_wp2_with fail
      refine (HS.out).mono ?_
      rintro e w2 ⟨rfl, hb2⟩
      go_wp2_with fail
      go_ret2
      exact ⟨rfl, Hbel.out.trans hb2⟩

theorem bytes_snoc (l : Str) (c : UInt8) : (⟨l.toArray⟩ : ByteArray) ++ ⟨#[c]⟩ = ⟨(l ++ [c]).toArray⟩ := by
  apply ByteArray.ext
  rw [ByteArray.data_append]
  simp

set_option maxHeartbeats 400000 in
set_option maxRecDepth 100000 in
theorem reven_ok (p q : Nat) (w : World) (h1 : 1 ≤ p) (h2 : 1 ≤ q) (h3 : p + q ≤ 200) :
    Calls Tryd.prog 36 #[.int .i64 p, .int .i64 q] w fun e w' => e = .returned (.string ⟨(even p q).toArray⟩) ∧ w' = w := by
  go_enter Tryd.func36, Tryd.ntmps36
  go_wp2_with fail
  have hn1 : 1 ≤ p + q := by omega
  go_loopg [5, 6, 7] (p + q) (fun g s r i wr => ∃ k : Nat, k ≤ p + q ∧ g = p + q - k ∧ s = .string ⟨(evenTo p q k).toArray⟩ ∧ r = .int .i64 ((k * q % (p + q) : Nat) : Int) ∧ i = .int .i64 k ∧ wr = w)
  case atStart => exact ⟨0, Nat.zero_le _, by omega, rfl, by simp, rfl, rfl⟩
  case round =>
    obtain ⟨k, hk, hgk, rfl, rfl, rfl, rfl⟩ := hrel
    have HGK := hid hgk; clear hgk
    have hr1 := Nat.mod_lt (k * q) (show p + q > 0 by omega)
    obtain ⟨r, hr⟩ : ∃ r, r = k * q % (p + q) := ⟨_, rfl⟩
    rw [← hr] at hr1
    rw [← hr]
    have Hr := hid hr; clear hr
    obtain ⟨t, ht⟩ : ∃ t : ByteArray, t = ⟨(evenTo p q k).toArray⟩ := ⟨_, rfl⟩
    have hts : t.size = k := by rw [ht]; exact evenTo_length p q k
    have hts2 : t.size ≤ 200 := by omega
    rw [← ht]
    have Ht := hid ht; clear ht hts
    by_cases hlt : k < p + q
    · have hm0 : (0 : Int) ≤ (r : Int) + (q : Int) := by omega
      have hstep : ((r : Int) + (q : Int)) % ((p : Int) + (q : Int)) = (((k + 1) * q % (p + q) : Nat) : Int) := by
        rw [← ev_step, ← Hr.out, Int.natCast_emod, Int.natCast_add, Int.natCast_add]
      have Hst := hid hstep; clear hstep
      by_cases hc : r + q < p + q
      · have he : evl p q k = 97 := by unfold evl; rw [← Hr.out, if_pos hc]
        have He := hid he; clear he
        go_wp2_with fail
        go_roundg (p + q - (k + 1))
        case measure => have := HGK.out; omega
        case rel => exact ⟨k + 1, by omega, rfl, by rw [evenTo_succ, He.out, Ht.out, bytes_snoc], by rw [Hst.out], by go_num, rfl⟩
      · have he : evl p q k = 98 := by unfold evl; rw [← Hr.out, if_neg hc]
        have He := hid he; clear he
        go_wp2_with fail
        go_roundg (p + q - (k + 1))
        case measure => have := HGK.out; omega
        case rel => exact ⟨k + 1, by omega, rfl, by rw [evenTo_succ, He.out, Ht.out, bytes_snoc], by rw [Hst.out], by go_num, rfl⟩
    · go_wp2_with fail
      go_ret
      obtain rfl : k = p + q := by omega
      exact ⟨by rw [Ht.out]; rfl, rfl⟩
end Go.Proofs.YtpoekblolicehaaDoor
