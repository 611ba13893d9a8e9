/-
  Walks over the string functions of chapter 1: all periods, the least one.
-/
import Derived.Test.YtpoekblolicehaaDoorWalkA
namespace Go.Proofs.YtpoekblolicehaaDoor
open Go.RowKit
theorem data_size (s : ByteArray) : s.data.toList.length = s.size := rfl
theorem periodic_at (s : ByteArray) (q : Int) (p : Nat) (w : World) (hq : q = p) (hp : p ≤ s.size) (hs : s.size ≤ 1000) :
    Calls Tryd.prog 56 #[.string s, .int .i64 q] w fun e w' => e = .returned (.bool (period s.data.toList p)) ∧ ∃ n, w' = w.drewN n := by
  subst hq; exact periodic_any s p w hp hs
theorem rperiod_at (s : ByteArray) (q : Int) (p : Nat) (w : World) (hq : q = p) (hp : p ≤ s.size) (hs : s.size ≤ 1000) :
    Calls Tryd.prog 47 #[.string s, .int .i64 q] w fun e w' => e = .returned (.bool (period s.data.toList p)) ∧ ∃ n, w' = w.drewN n := by
  subst hq; exact rperiod_any s p w hp hs

/-- a slice of length 0 that the walk has just laid -/
theorem own_made0 (w : World) (B : Nat) (e : TypeId) (hB : B ≤ w.heap.size) : Own (w.alloc (.cells #[] e)) B e (.slice (some ⟨w.heap.size, 0, none⟩) 0 0) [] :=
  World.ownsRow_made w #[] 0 hB (by decide) rfl

set_option maxHeartbeats 400000 in
theorem rperiods_any (s : ByteArray) (w : World) (hs : s.size ≤ 1000) :
    Calls Tryd.prog 26 #[.string s] w fun e w' => ∃ v, e = .returned v ∧ Own w' w.heap.size 3 v (ints (periods s.data.toList)) ∧ Below w.heap.size w w' := by
  go_enter Tryd.func26, Tryd.ntmps26
  go_wp2_with fail
  go_loopw [3, 4] (fun v i wr => ∃ k : Nat, k ≤ s.size ∧ i = .int .i64 (k + 1) ∧ Own wr w.heap.size 3 v (ints (perTo s.data.toList k)) ∧ Below w.heap.size w wr) (fun _ i _ => s.size + 1 - (intOf i).toNat)
  case atStart => exact ⟨0, Nat.zero_le _, rfl, own_made0 _ _ _ (Nat.le_refl _), (Below.refl _ _).alloc (Nat.le_refl _) _⟩
  case round =>
    obtain ⟨k, hk, rfl, hown, hbel⟩ := hrel
    have hbz := hbel.size
    have Hown := hid hown; clear hown
    have Hbel := hid hbel; clear hbel
    by_cases hlt : k < s.size
    · go_wp2_with fail
      refine (rperiod_at s _ (k + 1) _ (by omega) (by omega) hs).mono ?_
      rintro e w2 ⟨rfl, n, rfl⟩
      cases hp : period s.data.toList (k + 1)
      · go_wp2_with fail
        go_roundw
        case rel => exact ⟨k + 1, by omega, by go_num, by rw [perTo_no _ _ hp]; exact Hown.out, below_drewN_r Hbel.out _⟩
        case measure => simp [intOf]; omega
      · have Hp := hid hp; clear hp
        have hpl := perTo_length s.data.toList k
        go_wp2_with (at_builtin; refine wpl_app_int (.tmp 15) (.tmp 17) u3 w.heap.size (perTo s.data.toList k) (by rfl) (by rfl) (by rfl) (by rfl) (by exact own_drew Hown.out _) (by omega) (by exact hbz) ?_; intro v' w' hown' hgrow)
        have Hown' := hid hown'; clear hown'
        go_wp2_with fail
        go_roundw
        case rel => exact ⟨k + 1, by omega, by go_num, by rw [perTo_yes _ _ Hp.out]; exact Hown'.out, (below_drewN_r Hbel.out _).trans (by exact hgrow)⟩
        case measure => simp [intOf]; omega
    · go_wp2_with fail
      go_ret
      obtain rfl : k = s.size := by omega
      exact ⟨_, rfl, Hown.out, Hbel.out⟩

set_option maxHeartbeats 400000 in
theorem least_any (s : ByteArray) (w : World) (hs : s.size ≤ 1000) (h0 : 1 ≤ s.size) :
    Calls Tryd.prog 58 #[.string s] w fun e w' => e = .returned (.int .i64 (least s.data.toList)) ∧ ∃ n, w' = w.drewN n := by
  have hl := least_spec s.data.toList h0
  generalize hL : least s.data.toList = L at *
  have h1 := hl.1
  have h2 : L ≤ s.size := hl.2.1
  have H3 := hid hl.2.2.1
  have H4 := hid hl.2.2.2
  clear hl hL
  go_enter Tryd.func58, Tryd.ntmps58
  go_wp2_with fail
  go_loopw [3] (fun i wr => ∃ k : Nat, 1 ≤ k ∧ k ≤ L ∧ i = .int .i64 k ∧ ∃ n, wr = w.drewN n) (fun i _ => s.size + 1 - (intOf i).toNat)
  case atStart => exact ⟨1, Nat.le_refl _, h1, rfl, 0, rfl⟩
  case round =>
    obtain ⟨k, hk1, hk, rfl, n, rfl⟩ := hrel
    go_wp2_with fail
    refine (periodic_at s _ k _ (by omega) (by omega) hs).mono ?_
    rintro e w2 ⟨rfl, m, rfl⟩
    by_cases hlt : k < L
    · rw [H4.out k hk1 hlt]
      go_wp2_with fail
      go_roundw
      case rel => exact ⟨k + 1, by omega, by omega, by go_num, _, rfl⟩
      case measure => simp [intOf]; omega
    · obtain rfl : k = L := by omega
      rw [H3.out]
      go_wp2_with fail
      go_ret
      exact ⟨rfl, _, rfl⟩
set_option maxHeartbeats 400000 in
theorem periods_any (s : ByteArray) (w : World) (hs : s.size ≤ 1000) :
    Calls Tryd.prog 22 #[.string s] w fun e w' => ∃ v, e = .returned (.tuple #[v, .int .i64 (chk s.data.toList)]) ∧ Own w' w.heap.size 3 v (ints (if chk s.data.toList = 0 then periods s.data.toList else [])) ∧ Below w.heap.size w w' := by
  by_cases hc : chk s.data.toList = 0
  · rw [if_pos hc]
    have hck := check_any s w hs
    rw [hc] at hck ⊢
    clear hc
    go_enter Tryd.func22, Tryd.ntmps22
    go_wp2_with fail
    refine hck.mono ?_
    rintro e w1 ⟨rfl, hb⟩
    have hbs := hb.size
    go_wp2_with fail
    go_loopw [5, 6] (fun v i wr => ∃ k : Nat, k ≤ s.size ∧ i = .int .i64 (k + 1) ∧ Own wr w.heap.size 3 v (ints (perTo s.data.toList k)) ∧ Below w.heap.size w wr) (fun _ i _ => s.size + 1 - (intOf i).toNat)
    case atStart => exact ⟨0, Nat.zero_le _, rfl, own_nil _ _ _, hb⟩
    case round =>
      obtain ⟨k, hk, rfl, hown, hbel⟩ := hrel
      have hbz := hbel.size
      have Hown := hid hown; clear hown
      have Hbel := hid hbel; clear hbel
      by_cases hlt : k < s.size
      · go_wp2_with fail
        refine (periodic_at s _ (k + 1) _ (by omega) (by omega) hs).mono ?_
        rintro e w2 ⟨rfl, n, rfl⟩
        cases hp : period s.data.toList (k + 1)
        · go_wp2_with fail
          go_roundw
          case rel => exact ⟨k + 1, by omega, by go_num, by rw [perTo_no _ _ hp]; exact Hown.out, below_drewN_r Hbel.out _⟩
          case measure => simp [intOf]; omega
        · have Hp := hid hp; clear hp
          have hpl := perTo_length s.data.toList k
          go_wp2_with (at_builtin; refine wpl_app_int (.tmp 21) (.tmp 23) u5 w.heap.size (perTo s.data.toList k) (by rfl) (by rfl) (by rfl) (by rfl) (by exact own_drew Hown.out _) (by omega) (by exact hbz) ?_; intro v' w' hown' hgrow)
          have Hown' := hid hown'; clear hown'
          go_wp2_with fail
          go_roundw
          case rel => exact ⟨k + 1, by omega, by go_num, by rw [perTo_yes _ _ Hp.out]; exact Hown'.out, (below_drewN_r Hbel.out _).trans (by exact hgrow)⟩
          case measure => simp [intOf]; omega
      · go_wp2_with fail
        go_ret2
        obtain rfl : k = s.size := by omega
        exact ⟨_, rfl, Hown.out, Hbel.out⟩
  · rw [if_neg hc]
    have hck := check_any s w hs
    have hc2 : (chk s.data.toList == 0) = false := by simp [hc]
    clear hc
    generalize chk s.data.toList = q at *
    go_enter Tryd.func22, Tryd.ntmps22
    go_wp2_with fail
    refine hck.mono ?_
    rintro e w1 ⟨rfl, hb⟩
    go_wp2_with fail
  
    go_ret2
    exact ⟨_, rfl, own_nil _ _ _, hb⟩
end Go.Proofs.YtpoekblolicehaaDoor
