/-
  Walks over chapter 1: the local periods of a rhythm and its critical positions, in the program; the local periods in the reference.
-/
import Derived.Test.YtpoekblolicehaaDoorWalkC
namespace Go.Proofs.YtpoekblolicehaaDoor
open Go.RowKit

set_option maxHeartbeats 400000 in
theorem local_list (s : ByteArray) (w : World) (hs : s.size ≤ 1000) :
    Calls Tryd.prog 27 #[.string s] w fun e w' => ∃ v, e = .returned (.tuple #[v, .int .i64 (chk s.data.toList)]) ∧ Own w' w.heap.size 3 v (ints (if chk s.data.toList = 0 then locals s.data.toList else [])) ∧ Below w.heap.size w w' := by
  by_cases hc : chk s.data.toList = 0
  · rw [if_pos hc]
    have hck := check_any s w hs
    have h0 : 1 ≤ s.size := chk_pos hc
    rw [hc] at hck ⊢
    clear hc
    go_enter Tryd.func27, Tryd.ntmps27
    go_wp2_with fail
    refine hck.mono ?_
    rintro e w1 ⟨rfl, hb⟩
    have hbs := hb.size
    go_wp2_with fail
    go_loopw [5, 6] (fun v i wr => ∃ k : Nat, k + 1 ≤ s.size ∧ i = .int .i64 (k + 1) ∧ Own wr w.heap.size 3 v (ints (locTo s.data.toList k)) ∧ Below w.heap.size w wr) (fun _ i _ => s.size + 1 - (intOf i).toNat)
    case atStart => exact ⟨0, h0, rfl, own_nil _ _ _, hb⟩
    case round =>
      obtain ⟨k, hk, rfl, hown, hbel⟩ := hrel
      have hbz := hbel.size
      have Hown := hid hown; clear hown
      have Hbel := hid hbel; clear hbel
      have hpl : (locTo s.data.toList k).length < 1099511627776 := by rw [locTo_length]; omega
      have Hpl := hid hpl; clear hpl
      by_cases hlt : k + 1 < s.size
      · go_wp2_with fail
        refine (local_any s _ (k + 1) _ (by omega) (by omega) (by omega) hs).mono ?_
        rintro e w2 ⟨rfl, n, rfl⟩
        go_wp2_with (at_builtin; refine wpl_app_int (.tmp 18) (.tmp 22) u5 w.heap.size (locTo s.data.toList k) (by rfl) (by rfl) (by rfl) (by rfl) (by exact own_drew Hown.out _) (by exact Hpl.out) (by exact hbz) ?_; intro v' w' hown' hgrow)
        have Hown' := hid hown'; clear hown'
        go_wp2_with fail
        go_roundw
        case rel => exact ⟨k + 1, by omega, by go_num, by rw [locTo_succ]; exact Hown'.out, (below_drewN_r Hbel.out _).trans (by exact hgrow)⟩
        case measure => simp [intOf]; omega
      · go_wp2_with fail
        go_ret2
        obtain rfl : k = s.size - 1 := by omega
        exact ⟨_, rfl, Hown.out, Hbel.out⟩
  · rw [if_neg hc]
    have hck := check_any s w hs
    have hc2 : (chk s.data.toList == 0) = false := by simp [hc]
    clear hc
    generalize chk s.data.toList = q at *
    go_enter Tryd.func27, Tryd.ntmps27
    go_wp2_with fail
    refine hck.mono ?_
    rintro e w1 ⟨rfl, hb⟩
    go_wp2_with fail
    go_ret2
    exact ⟨_, rfl, own_nil _ _ _, hb⟩

set_option maxHeartbeats 400000 in
theorem rlocals_any (s : ByteArray) (w : World) (hs : s.size ≤ 1000) (h0 : 1 ≤ s.size) :
    Calls Tryd.prog 29 #[.string s] w fun e w' => ∃ v, e = .returned v ∧ Own w' w.heap.size 3 v (ints (locals s.data.toList)) ∧ Below w.heap.size w w' := by
  go_enter Tryd.func29, Tryd.ntmps29
  go_wp2_with fail
  go_loopw [3, 4] (fun v i wr => ∃ k : Nat, k + 1 ≤ s.size ∧ i = .int .i64 (k + 1) ∧ Own wr w.heap.size 3 v (ints (locTo s.data.toList k)) ∧ Below w.heap.size w wr) (fun _ i _ => s.size + 1 - (intOf i).toNat)
  case atStart => exact ⟨0, h0, rfl, own_made0 _ _ _ (Nat.le_refl _), (Below.refl _ _).alloc (Nat.le_refl _) _⟩
  case round =>
    obtain ⟨k, hk, rfl, hown, hbel⟩ := hrel
    have hbz := hbel.size
    have Hown := hid hown; clear hown
    have Hbel := hid hbel; clear hbel
    have hpl : (locTo s.data.toList k).length < 1099511627776 := by rw [locTo_length]; omega
    have Hpl := hid hpl; clear hpl
    by_cases hlt : k + 1 < s.size
    · go_wp2_with fail
      refine (rlocal_any s _ (k + 1) _ (by omega) (by omega) (by omega) hs).mono ?_
      rintro e w2 ⟨rfl, n, rfl⟩
      go_wp2_with (at_builtin; refine wpl_app_int (.tmp 12) (.tmp 16) u3 w.heap.size (locTo s.data.toList k) (by rfl) (by rfl) (by rfl) (by rfl) (by exact own_drew Hown.out _) (by exact Hpl.out) (by exact hbz) ?_; intro v' w' hown' hgrow)
      have Hown' := hid hown'; clear hown'
      go_wp2_with fail
      go_roundw
      case rel => exact ⟨k + 1, by omega, by go_num, by rw [locTo_succ]; exact Hown'.out, (below_drewN_r Hbel.out _).trans (by exact hgrow)⟩
      case measure => simp [intOf]; omega
    · go_wp2_with fail
      go_ret
      obtain rfl : k = s.size - 1 := by omega
      exact ⟨_, rfl, Hown.out, Hbel.out⟩

theorem own_mono {w : World} {B B' : Nat} {e : TypeId} {v : Value} {xs : List Value} (h : Own w B e v xs) (hb : B' ≤ B) : Own w B' e v xs := by
  obtain ⟨h1, h2⟩ := h
  refine ⟨h1, h2.imp_right ?_⟩
  rintro ⟨g, cap, cur, rfl, hB, r⟩
  exact ⟨g, cap, cur, rfl, by omega, r⟩

set_option maxHeartbeats 400000 in
theorem critical_any (s : ByteArray) (w : World) (hs : s.size ≤ 1000) :
    Calls Tryd.prog 28 #[.string s] w fun e w' => ∃ v, e = .returned (.tuple #[v, .int .i64 (chk s.data.toList)]) ∧ Own w' w.heap.size 3 v (ints (if chk s.data.toList = 0 then crits s.data.toList else [])) ∧ Below w.heap.size w w' := by
  by_cases hc : chk s.data.toList = 0
  · rw [if_pos hc]
    have hck := local_list s w hs
    have h0 : 1 ≤ s.size := chk_pos hc
    rw [hc, if_pos rfl] at hck
    rw [hc]
    clear hc
    go_enter Tryd.func28, Tryd.ntmps28
    go_wp2_with fail
    refine hck.mono ?_
    rintro e w1 ⟨lv, rfl, hlv, hb⟩
    have hlv' := own_isInts hlv
    clear hlv
    have hbs := hb.size
    obtain ⟨la, lc, rfl, hln, Hl⟩ := hlv'
    clear hln hck
    have HL := hid Hl; clear Hl
    obtain ⟨m, hm⟩ : ∃ m, s.size = m + 1 := ⟨s.size - 1, by omega⟩
    have hm1 : m + 1 ≤ s.size := by omega
    have hm2 : s.size ≤ m + 1 := by omega
    have HLen : Hid ((locals s.data.toList).length = m) := by unfold locals; rw [data_size, hm]; exact locTo_length _ _
    have HM := hid hm; clear hm
    rw [HLen.out]
    have Hb := hid hb; clear hb
    go_wp2_with fail
    refine (least_any s _ hs h0).mono ?_
    rintro e w2 ⟨rfl, n, rfl⟩
    go_wp2_with fail
    obtain ⟨wo, hwo⟩ : ∃ wo, wo = w1.drewN n := ⟨_, rfl⟩
    rw [← hwo]
    have HWO := hid hwo; clear hwo
    go_loopw [7, 22] (fun v i wr => ∃ k : Nat, k ≤ m ∧ i = .int .i64 k ∧ Own wr w1.heap.size 3 v (ints (critTo s.data.toList k)) ∧ Below w1.heap.size w1 wr) (fun _ i _ => m - (intOf i).toNat)
    case atStart => exact ⟨0, Nat.zero_le _, rfl, own_nil _ _ _, by rw [HWO.out]; exact below_drewN' _ _ _⟩
    case round =>
      obtain ⟨k, hk, rfl, hown, hbel⟩ := hrel
      have hbz := hbel.size
      have Hown := hid hown; clear hown
      have Hbel := hid hbel; clear hbel
      have hpl : (critTo s.data.toList k).length < 1099511627776 := by have := critTo_length s.data.toList k; omega
      have Hpl := hid hpl; clear hpl
      by_cases hlt : k < m
      · obtain ⟨g, rfl, cl⟩ := HL.out k (by rw [HLen.out]; omega)
        have cl2 : wr.cell? ⟨g, k, none⟩ = some (.int .i64 (ix (locals s.data.toList) k)) := by rw [Hbel.out.cell (World.block_lt_of_cell? w1 _ cl)]; exact cl
        clear cl
        have Hix : Hid (ix (locals s.data.toList) k = loc s.data.toList (k + 1)) := locTo_ix _ _ _ (by rw [data_size]; omega)
        rw [Hix.out] at cl2
        generalize hq : loc s.data.toList (k + 1) = q at *
        generalize hr : least s.data.toList = r at *
        have Hq := hid hq; clear hq
        have Hr := hid hr; clear hr
        by_cases hqr : q = r
        · have hqb : ((q : Int) == (r : Int)) = true := by simp [hqr]
          have Hqr := hid hqr; clear hqr
          go_wp2_with (at_builtin; refine wpl_app_int (.tmp 30) (.tmp 33) u7 w1.heap.size (critTo s.data.toList k) (by rfl) (by rfl) (by rfl) (by rfl) (by exact Hown.out) (by exact Hpl.out) (by exact hbz) ?_; intro v' w' hown' hgrow)
          have Hown' := hid hown'; clear hown'
          go_wp2_with fail
          go_roundw
          case rel => exact ⟨k + 1, by omega, by go_num, by rw [critTo_yes _ _ (by rw [Hq.out, Hr.out]; exact Hqr.out)]; exact Hown'.out, Hbel.out.trans hgrow⟩
          case measure => simp [intOf]; omega
        · have hqb : ((q : Int) == (r : Int)) = false := by simp; omega
          have Hqr := hid hqr; clear hqr
          go_wp2_with fail
          go_roundw
          case rel => exact ⟨k + 1, by omega, by go_num, by rw [critTo_no _ _ (by rw [Hq.out, Hr.out]; exact Hqr.out)]; exact Hown.out, Hbel.out⟩
          case measure => simp [intOf]; omega
      · go_wp2_with fail
        go_ret2
        obtain rfl : k = m := by omega
        exact ⟨_, rfl, by unfold crits; rw [data_size, HM.out]; exact own_mono Hown.out hbs, Hb.out.trans (Hbel.out.mono hbs)⟩
  · rw [if_neg hc]
    have hck := local_list s w hs
    rw [if_neg hc] at hck
    have hc2 : (chk s.data.toList == 0) = false := by simp [hc]
    clear hc
    generalize chk s.data.toList = q at *
    go_enter Tryd.func28, Tryd.ntmps28
    go_wp2_with fail
    refine hck.mono ?_
    rintro e w1 ⟨v, rfl, hlv, hb⟩
    go_wp2_with fail
    go_ret2
    exact ⟨_, rfl, own_nil _ _ _, hb⟩
end Go.Proofs.YtpoekblolicehaaDoor
