/-
  Walks over chapter 12: all sets that meet a test; the greatest ones.
-/
import Derived.Test.YtaedbkdimpdngaaWalkE
namespace Go.Proofs.Ytaedbkdimpdngaa
open Go.RowKit
/-- a function value with a receiver of its own -/
def FnC (g : Nat) (fs lb : Array Value) (N : Nat) (res : Nat → Value) (w : World) : Prop :=
  ∀ W, Below w.heap.size w W → ∀ s, s < N → Calls Try.prog g (fs ++ #[sv s] ++ lb) W fun e W' => e = .returned (res s) ∧ Below W.heap.size W W'
theorem filter_take {p : Nat → Bool} (k : Nat) : (List.range (k + 1)).filter p = if p k then (List.range k).filter p ++ [k] else (List.range k).filter p := by
  rw [List.range_succ, List.filter_append]
  cases h : p k <;> simp [h]
set_option maxRecDepth 100000 in
theorem all_any (g : Nat) (fs lb : Array Value) (p : Nat → Bool) (eg : ∀ args w, (callFunc g args).run Try.prog w = .ok (.enter g args) w) (D : Nat) (d : Dsp) (w : World) (hd : DAt w D d) (hn : d.n ≤ 12)
    (hp : FnC g fs lb (2 ^ d.n) (fun s => .bool (p s)) w) :
    Calls Try.prog 62 #[.pointer (some ⟨D, 0, none⟩), .func (.func g) fs lb] w fun e w' => ∃ v, e = .returned v ∧ OwnV w' w.heap.size 75 v ((d.alls p).map sv) ∧ Below w.heap.size w w' := by
  obtain ⟨b1, b2, c1, c2, hfa⟩ := dAt_facts hd
  have HD := hid hfa
  have HP := hid hp
  have hsh := wrap64 (show d.n < 62 by omega)
  have h0 : (0 : Int) ≤ (d.n : Int) := by omega
  have h1 : (d.n : Int) ≤ 64 := by omega
  have hN : 2 ^ d.n ≤ 4096 := pow_small (n := 12) hn
  have HAL : Hid ((List.range (2 ^ d.n)).filter p = d.alls p) := rfl
  obtain ⟨N, hNe⟩ : ∃ N, N = 2 ^ d.n := ⟨_, rfl⟩
  rw [← hNe] at hsh hN HP HAL
  clear hd hfa hp hNe
  obtain ⟨x0, x1, x2⟩ := (HD.out w (Below.refl _ _)).1
  go_enter Try.func62, Try.ntmps62
  go_upto_region 3 with fail
  clear x0 x1 x2 hsh h0 h1
  go_wp2_with fail
  go_loopw [12, 5] (fun iv ov wr => ∃ i : Nat, iv = .int .i64 i ∧ i ≤ N ∧ Hid (OwnV wr w.heap.size 75 ov (((List.range i).filter p).map sv)) ∧ Hid (Below w.heap.size w wr)) (fun iv _ _ => N - (intOf iv).toNat)
  case atStart => exact ⟨0, rfl, Nat.zero_le _, ownV_nil _ _ _, Below.refl _ _⟩
  case round =>
    obtain ⟨i, rfl, hi, HT, HBr⟩ := hrel
    obtain ⟨a, n, c, rfl⟩ := ownV_sh HT.out
    have HNL : Hid ((((List.range i).filter p).map sv).length < 1000000) := by
      show _ < _
      rw [List.length_map]
      have := List.length_filter_le p (List.range i)
      rw [List.length_range] at this
      omega
    by_cases hlt : i < N
    · have HC := hid (HP.out wr HBr.out i hlt)
      have HSU := hid (filter_take (p := p) i)
      unfold sv at HC
      dsimp only at HC
      have hcv : IntKind.u16.wrap (i : Int) = (i : Int) := by rw [IntKind.wrap_u16]; omega
      cases hq : p i with
      | false =>
        rw [hq] at HC HSU
        clear hq
        go_wp2_with (first | (go_at_fn g; refine HC.out.mono ?_; rintro e w6 ⟨rfl, hb6⟩; have HB6 := hid hb6; clear hb6) | fail)
        go_roundw
        case rel => exact ⟨i + 1, by go_num, by omega, by rw [HSU.out]; exact ownV_below HT.out HB6.out, HBr.out.trans (HB6.out.mono HBr.out.size)⟩
        case measure => simp [intOf]; omega
      | true =>
        rw [hq] at HC HSU
        clear hq
        go_wp2_with (first | (go_at_fn g; refine HC.out.mono ?_; rintro e w6 ⟨rfl, hb6⟩; have HB6 := hid hb6; clear hb6) | (at_builtin; refine wpl_app_set _ _ _ (.slice a n c) w.heap.size _ (by rfl) (by rfl) (by rfl) (by rfl) (ownV_below HT.out HB6.out) HNL.out (Nat.le_trans HBr.out.size HB6.out.size) ?_; intro v' w7 ho7 hb7 hg7; obtain ⟨sa, sn, sc, rfl⟩ := ownV_sh ho7; have HO7 := hid ho7; have HB7 := hid hb7; clear ho7 hb7 hg7) | fail)
        go_roundw
        case rel => exact ⟨i + 1, by go_num, by omega, by rw [HSU.out, if_pos (by trivial), List.map_append]; exact HO7.out, (HBr.out.trans (HB6.out.mono HBr.out.size)).trans HB7.out⟩
        case measure => simp [intOf]; omega
    · obtain rfl : i = N := by omega
      rw [HAL.out] at HT
      go_wp2_with fail
      go_ret
      exact ⟨_, rfl, HT.out, HBr.out⟩
end Go.Proofs.Ytaedbkdimpdngaa
