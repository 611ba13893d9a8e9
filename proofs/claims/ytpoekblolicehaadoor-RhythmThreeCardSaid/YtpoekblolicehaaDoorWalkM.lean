/-
  The walk over chapter 1: points on a circle.
-/
import Derived.Test.YtpoekblolicehaaDoorBaseD
import Derived.Test.YtpoekblolicehaaDoorWalkK
import Derived.Test.YtpoekblolicehaaDoorPlainG
namespace Go.Proofs.YtpoekblolicehaaDoor
open Go.RowKit

set_option maxHeartbeats 400000 in
theorem gaps_bad (s c n : Int) (w : World) (h : n < 1 ∨ 1000 < n ∨ s < 0 ∨ n ≤ s ∨ c < 1 ∨ n < c) :
    Calls Tryd.prog 41 #[.int .i64 s, .int .i64 c, .int .i64 n] w fun e w' => e = .returned (.tuple #[.slice none 0 0, .int .i64 1]) ∧ ∃ m, w' = w.drewN m := by
  by_cases h1 : n < 1
  · go_enter Tryd.func41, Tryd.ntmps41
    go_wp2_with fail
    go_ret2
    exact ⟨rfl, 0, rfl⟩
  by_cases h2 : 1000 < n
  · go_enter Tryd.func41, Tryd.ntmps41
    go_wp2_with fail
    go_ret2
    exact ⟨rfl, 0, rfl⟩
  by_cases h3 : s < 0
  · go_enter Tryd.func41, Tryd.ntmps41
    go_wp2_with fail
    go_ret2
    exact ⟨rfl, 0, rfl⟩
  by_cases h4 : n ≤ s
  · go_enter Tryd.func41, Tryd.ntmps41
    go_wp2_with fail
    go_ret2
    exact ⟨rfl, 0, rfl⟩
  by_cases h5 : c < 1
  · go_enter Tryd.func41, Tryd.ntmps41
    go_wp2_with fail
    go_ret2
    exact ⟨rfl, 0, rfl⟩
  have h6 : n < c := by omega
  clear h
  go_enter Tryd.func41, Tryd.ntmps41
  go_wp2_with fail
  go_ret2
  exact ⟨rfl, 0, rfl⟩

set_option maxHeartbeats 1000000 in
set_option maxRecDepth 100000 in
theorem gaps_good (s c n : Nat) (w : World) (hn1 : 1 ≤ n) (hn : n ≤ 1000) (hs : s < n) (hc1 : 1 ≤ c) (hc : c ≤ n) :
    Calls Tryd.prog 41 #[.int .i64 s, .int .i64 c, .int .i64 n] w fun e w' => ∃ v, e = .returned (.tuple #[v, .int .i64 (if apart s n c = true then 0 else 5)]) ∧ Own w' w.heap.size 3 v (ints (if apart s n c = true then gaps s c n else [])) ∧ Below w.heap.size w w' := by
  have hmk := make_bools n (by omega)
  have d1 : decide ((n : Int) < 1) = false := by simp; omega
  have d2 : decide ((1000 : Int) < n) = false := by simp; omega
  have d3 : decide ((s : Int) < 0) = false := by simp
  have d4 : decide (n ≤ s) = false := by simp; omega
  have d5 : decide ((c : Int) < 1) = false := by simp; omega
  have d6 : decide (n < c) = false := by simp; omega
  obtain ⟨R1, hR1⟩ : ∃ R1 : Int, R1 = if apart s n c = true then 0 else 5 := ⟨_, rfl⟩
  obtain ⟨R2, hR2⟩ : ∃ R2 : List Int, R2 = if apart s n c = true then gaps s c n else [] := ⟨_, rfl⟩
  rw [← hR1, ← hR2]
  have HR1 := hid hR1
  have HR2 := hid hR2
  clear hR1 hR2
  have HD := hid (fun k => apart_succ s n k)
  have HL := hid (fun k (h : k ≤ c) (ha : apart s n c = true) => apart_less ha h)
  go_enter Tryd.func41, Tryd.ntmps41
  go_wp2_with fail
  obtain ⟨G, hG⟩ : ∃ G, G = w.heap.size := ⟨_, rfl⟩
  rw [← hG]
  have HG := hid hG
  clear hG
  go_loopg [9, 40] c (fun g v i wr => ∃ k : Nat, k ≤ c ∧ g = c - k ∧ i = .int .i64 k ∧ apart s n k = true ∧ Hid (IsBools wr G n (seen s n k)) ∧ Hid (Below G w wr) ∧ Hid (G < wr.heap.size))
  case atStart => exact ⟨0, Nat.zero_le _, by omega, rfl, rfl, isBools_congr (isBools_new _ _ _ HG.out _) (fun j _ => rfl), (Below.refl _ _).alloc (by rw [HG.out]; exact Nat.le_refl _) _, by rw [HG.out]; unfold Hid; simp⟩
  case round =>
    obtain ⟨k, hk, hgk, rfl, hap, HB, HW, HGW⟩ := hrel
    have HGK := hid hgk; clear hgk
    have HAP := hid hap; clear hap
    by_cases hlt : k < c
    · have hm0 : k * s ≤ 1000 * 1000 := Nat.mul_le_mul (by omega) (by omega)
      have hx0 : pt s n k < n := Nat.mod_lt _ (by omega)
      have hxp : pt s n k = k * s % n := rfl
      have hd := HD.out k
      obtain ⟨m, hm⟩ : ∃ m : Nat, m = k * s := ⟨_, rfl⟩
      have e1 : (k : Int) * (s : Int) = (m : Int) := by rw [hm]; simp
      rw [← hm] at hm0 hxp
      have hset := hid (fun x => seen_succ s n k x)
      obtain ⟨c1, c2⟩ := HB.out.2 _ hx0
      generalize pt s n k = x at *
      have e2 : IntKind.i64.wrap (m : Int) = (m : Int) := IntWalk.i64_in _ (by omega)
      have e3 : (m : Int) % (n : Int) = (x : Int) := by rw [hxp]; simp
      have e4 : Int.tmod (m : Int) (n : Int) = (x : Int) := by rw [hxp, Int.tmod_eq_emod_of_nonneg (by omega)]; simp
      have e5 : (x : Int) < n := by omega
      have e6 : ((n : Int) == 0) = false := by simp; omega
      have e7 : IntKind.i64.wrap (x : Int) = (x : Int) := IntWalk.i64_in _ (by omega)
      clear hm hxp
      generalize hq : seen s n k x = q at *
      have HQ := hid hq
      clear hq
      have HDD := hid hd
      clear hd
      cases q
      · go_wp2_with fail
        go_roundg (c - (k + 1))
        case measure => have := HGK.out; omega
        case rel =>
          refine ⟨k + 1, by omega, rfl, by go_num, by rw [HDD.out, HAP.out]; rfl, isBools_congr (isBools_set HB.out x hx0 true) (fun j _ => by rw [hset.out]), HW.out.setCell (Nat.le_refl _) _, by have := HGW.out; unfold Hid; simpa [World.setCell] using this⟩
      · have hno : (if apart s n c = true then (0 : Int) else 5) = 5 := by
          rw [if_neg]
          intro h
          have := HL.out (k + 1) hlt h
          rw [HDD.out, HAP.out] at this
          cases this
        have hno2 : (if apart s n c = true then gaps s c n else []) = [] := by
          rw [if_neg]
          intro h
          have := HL.out (k + 1) hlt h
          rw [HDD.out, HAP.out] at this
          cases this
        have h1 := HR1.out
        have h2 := HR2.out
        rw [hno] at h1
        rw [hno2] at h2
        subst h1 h2
        clear hno hno2 HR1 HR2
        go_wp2_with fail
        go_ret2
        exact ⟨_, rfl, own_nil _ _ _, by rw [← HG.out]; exact HW.out⟩
    · obtain rfl : k = c := by omega
      have h1 := HR1.out
      have h2 := HR2.out
      rw [if_pos HAP.out] at h1 h2
      have HGS := hid (show R2 = (gapTo (seen s n k) n n).1 from h2)
      subst h1
      clear HAP HL HD HGK HR1 HR2 h2
      generalize seen s n k = f at *
      go_wp2_with fail
      go_loopg [10, 11, 12] n (fun g v last i w2 => ∃ x : Nat, x ≤ n ∧ g = n - x ∧ i = .int .i64 ((x : Int) + 1) ∧ last = .int .i64 ((gapTo f n x).2 : Nat) ∧ Hid (Own w2 (G + 1) 3 v (ints (gapTo f n x).1)) ∧ Hid (Below (G + 1) wr w2))
      case atStart => exact ⟨0, Nat.zero_le _, rfl, rfl, rfl, own_nil _ _ _, Below.refl _ _⟩
      case round =>
        obtain ⟨x, hx, hgx, rfl, rfl, HO, HB2⟩ := hrel
        have HGX := hid hgx; clear hgx
        have hle := gapTo_le f n x
        have hyes := hid (gapTo_yes f n x)
        have hnoo := hid (gapTo_no f n x)
        generalize hgt : gapTo f n x = gt at *
        obtain ⟨out, last⟩ := gt
        simp only at hle HO
        have hle1 := hle.1
        have hle2 := hle.2
        clear hle
        have hsz := HB2.out.size
        have hgw := HGW.out
        have HGT := hid hgt
        clear hgt
        by_cases hxl : x < n
        · have i1 : (x : Int) + 1 ≤ n := by omega
          have i2 : IntKind.i64.wrap ((x : Int) + 1 - (last : Int)) = (x : Int) + 1 - last := IntWalk.i64_in _ (by omega)
          by_cases hxn : x + 1 = n
          · have i3 : ((x : Int) + 1 == n) = true := by simp; omega
            go_wp2_with (at_builtin; refine wpl_app_int (.tmp 73) (.tmp 77) u10 (G + 1) out (by rfl) (by rfl) (by rfl) (by rfl) (by exact HO.out) (by omega) (by omega) ?_; intro v' w' hown' hgrow)
            have HO' := hid hown'
            have HG' := hid hgrow
            clear hown' hgrow
            go_wp2_with fail
            go_roundg (n - (x + 1))
            case measure => have := HGX.out; omega
            case rel =>
              have hy := hyes.out (.inl hxn)
              refine ⟨x + 1, by omega, rfl, by go_num, by rw [hy]; go_num, by rw [hy]; exact HO'.out, HB2.out.trans HG'.out⟩
          · have i3 : ((x : Int) + 1 == n) = false := by simp; omega
            obtain ⟨c1, c2⟩ := (isBools_under HB.out HB2.out (Nat.lt_succ_self _)).2 (x + 1) (by omega)
            have i4 : (x : Int) + 1 < n := by omega
            generalize hfx : f (x + 1) = fx at c1
            have HFX := hid hfx
            clear hfx
            cases fx
            · go_wp2_with fail
              go_roundg (n - (x + 1))
              case measure => have := HGX.out; omega
              case rel =>
                have hy := hnoo.out hxn HFX.out
                refine ⟨x + 1, by omega, rfl, by go_num, by rw [hy], by rw [hy]; exact HO.out, HB2.out⟩
            · go_wp2_with (at_builtin; refine wpl_app_int (.tmp 73) (.tmp 77) u10 (G + 1) out (by rfl) (by rfl) (by rfl) (by rfl) (by exact HO.out) (by omega) (by omega) ?_; intro v' w' hown' hgrow)
              have HO' := hid hown'
              have HG' := hid hgrow
              clear hown' hgrow
              go_wp2_with fail
              go_roundg (n - (x + 1))
              case measure => have := HGX.out; omega
              case rel =>
                have hy := hyes.out (.inr HFX.out)
                refine ⟨x + 1, by omega, rfl, by go_num, by rw [hy]; go_num, by rw [hy]; exact HO'.out, HB2.out.trans HG'.out⟩
        · obtain rfl : x = n := by omega
          go_wp2_with fail
          go_ret2
          refine ⟨_, rfl, ?_, ?_⟩
          · rw [HGS.out, HGT.out]
            exact own_mono HO.out (by rw [← HG.out]; omega)
          · rw [← HG.out]
            exact HW.out.trans (HB2.out.mono (by omega))
set_option maxHeartbeats 1000000 in
set_option maxRecDepth 100000 in
theorem rgaps_good (s c n : Nat) (w : World) (hn1 : 1 ≤ n) (hn : n ≤ 1000) (hs : s < n) (hc1 : 1 ≤ c) (hc : c ≤ n) :
    Calls Tryd.prog 42 #[.int .i64 s, .int .i64 c, .int .i64 n] w fun e w' => ∃ v, e = .returned (.tuple #[v, .bool (apart s n c)]) ∧ Own w' w.heap.size 3 v (ints (if apart s n c = true then gaps s c n else [])) ∧ Below w.heap.size w w' := by
  have hmk := make_bools n (by omega)
  obtain ⟨R1, hR1⟩ : ∃ R1 : Bool, R1 = apart s n c := ⟨_, rfl⟩
  obtain ⟨R2, hR2⟩ : ∃ R2 : List Int, R2 = if apart s n c = true then gaps s c n else [] := ⟨_, rfl⟩
  rw [← hR2, ← hR1]
  have HR1 := hid hR1
  have HR2 := hid hR2
  clear hR1 hR2
  have HD := hid (fun k => apart_succ s n k)
  have HL := hid (fun k (h : k ≤ c) (ha : apart s n c = true) => apart_less ha h)
  go_enter Tryd.func42, Tryd.ntmps42
  go_wp2_with fail
  obtain ⟨G, hG⟩ : ∃ G, G = w.heap.size := ⟨_, rfl⟩
  rw [← hG]
  have HG := hid hG
  clear hG
  go_loopg [9] c (fun g i wr => ∃ k : Nat, k ≤ c ∧ g = c - k ∧ i = .int .i64 k ∧ apart s n k = true ∧ Hid (IsBools wr G n (seen s n k)) ∧ Hid (Below G w wr) ∧ Hid (G < wr.heap.size))
  case atStart => exact ⟨0, Nat.zero_le _, by omega, rfl, rfl, isBools_congr (isBools_new _ _ _ HG.out _) (fun j _ => rfl), (Below.refl _ _).alloc (by rw [HG.out]; exact Nat.le_refl _) _, by rw [HG.out]; unfold Hid; simp⟩
  case round =>
    obtain ⟨k, hk, hgk, rfl, hap, HB, HW, HGW⟩ := hrel
    have HGK := hid hgk; clear hgk
    have HAP := hid hap; clear hap
    by_cases hlt : k < c
    · have hm0 : k * s ≤ 1000 * 1000 := Nat.mul_le_mul (by omega) (by omega)
      have hx0 : pt s n k < n := Nat.mod_lt _ (by omega)
      have hxp : pt s n k = k * s % n := rfl
      have hd := HD.out k
      obtain ⟨m, hm⟩ : ∃ m : Nat, m = k * s := ⟨_, rfl⟩
      have e1 : (k : Int) * (s : Int) = (m : Int) := by rw [hm]; simp
      rw [← hm] at hm0 hxp
      have hset := hid (fun x => seen_succ s n k x)
      obtain ⟨c1, c2⟩ := HB.out.2 _ hx0
      generalize pt s n k = x at *
      have e2 : IntKind.i64.wrap (m : Int) = (m : Int) := IntWalk.i64_in _ (by omega)
      have e3 : (m : Int) % (n : Int) = (x : Int) := by rw [hxp]; simp
      have e4 : Int.tmod (m : Int) (n : Int) = (x : Int) := by rw [hxp, Int.tmod_eq_emod_of_nonneg (by omega)]; simp
      have e5 : (x : Int) < n := by omega
      have e6 : ((n : Int) == 0) = false := by simp; omega
      have e7 : IntKind.i64.wrap (x : Int) = (x : Int) := IntWalk.i64_in _ (by omega)
      clear hm hxp
      generalize hq : seen s n k x = q at *
      have HQ := hid hq
      clear hq
      have HDD := hid hd
      clear hd
      cases q
      · go_wp2_with fail
        go_roundg (c - (k + 1))
        case measure => have := HGK.out; omega
        case rel =>
          refine ⟨k + 1, by omega, rfl, by go_num, by rw [HDD.out, HAP.out]; rfl, isBools_congr (isBools_set HB.out x hx0 true) (fun j _ => by rw [hset.out]), HW.out.setCell (Nat.le_refl _) _, by have := HGW.out; unfold Hid; simpa [World.setCell] using this⟩
      · have hno : apart s n c = false := by
          cases h : apart s n c with
          | false => rfl
          | true =>
          have := HL.out (k + 1) hlt h
          rw [HDD.out, HAP.out] at this
          cases this
        have hno2 : (if apart s n c = true then gaps s c n else []) = [] := by
          rw [if_neg]
          intro h
          have := HL.out (k + 1) hlt h
          rw [HDD.out, HAP.out] at this
          cases this
        have h1 := HR1.out
        have h2 := HR2.out
        rw [hno] at h1
        rw [hno2] at h2
        subst h1 h2
        clear hno hno2 HR1 HR2
        go_wp2_with fail
        go_ret2
        exact ⟨_, rfl, own_nil _ _ _, by rw [← HG.out]; exact HW.out⟩
    · obtain rfl : k = c := by omega
      have h1 := HR1.out
      have h2 := HR2.out
      rw [if_pos HAP.out] at h2
      rw [HAP.out] at h1
      have HGS := hid (show R2 = (gapTo (seen s n k) n n).1 from h2)
      subst h1
      clear HAP HL HD HGK HR1 HR2 h2
      generalize seen s n k = f at *
      go_wp2_with fail
      go_loopg [10, 11, 12] n (fun g v last i w2 => ∃ x : Nat, x ≤ n ∧ g = n - x ∧ i = .int .i64 ((x : Int) + 1) ∧ last = .int .i64 ((gapTo f n x).2 : Nat) ∧ Hid (Own w2 (G + 1) 3 v (ints (gapTo f n x).1)) ∧ Hid (Below (G + 1) wr w2))
      case atStart => exact ⟨0, Nat.zero_le _, rfl, rfl, rfl, own_made0 _ _ _ (by have := HGW.out; omega), (Below.refl _ _).alloc (by have := HGW.out; omega) _⟩
      case round =>
        obtain ⟨x, hx, hgx, rfl, rfl, HO, HB2⟩ := hrel
        have HGX := hid hgx; clear hgx
        have hle := gapTo_le f n x
        have hyes := hid (gapTo_yes f n x)
        have hnoo := hid (gapTo_no f n x)
        generalize hgt : gapTo f n x = gt at *
        obtain ⟨out, last⟩ := gt
        simp only at hle HO
        have hle1 := hle.1
        have hle2 := hle.2
        clear hle
        have hsz := HB2.out.size
        have hgw := HGW.out
        have HGT := hid hgt
        clear hgt
        by_cases hxl : x < n
        · have i1 : (x : Int) + 1 ≤ n := by omega
          have i2 : IntKind.i64.wrap ((x : Int) + 1 - (last : Int)) = (x : Int) + 1 - last := IntWalk.i64_in _ (by omega)
          by_cases hxn : x + 1 = n
          · have i3 : ((x : Int) + 1 == n) = true := by simp; omega
            go_wp2_with (at_builtin; refine wpl_app_int (.tmp 50) (.tmp 54) u10 (G + 1) out (by rfl) (by rfl) (by rfl) (by rfl) (by exact HO.out) (by omega) (by omega) ?_; intro v' w' hown' hgrow)
            have HO' := hid hown'
            have HG' := hid hgrow
            clear hown' hgrow
            go_wp2_with fail
            go_roundg (n - (x + 1))
            case measure => have := HGX.out; omega
            case rel =>
              have hy := hyes.out (.inl hxn)
              refine ⟨x + 1, by omega, rfl, by go_num, by rw [hy]; go_num, by rw [hy]; exact HO'.out, HB2.out.trans HG'.out⟩
          · have i3 : ((x : Int) + 1 == n) = false := by simp; omega
            obtain ⟨c1, c2⟩ := (isBools_under HB.out HB2.out (Nat.lt_succ_self _)).2 (x + 1) (by omega)
            have i4 : (x : Int) + 1 < n := by omega
            generalize hfx : f (x + 1) = fx at c1
            have HFX := hid hfx
            clear hfx
            cases fx
            · go_wp2_with fail
              go_roundg (n - (x + 1))
              case measure => have := HGX.out; omega
              case rel =>
                have hy := hnoo.out hxn HFX.out
                refine ⟨x + 1, by omega, rfl, by go_num, by rw [hy], by rw [hy]; exact HO.out, HB2.out⟩
            · go_wp2_with (at_builtin; refine wpl_app_int (.tmp 50) (.tmp 54) u10 (G + 1) out (by rfl) (by rfl) (by rfl) (by rfl) (by exact HO.out) (by omega) (by omega) ?_; intro v' w' hown' hgrow)
              have HO' := hid hown'
              have HG' := hid hgrow
              clear hown' hgrow
              go_wp2_with fail
              go_roundg (n - (x + 1))
              case measure => have := HGX.out; omega
              case rel =>
                have hy := hyes.out (.inr HFX.out)
                refine ⟨x + 1, by omega, rfl, by go_num, by rw [hy]; go_num, by rw [hy]; exact HO'.out, HB2.out.trans HG'.out⟩
        · obtain rfl : x = n := by omega
          go_wp2_with fail
          go_ret2
          refine ⟨_, rfl, ?_, ?_⟩
          · rw [HGS.out, HGT.out]
            exact own_mono HO.out (by rw [← HG.out]; omega)
          · rw [← HG.out]
            exact HW.out.trans (HB2.out.mono (by omega))
end Go.Proofs.YtpoekblolicehaaDoor
