/-
  The statement RhythmTwo: the law answers true for all bytes and numbers (Fine and Wilf).
-/
import Derived.Test.YtpoekblolicehaaDoorWalkK
import Derived.Test.YtpoekblolicehaaDoorPlainD
namespace Go.Proofs.YtpoekblolicehaaDoor
open Go.RowKit

set_option maxHeartbeats 400000 in
theorem has_any (v : Int) (b : Nat) (pv : Value) (xs : List Int) (w : World) (hb : w.cell? ⟨b, 0, none⟩ = some pv) (hp : IsInts w pv xs) :
    Calls Tryd.prog 38 #[.int .i64 v, .pointer (some ⟨b, 0, none⟩)] w fun e w' => e = .returned (.bool (decide (v ∈ xs))) ∧ ∃ n, w' = w.drewN n := by
  obtain ⟨a, c, rfl, hn, Ha⟩ := hp
  unfold maxLen at hn
  have HA := hid Ha
  clear Ha
  generalize hN : xs.length = n at *
  have HN := hid hN
  clear hN
  go_enter Tryd.func38, Tryd.ntmps38
  go_wp2
  go_loopg [4] n (fun g i wr => ∃ k : Nat, k ≤ n ∧ g = n - k ∧ i = .int .i64 k ∧ v ∉ xs.take k ∧ wr = w)
  case atStart => exact ⟨0, Nat.zero_le _, by omega, rfl, by simp, rfl⟩
  case round =>
    obtain ⟨k, hk, hgk, rfl, ht, rfl⟩ := hrel
    have Ht := hid ht; clear ht
    have HGK := hid hgk; clear hgk
    by_cases hlt : k < n
    · obtain ⟨g, rfl, ca⟩ := HA.out k hlt
      by_cases hv : ix xs k = v
      · have hvb : (ix xs k == v) = true := by simp [hv]
        have Hv := hid hv; clear hv
        go_wp2
        go_ret
        refine ⟨ret_bool ?_, 0, rfl⟩
        rw [eq_comm, decide_eq_true_iff, ← Hv.out]
        unfold ix
        rw [List.getD_eq_getElem?_getD, List.getElem?_eq_getElem (by rw [HN.out]; exact hlt)]
        simp
      · have hvb : (ix xs k == v) = false := by simp [hv]
        have Hv := hid hv; clear hv
        go_wp2
        go_roundg (n - (k + 1))
        case measure => have := HGK.out; omega
        case rel =>
          refine ⟨k + 1, by omega, rfl, by go_num, ?_, rfl⟩
          rw [List.take_succ_eq_append_getElem (by rw [HN.out]; exact hlt), List.mem_append]
          rintro (h | h)
          · exact Ht.out h
          · apply Hv.out
            unfold ix
            rw [List.getD_eq_getElem?_getD, List.getElem?_eq_getElem (by rw [HN.out]; exact hlt)]
            have h2 := List.mem_singleton.1 h
            rw [h2]; rfl
    · go_wp2
      go_ret
      obtain rfl : k = n := by omega
      refine ⟨ret_bool ?_, 0, rfl⟩
      rw [eq_comm, decide_eq_false_iff_not]
      have := Ht.out
      rwa [List.take_of_length_le (by rw [HN.out]; exact Nat.le_refl _)] at this

/-- a quiet call inside a second region that draws -/
theorem quiet_add {P : Program} {f : FuncId} {args : Array Value} {w : World} {a n : Nat} {v : Value}
    (h : Calls P f args (w.drewN (a + n)) fun e w' => e = .returned v ∧ ∃ m, w' = (w.drewN (a + n)).drewN m) :
    Calls P f args (w.drewN (a + n)) fun e w'' => e = .returned v ∧ ∃ m, w'' = w.drewN (a + m) :=
  h.mono fun _ _ ⟨he, m, hm⟩ => ⟨he, n + m, by rw [hm, World.drewN_drewN, Nat.add_assoc]⟩

set_option maxHeartbeats 1000000 in
set_option maxRecDepth 100000 in
theorem RhythmTwo_ok (a : Option Addr) (len cap : Nat) (zs : List Int) (t : Int) (w : World) (hr : IsRow .u8 w a len cap zs) (ht : (Lit.int .u8 t).wf = true) :
    Calls Tryd.prog 7 #[.slice a len cap, .int .u8 t] w fun e w' => e = .returned (.bool true) ∧ Below w.heap.size w w' := by
  have cM := hid (made_any a len cap zs 20 w hr (by decide) (by decide))
  have cL := hid lives_any
  obtain ⟨ht0, ht1⟩ := wf_u8 ht
  clear hr ht
  go_enter Tryd.func7, Tryd.ntmps7
  go_wp2_with fail
  refine cM.out.mono ?_
  rintro e w1 ⟨one, rfl, hone, hos, n1, rfl⟩
  have H1 := hid (chk_pos hone)
  have h1 : 1 ≤ one.size := H1.out
  have HA := hid (chk_ok hone).2.2
  have Hone := hid hone
  clear hone
  go_wp2_with fail
  go_loopg [6, 7] 6 (fun g s i wr => ∃ (k : Nat) (s' : ByteArray), k ≤ 6 ∧ g = 6 - k ∧ i = .int .i64 k ∧ s = .string s' ∧ s'.data.toList = rep one.data.toList k ∧ wr = w.drewN n1)
  case atStart => exact ⟨0, ⟨#[]⟩, by omega, rfl, rfl, rfl, rfl, rfl⟩
  case round =>
    obtain ⟨k, s, hk, hgk, rfl, rfl, hs, rfl⟩ := hrel
    have hsz : s.size = k * one.size := by
      have := congrArg List.length hs
      rwa [rep_length, data_size, data_size] at this
    have hks : k * one.size ≤ 6 * 20 := Nat.mul_le_mul hk hos
    have hss : s.size ≤ 120 := by omega
    have HK := hid hgk; clear hgk
    have HS := hid hs; clear hs
    have HZ := hid hsz; clear hsz hks
    by_cases hlt : (k : Int) ≤ t % 6
    · have hx : (s.size : Int) + one.size ≤ 200 := by omega
      go_wp2_with fail
      go_roundg (6 - (k + 1))
      case measure => have := HK.out; omega
      case rel => exact ⟨k + 1, s ++ one, by omega, rfl, by go_num, rfl, by rw [ByteArray.data_append, Array.toList_append, HS.out]; rfl, rfl⟩
    · have hk0 : 1 ≤ k := by omega
      have hr1 : 0 ≤ t % (one.size : Int) := Int.emod_nonneg _ (by omega)
      have hr2 : t % (one.size : Int) < one.size := Int.emod_lt_of_pos _ (by omega)
      obtain ⟨r, hr⟩ := Int.eq_ofNat_of_zero_le hr1
      have hrl : r ≤ one.size := by omega
      have hr3 : t % (one.size : Int) ≤ one.size := by omega
      have hr4 : (t % (one.size : Int)).toNat ≤ one.size := by omega
      have HR := hid (show (t % (one.size : Int)).toNat = r by omega)
      have hsx : s.size + (one.extract 0 (t % (one.size : Int)).toNat).size ≤ 140 := by
        rw [HR.out, extract_size _ _ _ hrl]; omega
      have hx1 : 1 ≤ (one.size : Int) := by omega
      clear hr
      go_wp2_with fail
      obtain ⟨S, hS⟩ : ∃ S, S = s ++ one.extract 0 (t % (one.size : Int)).toNat := ⟨_, rfl⟩
      rw [← hS]
      have hSl : S.data.toList = rep one.data.toList k ++ one.data.toList.take r := by
        rw [hS, ByteArray.data_append, Array.toList_append, HS.out, HR.out, Lib.extract_from_zero]
      have hSn : S.size ≤ 140 := by rw [hS, ByteArray.size_append]; exact hsx
      have hS1 : one.size ≤ S.size := by
        rw [hS, ByteArray.size_append, HZ.out]
        have := Nat.mul_le_mul_right one.size hk0
        omega
      have hSc : chk S.data.toList = 0 := by
        have hall : S.data.toList.all letter = true := by
          rw [hSl, List.all_append, rep_all _ _ _ HA.out]
          simp only [Bool.true_and, List.all_eq_true]
          intro c hc
          exact List.all_eq_true.1 HA.out c (List.mem_of_mem_take hc)
        rw [chk_good (by rw [data_size]; omega) hall, if_neg]
        intro he
        have : S.data.toList.length = 0 := by rw [List.isEmpty_iff.1 he]; rfl
        rw [data_size] at this
        omega
      have hSp : (one.size : Int) ∈ periods S.data.toList := by
        refine (mem_periods _ _).2 ⟨one.size, rfl, h1, hS1, ?_⟩
        obtain ⟨k', rfl⟩ : ∃ k', k = k' + 1 := ⟨k - 1, by omega⟩
        rw [hSl]
        exact rep_period one.data.toList k' r
      have cP := periods_any S (w.drewN n1) (by omega)
      rw [hSc, if_pos rfl] at cP
      have HSp := hid hSp
      have HSc := hid hSc
      clear hS hSl hSc hSp hsx hr1 hr3 hr4 HR HS HZ hss HK hk hk0 hrl
      refine cP.mono ?_
      rintro e w2 ⟨pv, rfl, hpv, hb2⟩
      have hpi := own_isInts hpv
      have Hpi := hid hpi
      obtain ⟨pa, pc, rfl, hpl, hpc⟩ := hpi
      have Hb2 := hid (below_of_drewN hb2)
      have hsz2 := Hb2.out.size
      clear hpv hb2 cP hpc
      generalize hxs : periods S.data.toList = xs at *
      have HX := hid hxs
      clear hxs
      obtain ⟨N, hN⟩ : ∃ N, N = xs.length := ⟨_, rfl⟩
      unfold maxLen at hpl
      rw [← hN] at hpl Hpi
      rw [← hN]
      have HN := hid hN; clear hN
      go_wp2_with fail
      refine (cL.out _).mono ?_
      rintro e w3 ⟨rfl, hb3⟩
      have hsz3 := hb3.size
      simp at hsz3
      have cc : w3.cell? ⟨w2.heap.size, 0, none⟩ = some (.slice pa N pc) := by
        rw [hb3.cell (p := ⟨w2.heap.size, 0, none⟩) (by simp)]
        rw [World.cell?, heap_alloc_new]; rfl
      have Hb3 := hid hb3
      clear hb3
      have hNpos : 1 ≤ N := by
        have := (periods_ix S.data.toList (by rw [data_size]; omega)).2
        rw [HX.out] at this
        rw [HN.out]; exact this
      have hlast : ix xs (N - 1) = S.size := by
        have := periods_last S.data.toList (by rw [data_size]; omega)
        rw [HX.out, ← HN.out, data_size] at this
        exact this
      have hin3 : IsInts w3 (.slice pa N pc) xs := isInts_below Hpi.out (((Below.refl w2.heap.size w2).alloc (Nat.le_refl _) _).trans (Hb3.out.mono (by simp)))
      have Hin3 := hid hin3
      obtain ⟨pa', pc', he, hl', hc'⟩ := hin3
      rw [← HN.out] at he hc'
      injection he with e1 e2 e3
      subst e1 e3
      obtain ⟨g, rfl, cl⟩ := hc' (N - 1) (by omega)
      rw [hlast] at cl
      have hN0 : ((N : Int) == 0) = false := by simp; omega
      have hc2 := hid hc'
      have Hlast := hid hlast
      clear hc' hl' e2 hlast
      have cH := hid (fun v => has_any v w2.heap.size _ xs w3 cc Hin3.out)
      go_wp2_with fail
      refine (cH.out _).mono ?_
      rintro e w4 ⟨rfl, n4, rfl⟩
      rw [decide_eq_true (by exact HSp.out)]
      go_wp2_with fail
      go_loopg [11] N (fun g i wr => ∃ x : Nat, x ≤ N ∧ g = N - x ∧ i = .int .i64 x ∧ ∃ m, wr = w3.drewN m)
      case atStart => exact ⟨0, Nat.zero_le _, by omega, rfl, _, rfl⟩
      case round =>
        obtain ⟨x, hx, hgx, rfl, m, rfl⟩ := hrel
        have HGX := hid hgx; clear hgx
        by_cases hxl : x < N
        · go_wp2_with fail
          go_loopg [12, 13] x (fun gh y gv wr => ∃ z : Nat, z ≤ x ∧ gh = x - z ∧ y = .int .i64 z ∧ ∃ m, wr = w3.drewN m)
          case atStart => exact ⟨0, Nat.zero_le _, by omega, rfl, _, rfl⟩
          case round =>
            obtain ⟨z, hz, hgz, rfl, m2, rfl⟩ := hrel
            have HGZ := hid hgz; clear hgz
            by_cases hzl : z < x
            · obtain ⟨_, ez, cz⟩ := hc2.out z (by omega)
              cases ez
              obtain ⟨_, ex, cx⟩ := hc2.out x hxl
              cases ex
              have hT := two_ok S.data.toList x z (by rw [HX.out, ← HN.out]; exact hxl) (by rw [HX.out, ← HN.out]; omega)
              rw [HX.out, data_size] at hT
              generalize ix xs z = a1 at *
              generalize ix xs x = a2 at *
              obtain ⟨q1, q2, q3, q4, q5⟩ := hT
              have hG := fun w => gcd_any a1 a2 w (by omega) (by omega) (by omega) (by omega)
              have hGb : Nat.gcd a1.toNat a2.toNat ≤ 1000 := by
                have := Nat.gcd_le_left a2.toNat (show 0 < a1.toNat by omega)
                omega
              generalize Nat.gcd a1.toNat a2.toNat = G at *
              have HG := hid hG
              have HF := hid q5
              clear hG q5
              have i1 : ¬ a1 < 1 := by omega
              have i4 : (z : Int) < N := by omega
              have i5 : (x : Int) < N := by omega
              have i6 : decide (a1 < 1) = false := by simp; omega
              have i2 : IntKind.i64.wrap (a1 + a2) = a1 + a2 := IntWalk.i64_in _ (by omega)
              have i3 : IntKind.i64.wrap (a1 + a2 - G) = a1 + a2 - G := IntWalk.i64_in _ (by omega)
              go_wp2_with fail
              go_quiet ((go_at_call 35; exact quiet_add (HG.out _)))
              go_wp2_with fail
              by_cases hq : a1 + a2 - (G : Int) ≤ S.size
              · have hqd : decide (a1 + a2 - (G : Int) ≤ (S.size : Int)) = true := by simpa using hq
                have cHG := fun m => has_any G w2.heap.size _ xs (w3.drewN m) (by exact cc) (by exact Hin3.out)
                rw [decide_eq_true (by exact HF.out hq)] at cHG
                have CH := hid cHG
                clear cHG
                go_quiet ((go_at_call 38; exact quiet_add (CH.out _)))
                go_wp2_with fail
                go_roundg (x - (z + 1))
                case measure => have := HGZ.out; omega
                case rel => exact ⟨z + 1, by omega, rfl, by go_num, (by first | exact ⟨_, rfl⟩ | exact drew2 _ _ _)⟩
              · have hqd : decide (a1 + a2 - (G : Int) ≤ (S.size : Int)) = false := by simpa using hq
                go_quiet (fail)
                go_wp2_with fail
                go_roundg (x - (z + 1))
                case measure => have := HGZ.out; omega
                case rel => exact ⟨z + 1, by omega, rfl, by go_num, (by first | exact ⟨_, rfl⟩ | exact drew2 _ _ _)⟩
            · go_wp2_with fail
              go_roundg (N - (x + 1))
              case measure => have := HGX.out; omega
              case rel => exact ⟨x + 1, by omega, rfl, by go_num, _, rfl⟩
        · go_wp2_with fail
          go_ret
          exact ⟨rfl, below_drewN_r (Hb2.out.trans ((((Below.refl w2.heap.size w2).alloc (Nat.le_refl _) _).trans (Hb3.out.mono (by simp))).mono hsz2)) _⟩
end Go.Proofs.YtpoekblolicehaaDoor
