/-
  The statement RhythmCritical: the law answers true for all bytes.
-/
import Derived.Test.YtpoekblolicehaaDoorBaseD
import Derived.Test.YtpoekblolicehaaDoorPlainE
import Derived.Test.YtpoekblolicehaaDoorLawTwo
import Derived.Test.YtpoekblolicehaaDoorLawLocals
import Derived.Test.YtpoekblolicehaaDoorLawPeriods
namespace Go.Proofs.YtpoekblolicehaaDoor
open Go.RowKit

theorem mem_critTo (l : Str) (m i : Nat) (h1 : 1 ≤ i) : ((i : Int) ∈ critTo l m) ↔ (i ≤ m ∧ loc l i = least l) := by
  simp only [critTo, List.mem_map, List.mem_filter, List.mem_range, beq_iff_eq]
  constructor
  · rintro ⟨a, ⟨ha, hb⟩, hc⟩
    have : i = a + 1 := by omega
    subst this
    exact ⟨by omega, hb⟩
  · rintro ⟨ha, hb⟩
    exact ⟨i - 1, ⟨by omega, by rw [show i - 1 + 1 = i by omega]; exact hb⟩, by omega⟩
theorem crits_ix (l : Str) (k : Nat) (hk : k < (crits l).length) : ∃ i : Nat, ix (crits l) k = i ∧ 1 ≤ i ∧ i < l.length := by
  have : ix (crits l) k ∈ crits l := by
    unfold ix
    rw [List.getD_eq_getElem?_getD, List.getElem?_eq_getElem hk]
    simp
  simp only [crits, critTo, List.mem_map, List.mem_filter, List.mem_range] at this
  obtain ⟨a, ⟨ha, hb⟩, hc⟩ := this
  exact ⟨a + 1, hc.symm, by omega, by omega⟩
theorem take_mem (xs : List Int) (k : Nat) (hk : k < xs.length) (v : Int) : decide (v ∈ xs.take (k + 1)) = if v = ix xs k then true else decide (v ∈ xs.take k) := by
  have : ix xs k = xs[k] := by simp [ix, hk]
  rw [List.take_succ_eq_append_getElem hk, this]
  by_cases h : v = xs[k]
  · rw [if_pos h, decide_eq_true]
    rw [List.mem_append, List.mem_singleton]; exact .inr h
  · rw [if_neg h]
    congr 1
    rw [List.mem_append, List.mem_singleton, eq_iff_iff]
    exact ⟨fun h2 => h2.resolve_right h, .inl⟩

set_option maxHeartbeats 1000000 in
set_option maxRecDepth 100000 in
theorem RhythmCritical_ok (a : Option Addr) (len cap : Nat) (zs : List Int) (w : World) (hr : IsRow .u8 w a len cap zs) :
    Calls Tryd.prog 8 #[.slice a len cap] w fun e w' => e = .returned (.bool true) ∧ Below w.heap.size w w' := by
  have cM := hid (made_any a len cap zs 200 w hr (by decide) (by decide))
  have cL := hid lives_any
  clear hr
  go_enter Tryd.func8, Tryd.ntmps8
  go_wp2_with fail
  refine cM.out.mono ?_
  rintro e w1 ⟨s, rfl, hs, hsz, n1, rfl⟩
  have h1 : 1 ≤ s.size := chk_pos hs
  have cP := hid (fun w => periods_fin s w (by omega))
  have cQ := hid (fun w => locals_fin s w (by omega))
  have cC := hid (fun w => crits_fin s w (by omega))
  obtain ⟨hp0, hpl⟩ := periods_ix s.data.toList h1
  have hpp := least_spec s.data.toList h1
  have hp1 := hpp.1
  have hp2 := hpp.2.1
  clear hpp
  rw [data_size] at hp2
  have F1 := hid (fun i (h : i ≤ s.size) => loc_le_least s.data.toList i h1 h)
  have F2 : Hid (∀ i, i < s.size - 1 → ix (locals s.data.toList) i = (loc s.data.toList (i + 1) : Int)) := hid (fun i h => locTo_ix s.data.toList (s.size - 1) i h)
  have F3 := hid (fun k (h : k < (crits s.data.toList).length) => crits_ix s.data.toList k h)
  have F4 : Hid (∀ i : Nat, 1 ≤ i → ((i : Int) ∈ crits s.data.toList ↔ (i ≤ s.data.toList.length - 1 ∧ loc s.data.toList i = least s.data.toList))) := hid (fun i h => mem_critTo s.data.toList _ i h)
  have F5 := hid (fun i => critical_row s.data.toList i h1)
  have F6 : (locals s.data.toList).length = s.size - 1 := locTo_length _ _
  generalize chk s.data.toList = q at *
  subst hs
  simp only [if_true] at cP cQ cC
  simp only [data_size] at F3 F4 F5
  generalize periods s.data.toList = P at *
  generalize locals s.data.toList = Q at *
  generalize crits s.data.toList = C at *
  generalize least s.data.toList = p at *
  generalize loc s.data.toList = L at *
  have HP0 := hid hp0
  clear hp0
  go_wp2_with fail
  refine (cP.out _).mono ?_
  rintro e w2 ⟨v, rfl, hv, hb⟩
  have Hv := hid hv
  have Hb := hid (below_of_drewN hb)
  clear hv hb
  go_wp2_with fail
  refine (cQ.out _).mono ?_
  rintro e w3 ⟨u, rfl, hu, hb3⟩
  have Hu := hid hu
  have Hv3 := hid (isInts_below Hv.out hb3)
  have Hb3 := hid (Hb.out.trans (hb3.mono Hb.out.size))
  clear hu hb3 Hv Hb
  go_wp2_with fail
  refine (cC.out _).mono ?_
  rintro e w4 ⟨x, rfl, hx, hb4⟩
  have Hx := hid hx
  have Hv4 := hid (isInts_below Hv3.out hb4)
  have Hu4 := hid (isInts_below Hu.out hb4)
  have Hb4 := hid (Hb3.out.trans (hb4.mono Hb3.out.size))
  clear hx hb4 Hu Hv3 Hb3
  obtain ⟨pa, pc, rfl, hpl2, hpc⟩ := Hv4.out
  obtain ⟨qa, qc, rfl, hql2, hqc⟩ := Hu4.out
  obtain ⟨ca, cc, rfl, hcl2, hcc⟩ := Hx.out
  unfold maxLen at hpl2 hql2 hcl2
  obtain ⟨gp, rfl, cp0⟩ := hpc 0 (by omega)
  rw [HP0.out] at cp0
  clear hpc hqc hcc
  have eQ : (Q.length : Int) = (s.size : Int) - 1 := by omega
  generalize hN : P.length = N at *
  generalize hM : C.length = M at *
  generalize hK : Q.length = K at *
  have HN := hid hN
  have HM := hid hM
  have HK := hid hK
  clear hN hM hK
  have b1 : ((N : Int) == 0) = false := by simp; omega
  have b2 : decide ((p : Int) < 1) = false := by simp; omega
  have b3 : ((K : Int) == (s.size : Int) - 1) = true := by simp [eQ]
  have b4 : IntKind.i64.wrap ((s.size : Int) - 1) = (s.size : Int) - 1 := IntWalk.i64_in _ (by omega)
  have EQ := hid eQ
  clear eQ F6
  have hmk := make_bools s.size (by omega)
  go_wp2_with fail
  refine (cL.out _).mono ?_
  rintro e w5 ⟨rfl, hb5⟩
  have Hv5 := hid (isInts_below Hv4.out hb5)
  have Hu5 := hid (isInts_below Hu4.out hb5)
  have Hx5 := hid (isInts_below Hx.out hb5)
  have Hb5 := hid (Hb4.out.trans (hb5.mono Hb4.out.size))
  clear hb5 Hv4 Hu4 Hx Hb4 cp0
  go_wp2_with fail
  obtain ⟨G, hG⟩ : ∃ G, G = w5.heap.size := ⟨_, rfl⟩
  rw [← hG]
  have HG := hid hG
  clear hG
  go_loopg [11] M (fun g i wr => ∃ k : Nat, k ≤ M ∧ g = M - k ∧ i = .int .i64 k ∧ Hid (IsBools wr G s.size (fun j => decide ((j : Int) ∈ C.take k))) ∧ Hid (Below G w5 wr))
  case atStart => exact ⟨0, Nat.zero_le _, by omega, rfl, isBools_congr (isBools_new _ _ _ HG.out _) (by simp), (Below.refl _ _).alloc (by rw [HG.out]; exact Nat.le_refl _) _⟩
  case round =>
    obtain ⟨k, hk, hgk, rfl, HB, HL⟩ := hrel
    have HGK := hid hgk; clear hgk
    have HX := hid (isInts_below Hx5.out (by rw [← HG.out]; exact HL.out))
    by_cases hlt : k < M
    · obtain ⟨_, _, he, hl, hc⟩ := HX.out
      injection he with e1 e2 e3
      subst e1 e3
      obtain ⟨g, rfl, cl⟩ := hc k (by rw [HM.out]; exact hlt)
      obtain ⟨j, hj, hj1, hj2⟩ := F3.out k (by omega)
      rw [hj] at cl
      have HJ := hid hj
      obtain ⟨c1, c2⟩ := HB.out.2 j hj2
      generalize decide ((j : Int) ∈ C.take k) = b at c1
      clear hc hl e2 hj
      have d1 : decide ((j : Int) < 1) = false := by simp; omega
      have d2 : decide ((s.size : Int) ≤ (j : Int)) = false := by simp; omega
      have d3 : (j : Int) < s.size := by omega
      have d4 : decide ((j : Int) ≥ (s.size : Int)) = false := by simp; omega
      go_wp2_with fail
      go_roundg (M - (k + 1))
      case measure => have := HGK.out; omega
      case rel =>
        refine ⟨k + 1, by omega, rfl, by go_num, hid (isBools_congr (isBools_set HB.out j hj2 true) fun i hi => ?_), hid (HL.out.setCell (Nat.le_refl _) _)⟩
        rw [take_mem C k (by rw [HM.out]; exact hlt), HJ.out]
        by_cases hij : i = j
        · subst hij; rw [if_pos rfl, if_pos rfl]
        · rw [if_neg hij, if_neg (by omega)]
    · obtain rfl : k = M := by omega
      rw [List.take_of_length_le (by rw [HM.out]; exact Nat.le_refl _)] at HB
      have HV := hid (isInts_below Hv5.out (by rw [← HG.out]; exact HL.out))
      have HU := hid (isInts_below Hu5.out (by rw [← HG.out]; exact HL.out))
      have Hend := hid (Hb5.out.trans (HL.out.mono (by rw [HG.out]; exact Hb5.out.size)))
      clear HX HL Hx5 Hv5 Hu5 Hb5 HGK
      obtain ⟨I, hI⟩ : ∃ I : Nat → Bool, I = fun j : Nat => decide ((j : Int) ∈ C) := ⟨_, rfl⟩
      rw [← hI] at HB
      have HI := hid (fun i (h : 1 ≤ i) (h2 : i < s.size) => show I i = decide (L i = p) by
        rw [hI]
        simp only [F4.out i h, decide_eq_decide]
        exact ⟨fun h => h.2, fun h => ⟨by omega, h⟩⟩)
      clear hI
      obtain ⟨_, _, he, _, hpc⟩ := HV.out
      injection he with e1 e2 e3
      subst e1 e3
      obtain ⟨_, ep, cp⟩ := hpc 0 (by rw [HN.out]; omega)
      injection ep with ep
      injection ep with ep
      subst ep
      rw [HP0.out] at cp
      clear hpc e2
      go_wp2_with fail
      go_loopg [12] (s.size - 1) (fun g i w' => ∃ x : Nat, x + 1 ≤ s.size ∧ g = s.size - 1 - x ∧ i = .int .i64 ((x : Int) + 1) ∧ ∃ m, w' = wr.drewN m)
      case atStart => exact ⟨0, by omega, by omega, rfl, 0, rfl⟩
      case round =>
        obtain ⟨x, hx, hgx, rfl, m, rfl⟩ := hrel
        have HGX := hid hgx; clear hgx
        by_cases hxl : x + 1 < s.size
        · obtain ⟨_, _, he, _, hc⟩ := HU.out
          injection he with e1 e2 e3
          subst e1 e3
          obtain ⟨g, rfl, cl⟩ := hc x (by rw [HK.out]; have := EQ.out; omega)
          rw [F2.out x (by omega)] at cl
          clear hc e2
          obtain ⟨c1, c2⟩ := HB.out.2 (x + 1) hxl
          rw [HI.out (x + 1) (by omega) hxl] at c1
          have hLp := F1.out (x + 1) hx
          generalize L (x + 1) = y at *
          have i1 : IntKind.i64.wrap (x : Int) = (x : Int) := IntWalk.i64_in _ (by omega)
          have i3 : (x : Int) < K := by have := EQ.out; omega
          have i5 : decide ((y : Int) > p) = false := by simp; omega
          have i6 : decide ((p : Int) < y) = false := by simp; omega
          have i10 : decide (p < y) = false := by simp; omega
          have i7 : (x : Int) + 1 < s.size := by omega
          have i9 : ((x : Int) + 1).toNat = x + 1 := by omega
          by_cases hy : y = p
          · have i8 : ((y : Int) == p) = true := by simp [hy]
            have i11 : (y == p) = true := by simp [hy]
            have i12 : decide (y = p) = true := by simp [hy]
            rw [decide_eq_true hy] at c1
            clear hy
            go_wp2_with fail
            go_quiet (fail)
            go_wp2_with fail
            go_roundg (s.size - 1 - (x + 1))
            case measure => have := HGX.out; omega
            case rel => exact ⟨x + 1, by omega, rfl, by go_num, (by first | exact ⟨_, rfl⟩ | exact drew2 _ _ _)⟩
          · have i8 : ((y : Int) == p) = false := by simp; omega
            have i11 : (y == p) = false := by simp [hy]
            have i12 : decide (y = p) = false := by simp [hy]
            rw [decide_eq_false hy] at c1
            clear hy
            go_wp2_with fail
            go_quiet (fail)
            go_wp2_with fail
            go_roundg (s.size - 1 - (x + 1))
            case measure => have := HGX.out; omega
            case rel => exact ⟨x + 1, by omega, rfl, by go_num, (by first | exact ⟨_, rfl⟩ | exact drew2 _ _ _)⟩
        · clear HU F1 F2 EQ
          go_wp2_with fail
          go_loopg [13] (s.size - 1) (fun g i w' => ∃ x : Nat, 1 ≤ x ∧ x ≤ s.size ∧ g = s.size - x ∧ i = .int .i64 x ∧ ∃ m, w' = wr.drewN m)
          case atStart => exact ⟨1, Nat.le_refl _, h1, by omega, rfl, m, rfl⟩
          case round =>
            obtain ⟨y, hy1, hy, hgy, rfl, m, rfl⟩ := hrel
            have HGY := hid hgy; clear hgy
            have i1 : IntKind.i64.wrap ((y : Int) + p) = (y : Int) + p := IntWalk.i64_in _ (by omega)
            by_cases hyp : y + p ≤ s.size
            · have i2 : decide ((y : Int) + p ≤ s.size) = true := by simp; omega
              obtain ⟨z, hz1, hz2, hz⟩ := F5.out y hy1 hyp
              have HZ := hid hz
              clear hz
              go_wp2_with fail
              go_loopg [14, 15] (s.size - y) (fun g f i w' => ∃ (x : Nat) (b : Bool), y ≤ x ∧ x ≤ y + p ∧ g = s.size - x ∧ f = .bool b ∧ i = .int .i64 x ∧ Hid (z < x → b = true) ∧ ∃ m, w' = wr.drewN m)
              case atStart => exact ⟨y, false, Nat.le_refl _, by omega, by omega, rfl, rfl, fun h => absurd h (by omega), m, rfl⟩
              case round =>
                obtain ⟨v, b, hv1, hv, hgv, rfl, rfl, HF, m, rfl⟩ := hrel
                have HGV := hid hgv; clear hgv
                by_cases hvp : v < y + p
                · have i3 : decide ((v : Int) < (y : Int) + p) = true := by simp; omega
                  obtain ⟨c1, c2⟩ := HB.out.2 v (by omega)
                  have HIv := hid (HI.out v (by omega) (by omega))
                  generalize I v = d at *
                  have i4 : (v : Int) < s.size := by omega
                  cases b
                  · go_wp2_with fail
                    go_roundg (s.size - (v + 1))
                    case measure => have := HGV.out; omega
                    case rel =>
                      refine ⟨v + 1, d, by omega, by omega, rfl, (by rfl), by go_num, ?_, (by first | exact ⟨_, rfl⟩ | exact drew2 _ _ _)⟩
                      intro hlt
                      by_cases hzv : z < v
                      · exact absurd (HF.out hzv) (by decide)
                      · obtain rfl : z = v := by omega
                        rw [HIv.out, HZ.out]; simp
                  · go_wp2_with fail
                    go_roundg (s.size - (v + 1))
                    case measure => have := HGV.out; omega
                    case rel => exact ⟨v + 1, true, by omega, by omega, rfl, (by rfl), by go_num, fun _ => rfl, (by first | exact ⟨_, rfl⟩ | exact drew2 _ _ _)⟩
                · have i3 : decide ((v : Int) < (y : Int) + p) = false := by simp; omega
                  obtain rfl : b = true := HF.out (by omega)
                  go_wp2_with fail
                  go_roundg (s.size - (y + 1))
                  case measure => have := HGY.out; omega
                  case rel => exact ⟨y + 1, by omega, by omega, rfl, by go_num, (by first | exact ⟨_, rfl⟩ | exact drew2 _ _ _)⟩
            · have i2 : decide ((y : Int) + p ≤ s.size) = false := by simp; omega
              go_wp2_with fail
              go_ret
              exact ⟨rfl, below_drewN_r Hend.out _⟩
end Go.Proofs.YtpoekblolicehaaDoor
