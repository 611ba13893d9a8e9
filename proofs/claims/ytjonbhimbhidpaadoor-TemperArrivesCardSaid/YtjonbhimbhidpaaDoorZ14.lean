/-
  Walks over chapter 6: an oven is made of numbers.
-/
import Derived.Test.YtjonbhimbhidpaaDoorZ13
namespace Go.Proofs.YtjonbhimbhidpaaDoor
open Go.RowKit
set_option maxHeartbeats 8000000 in
set_option maxRecDepth 100000 in
theorem made_any (ph ro wi : Int) (ca : Option Addr) (cn cc : Nat) (ma : Option Addr) (mn mc : Nat) (ja : Option Addr) (jn jc : Nat) (w : World) (hk : ArgKiln w ph ro wi ca cn cc ma mn mc ja jn jc) :
    Calls Tryd.prog 24 #[.agg #[.int .u8 ph, .int .u8 ro, .int .u8 wi, .slice ca cn cc, .slice ma mn mc, .slice ja jn jc]] w fun e w' => ∃ vs vm vj q, e = .returned (.agg #[vs, vm, vj]) ∧ OwnOv w' w.heap.size vs vm vj q ∧ q.valid = true ∧ q.moves.length ≤ 8 ∧ Below w.heap.size w w' := by
  have HK := hid hk
  clear hk
  go_enter Tryd.func24, Tryd.ntmps24
  go_wp2
  have hb3 : Below w.heap.size w (((w.alloc (.cells #[.int .u8 ph, .int .u8 ro, .int .u8 wi, .slice ca cn cc, .slice ma mn mc, .slice ja jn jc] 45)).alloc (.cells #[.slice none 0 0, .slice none 0 0, .slice none 0 0] 26)).alloc (.cells #[.slice none 0 0, .slice none 0 0, .slice none 0 0] 26)) := ((((Below.refl _ _).alloc (Nat.le_refl _) _).alloc (by simp) _).alloc (by simp; omega) _)
  have hx3 := heap_alloc_new ((w.alloc (.cells #[.int .u8 ph, .int .u8 ro, .int .u8 wi, .slice ca cn cc, .slice ma mn mc, .slice ja jn jc] 45)).alloc (.cells #[.slice none 0 0, .slice none 0 0, .slice none 0 0] 26)) (.cells #[.slice none 0 0, .slice none 0 0, .slice none 0 0] 26)
  obtain ⟨_, hz2, k0, k1⟩ := alloc2 w (.cells #[.int .u8 ph, .int .u8 ro, .int .u8 wi, .slice ca cn cc, .slice ma mn mc, .slice ja jn jc] 45) (.cells #[.slice none 0 0, .slice none 0 0, .slice none 0 0] 26)
  have ha := (Below.refl ((w.alloc (.cells #[.int .u8 ph, .int .u8 ro, .int .u8 wi, .slice ca cn cc, .slice ma mn mc, .slice ja jn jc] 45)).alloc (.cells #[.slice none 0 0, .slice none 0 0, .slice none 0 0] 26)).heap.size ((w.alloc (.cells #[.int .u8 ph, .int .u8 ro, .int .u8 wi, .slice ca cn cc, .slice ma mn mc, .slice ja jn jc] 45)).alloc (.cells #[.slice none 0 0, .slice none 0 0, .slice none 0 0] 26))).alloc (Nat.le_refl _) (.cells #[.slice none 0 0, .slice none 0 0, .slice none 0 0] 26)
  have k0' := (ha.block w.heap.size (by omega)).trans k0
  have k1' := (ha.block (w.heap.size + 1) (by omega)).trans k1
  rw [hz2] at hx3
  have hsz : (((w.alloc (.cells #[.int .u8 ph, .int .u8 ro, .int .u8 wi, .slice ca cn cc, .slice ma mn mc, .slice ja jn jc] 45)).alloc (.cells #[.slice none 0 0, .slice none 0 0, .slice none 0 0] 26)).alloc (.cells #[.slice none 0 0, .slice none 0 0, .slice none 0 0] 26)).heap.size = w.heap.size + 3 := by simp
  generalize (((w.alloc (.cells #[.int .u8 ph, .int .u8 ro, .int .u8 wi, .slice ca cn cc, .slice ma mn mc, .slice ja jn jc] 45)).alloc (.cells #[.slice none 0 0, .slice none 0 0, .slice none 0 0] 26)).alloc (.cells #[.slice none 0 0, .slice none 0 0, .slice none 0 0] 26)) = w3 at *
  obtain ⟨X, hX⟩ : ∃ X, X = w.heap.size + 2 := ⟨_, rfl⟩
  rw [show w.heap.size + 1 + 1 = X from hX.symm]
  rw [← hX] at hx3
  have HB3 := hid hb3
  have HK0 := hid k0'
  have HK1 := hid k1'
  clear hb3 k0 k1 k0' k1' ha hz2
  have CT0 : Hid (Cut X X (.slice none 0 0) (.slice none 0 0) (.slice none 0 0) [] [] [] w3) := ⟨Nat.le_refl _, hx3, ownG_nil _ _, World.ownsRow_nil _ _ _ _, World.ownsRow_nil _ _ _ _⟩
  have hph := HK.out.ph
  have hro := HK.out.ro
  have hwi := HK.out.wi
  obtain ⟨P, hP⟩ : ∃ P : Nat, ph % 2 = (P : Int) := ⟨(ph % 2).toNat, by omega⟩
  obtain ⟨R, hR⟩ : ∃ R : Nat, ro % 6 = (R : Int) := ⟨(ro % 6).toNat, by omega⟩
  obtain ⟨C, hC⟩ : ∃ C : Nat, wi % 6 = (C : Int) := ⟨(wi % 6).toNat, by omega⟩
  have HPP := hid hP
  have HRR := hid hR
  have HCC := hid hC
  have hP1 : P ≤ 1 := by omega
  have hR1 : R ≤ 5 := by omega
  have hC1 : C ≤ 5 := by omega
  have hcn := HK.out.cells.1
  unfold maxLen at hcn
  have KF : Hid (∀ w', Below X w3 w' → w'.cell? ⟨w.heap.size, 0, none⟩ = some (.int .u8 ph) ∧ w'.cell? ⟨w.heap.size, 1, none⟩ = some (.int .u8 ro) ∧ w'.cell? ⟨w.heap.size, 2, none⟩ = some (.int .u8 wi) ∧ w'.cell? ⟨w.heap.size, 3, none⟩ = some (.slice ca cn cc) ∧ w'.cell? ⟨w.heap.size, 4, none⟩ = some (.slice ma mn mc) ∧ w'.cell? ⟨w.heap.size, 5, none⟩ = some (.slice ja jn jc)) := by
    intro w' hb
    have h := (hb.block w.heap.size (by omega)).trans HK0.out
    refine ⟨?_, ?_, ?_, ?_, ?_, ?_⟩ <;> simp [World.cell?, h]
  have HX := hid hX
  clear hx3 hX hP hR hC
  go_loopw [4, 5] (fun av pv wr => ∃ (k pp : Nat) (g : Grid) (a : Option Addr) (n c : Nat), av = .int .i64 k ∧ pv = .int .i64 pp ∧ pp ≤ P + 1 ∧ k ≤ pp * 36 ∧ g.length = pp ∧ Hid (∀ s ∈ g, phaseOk (R + 1) (C + 1) s = true) ∧ Hid (Cut X X (.slice a n c) (.slice none 0 0) (.slice none 0 0) g [] [] wr) ∧ Hid (Below X w3 wr)) (fun _ pv _ => P + 1 - (intOf pv).toNat)
  case atStart => exact ⟨0, 0, [], none, 0, 0, rfl, rfl, Nat.zero_le _, Nat.zero_le _, rfl, fun s hs => by simp at hs, CT0, Below.refl _ _⟩
  case round =>
    obtain ⟨k, pp, g, a, n, c, rfl, rfl, hpp, hk, hg, HGO, CT, HBR⟩ := hrel
    rename World => wo
    obtain ⟨y0, y1, y2, y3, y4, y5⟩ := KF.out wo HBR.out
    by_cases hlt : pp ≤ P
    · have hms := (Below.refl wo.heap.size wo).alloc (Nat.le_refl _) (.cells #[] 9)
      have HM : Hid (OwnT (wo.alloc (.cells #[] 9)) wo.heap.size (.slice (some ⟨wo.heap.size, 0, none⟩) 0 0) []) := ownT_made wo _ (Nat.le_refl _)
      have HMB := hid hms
      have hXr : X ≤ wo.heap.size := by have := HBR.out.size; have := HX.out; omega
      clear hms y0 y1 y2 y3 y4 y5
      obtain ⟨y0, y1, y2, y3, y4, y5⟩ := KF.out wo HBR.out
      have hP := HPP.out
      go_wp2
      clear hP
      go_loopw [4, 6, 7] (fun av v6 yv wy => ∃ (k2 y : Nat) (rows : List Str) (a2 : Option Addr) (m2 c2 : Nat), av = .int .i64 k2 ∧ v6 = .slice a2 m2 c2 ∧ yv = .int .i64 y ∧ y ≤ R + 1 ∧ k2 ≤ pp * 36 + y * 6 ∧ rows.length = y ∧ Hid (rowsOk (C + 1) rows = true) ∧ Hid (OwnT wy wo.heap.size (.slice a2 m2 c2) rows) ∧ Hid (Below wo.heap.size wo wy)) (fun _ _ yv _ => R + 1 - (intOf yv).toNat)
      case atStart => exact ⟨k, 0, [], _, 0, 0, rfl, rfl, rfl, Nat.zero_le _, by omega, rfl, rfl, HM, HMB⟩
      case round =>
        obtain ⟨k2, y, rows, a2, m2, c2, rfl, rfl, rfl, hy, hk2, hrl, HRO, HT, HBY⟩ := hrel
        rename World => wy
        clear y0 y1 y2 y3 y4 y5
        have HBW := hid (HBR.out.trans (HBY.out.mono hXr))
        obtain ⟨y0, y1, y2, y3, y4, y5⟩ := KF.out wy HBW.out
        by_cases hly : y ≤ R
        · have hlr : rows.length < 1000000 := by omega
          have HLR := hid hlr
          have hR := HRR.out
          go_wp2
          clear hR
          go_loopw [4, 8, 9] (fun av v8 xv wx => ∃ (k3 x : Nat) (l : Str), av = .int .i64 k3 ∧ v8 = .string (strB l) ∧ xv = .int .i64 x ∧ x ≤ C + 1 ∧ k3 ≤ pp * 36 + y * 6 + x ∧ l.length = x ∧ Hid (l.all dotx = true) ∧ wx = wy) (fun _ _ xv _ => C + 1 - (intOf xv).toNat)
          case atStart => exact ⟨k2, 0, [], rfl, rfl, rfl, Nat.zero_le _, by omega, rfl, rfl, rfl⟩
          case round =>
            obtain ⟨k3, x, l, rfl, rfl, rfl, hx, hk3, hll, HD, rfl⟩ := hrel
            have hC := HCC.out
            by_cases hlx : x ≤ C
            · have HD35 : Hid ((l ++ [35]).all dotx = true) := by show _ = _; rw [List.all_append, HD.out]; rfl
              have HD46 : Hid ((l ++ [46]).all dotx = true) := by show _ = _; rw [List.all_append, HD.out]; rfl
              have hs1 := strB_snoc l 35
              have hs2 := strB_snoc l 46
              have hts := strB_size l
              rw [hll] at hts
              generalize strB l = t at *
              have ht6 : t.size ≤ 6 := by omega
              have HS1 := hid hs1
              have HS2 := hid hs2
              clear hs1 hs2
              by_cases hkc : k3 < cn
              · obtain ⟨ad, z, rfl, hadl, hcell, hz0, hz1⟩ := HK.out.cells.2 k3 hkc
                have e1 := ((HB3.out.trans (HBW.out.mono (by have := HX.out; omega))).cell (p := ad.add k3) (by rw [add_block]; exact hadl)).trans hcell
                clear hcell hadl
                by_cases hz4 : z % 4 = 0
                · go_wp2
                  go_roundw
                  case rel => exact ⟨k3 + 1, x + 1, l ++ [35], by go_num, by rw [← HS1.out], by go_num, by omega, by omega, by simp [hll], HD35, trivial⟩
                  case measure => simp [intOf]; omega
                · go_wp2
                  go_roundw
                  case rel => exact ⟨k3 + 1, x + 1, l ++ [46], by go_num, by rw [← HS2.out], by go_num, by omega, by omega, by simp [hll], HD46, trivial⟩
                  case measure => simp [intOf]; omega
              · go_wp2
                go_roundw
                case rel => exact ⟨k3 + 1, x + 1, l ++ [46], by go_num, by rw [← HS2.out], by go_num, by omega, by omega, by simp [hll], HD46, trivial⟩
                case measure => simp [intOf]; omega
            · obtain rfl : x = C + 1 := by omega
              have HRX : Hid (rowsOk (C + 1) (rows ++ [l]) = true) := by
                have h := HRO.out
                show _ = _
                unfold rowsOk at h ⊢
                rw [List.all_append, h, List.all_cons, List.all_nil, Bool.and_true, Bool.true_and]
                unfold rowOk
                rw [HD.out, hll]; simp
              go_wp2_with (first | (at_builtin; refine wpl_app_str l _ _ (.slice a2 m2 c2) wo.heap.size rows (by rfl) (by rfl) (by rfl) (by rfl) HT.out HLR.out HBY.out.size ?_; intro v' w7 ho7 hb7; obtain ⟨sa, sn, sc, rfl⟩ := ownT_slice' ho7; have HO7 := hid ho7; have HB7 := hid (HBY.out.trans hb7); clear ho7 hb7) | fail)
              go_roundw
              case rel => exact ⟨k3, y + 1, rows ++ [l], sa, sn, sc, rfl, rfl, by go_num, by omega, by omega, by simp [hrl], HRX, HO7, HB7⟩
              case measure => simp [intOf]; omega
        · obtain rfl : y = R + 1 := by omega
          have HPH : Hid (∀ s ∈ g ++ [rows], phaseOk (R + 1) (C + 1) s = true) := by
            intro s hs
            rw [List.mem_append, List.mem_singleton] at hs
            rcases hs with hs | rfl
            · exact HGO.out s hs
            · unfold phaseOk
              rw [HRO.out, hrl]; simp
          have CTY := hid (CT.out.below HBY.out)
          have CTA := hid (CTY.out.below ((Below.refl _ _).alloc (Nat.le_refl _) (.cells #[.slice a2 m2 c2] 71)))
          have HTX := hid (ownT_mono HT.out hXr)
          have hgl : g.length < 1000000 := by omega
          have HGL := hid hgl
          have hXy : X ≤ wy.heap.size := by have := HBY.out.size; omega
          obtain ⟨b0, b1, b2⟩ := cells3_of CTY.out.box
          have hlX := CTY.out.lt
          clear hgl b1 b2
          have hR := HRR.out
          go_wp2_with (first
            | (at_builtin; refine wpl_app_row2 (.slice a2 m2 c2) rows _ _ (.slice a n c) X g (by rfl) (by rfl) (by rfl) (by rfl) CTY.out.g HTX.out HGL.out hXy ?_; intro v' w7 ho7 hg7; obtain ⟨sa, sn, sc, rfl⟩ := ownG_slice' ho7; have HC7 : Hid (∀ w9, w9 = w7.setCell ⟨X, 0, none⟩ (.slice sa sn sc) → Cut X X (.slice sa sn sc) (.slice none 0 0) (.slice none 0 0) (g ++ [rows]) [] [] w9) := (fun w9 e => e ▸ Cut.step CTA.out hg7 ho7); have hb7 := (Cut.grid CTA.out hg7).1; obtain ⟨b70, b71, b72⟩ := cells3_of hb7; obtain ⟨f70, f71, f72⟩ := free3_of hb7; have HB7 : Hid (Below X w3 w7) := (HBW.out.alloc hXy (.cells #[.slice a2 m2 c2] 71)).grown hg7 (by have := HBW.out.size; have := HX.out; simp; omega) (fun k hk => (ownG_lt CTY.out.g k hk).1); clear ho7 hg7 hb7 b71 b72 f71 f72)
            | fail)
          clear hR
          go_roundw
          case rel => exact ⟨k2, pp + 1, g ++ [rows], sa, sn, sc, rfl, by go_num, by omega, by omega, by simp [hg], HPH, HC7.out _ rfl, HB7.out.setCell (p := ⟨X, 0, none⟩) (Nat.le_refl _) _⟩
          case measure => simp [intOf]; omega
    · obtain rfl : pp = P + 1 := by omega
      have hn : n = P + 1 := by
        obtain ⟨us, h1, _, _⟩ := CT.out.g
        obtain ⟨_, _, e⟩ := row_slice h1
        simp at e; omega
      obtain rfl := hn
      have hP := HPP.out
      go_upto_block 6 with fail
      clear hP y0 y1 y2 y3 y4 y5
      go_cut [10] (fun _ wx => ∃ (i : Nat) (ms : List Mv) (a2 : Option Addr) (n2 c2 : Nat), i ≤ 8 ∧ ms.length = i ∧ Hid (∀ m ∈ ms, mvOk (P + 1) m = true) ∧ Hid (Cut X X (.slice a (P + 1) c) (.slice a2 n2 c2) (.slice none 0 0) g ms [] wx) ∧ Hid (Below X w3 wx))
      case first =>
       go_wp2_with fail
       go_loopw [10] (fun iv wr => ∃ (i : Nat) (ms : List Mv) (a2 : Option Addr) (n2 c2 : Nat), iv = .int .i64 i ∧ i ≤ 8 ∧ ms.length = i ∧ Hid (∀ m ∈ ms, mvOk (P + 1) m = true) ∧ Hid (Cut X X (.slice a (P + 1) c) (.slice a2 n2 c2) (.slice none 0 0) g ms [] wr) ∧ Hid (Below X w3 wr)) (fun iv _ => 8 - (intOf iv).toNat)
       case atStart => exact ⟨0, [], none, 0, 0, rfl, by omega, rfl, fun m hm => by simp at hm, CT, HBR⟩
       case round =>
        obtain ⟨i, ms, a2, n2, c2, rfl, hi, hml, HMO, CT4, HB4⟩ := hrel
        rename World => wr
        obtain ⟨y0, y1, y2, y3, y4, y5⟩ := KF.out wr HB4.out
        by_cases him : i < mn
        · by_cases hi8 : i < 8
          · obtain ⟨ad, z0, z1, z2, z3, rfl, hadl, e0, e1, e2, e3, g0, g1, g2, g3⟩ := HK.out.moves.2 i him
            have hbw := HB3.out.trans (HB4.out.mono (by have := HX.out; omega))
            have f0 := (hbw.cell (p := ad.add (i * 4)) (by rw [add_block]; exact hadl)).trans e0
            have f1 : wr.cell? { block := (ad.add (i * 4)).block, off := (ad.add (i * 4)).off + 1 } = some (.int .u8 z1) := (hbw.cell (p := { block := (ad.add (i * 4)).block, off := (ad.add (i * 4)).off + 1 }) (by show (ad.add (i * 4)).block < _; rw [add_block]; exact hadl)).trans ((congrArg w.cell? (add_succ ad (i * 4) 0)).symm.trans e1)
            have f2 : wr.cell? { block := (ad.add (i * 4)).block, off := (ad.add (i * 4)).off + 2 } = some (.int .u8 z2) := (hbw.cell (p := { block := (ad.add (i * 4)).block, off := (ad.add (i * 4)).off + 2 }) (by show (ad.add (i * 4)).block < _; rw [add_block]; exact hadl)).trans ((congrArg w.cell? (add_succ ad (i * 4) 1)).symm.trans e2)
            have f3 : wr.cell? { block := (ad.add (i * 4)).block, off := (ad.add (i * 4)).off + 3 } = some (.int .u8 z3) := (hbw.cell (p := { block := (ad.add (i * 4)).block, off := (ad.add (i * 4)).off + 3 }) (by show (ad.add (i * 4)).block < _; rw [add_block]; exact hadl)).trans ((congrArg w.cell? (add_succ ad (i * 4) 2)).symm.trans e3)
            clear e0 e1 e2 e3 hbw hadl
            have R0 : Hid (R4 X wr.heap.size w3 z0 z1 z2 z3 (.slice a (P + 1) c) (.slice a2 n2 c2) (.slice none 0 0) g ms [] (wr.alloc (.cells #[.int .u8 z0, .int .u8 z1, .int .u8 z2, .int .u8 z3] 46)).drew) := R4.start CT4.out HB4.out
            have NZ : Hid (¬ (P : Int) + 1 = 0) := by show ¬ _; omega
            have REM : Hid (∀ z : Int, 0 ≤ z → z.tmod ((P : Int) + 1) = z % ((P : Int) + 1)) := fun z hz => Int.tmod_eq_emod_of_nonneg hz
            have HMS : Hid (∀ m ∈ ms ++ [(z0 % ((P : Int) + 1), z1 % ((P : Int) + 1), smallI z2, smallI z3)], mvOk (P + 1) m = true) := by
              intro m hm
              rw [List.mem_append, List.mem_singleton] at hm
              rcases hm with hm | rfl
              · exact HMO.out m hm
              · have s2 := smallI_le z2
                have s3 := smallI_le z3
                have := Int.emod_nonneg z0 (by omega : (P : Int) + 1 ≠ 0)
                have := Int.emod_lt_of_pos z0 (by omega : (0 : Int) < (P : Int) + 1)
                have := Int.emod_nonneg z1 (by omega : (P : Int) + 1 ≠ 0)
                have := Int.emod_lt_of_pos z1 (by omega : (0 : Int) < (P : Int) + 1)
                unfold mvOk within5
                simp only [Bool.and_eq_true, decide_eq_true_eq]
                rw [show ((P + 1 : Nat) : Int) = (P : Int) + 1 from rfl]
                omega
            go_upto_region 23 with fail
            clear y0 y1 y2 y3 y4 y5 f0 f1 f2 f3
            refine wp_region_held_drew (S := fun w' => w'.cell? ⟨X, 0, none⟩ = some (.slice a (P + 1) c) ∧ w'.cell? ⟨wr.heap.size, 0, none⟩ = some (.int .u8 z0) ∧ w'.cell? ⟨wr.heap.size, 1, none⟩ = some (.int .u8 z1) ∧ w'.cell? ⟨wr.heap.size, 2, none⟩ = some (.int .u8 z2) ∧ w'.cell? ⟨wr.heap.size, 3, none⟩ = some (.int .u8 z3) ∧ Hid (Below X w3 w')) (by kernel_rfl) (R0.out.keep) (fun hHeld => ?_)
            refine take_at (i := 0) 85 (v := .pointer (some ⟨X, 1, none⟩)) rfl (by kernel_rfl) (by kernel_rfl) (by kernel_rfl) rfl (fun _ _ _ h => h) (by rfl) (fun w hSw => ?_) hHeld ?_
            · (try dsimp only at hSw); go_simp
            simp only [Act.put, List.setIfInBounds_toArray, List.set_cons_zero, List.set_cons_succ]
            refine take_at (i := 2) 87 (v := .pointer (some ⟨wr.heap.size, 0, none⟩)) rfl (by kernel_rfl) (by kernel_rfl) (by kernel_rfl) rfl (fun _ _ _ h => h) (by rfl) (fun w hSw => ?_) hHeld ?_
            · (try dsimp only at hSw); go_simp
            simp only [Act.put, List.setIfInBounds_toArray, List.set_cons_zero, List.set_cons_succ]
            refine take_at (i := 3) 88 (v := .int .u8 z0) rfl (by kernel_rfl) (by kernel_rfl) (by kernel_rfl) rfl (fun _ _ _ h => h) (by rfl) (fun w hSw => ?_) hHeld ?_
            · (try dsimp only at hSw); go_simp
            simp only [Act.put, List.setIfInBounds_toArray, List.set_cons_zero, List.set_cons_succ]
            refine take_at (i := 4) 89 (v := .int .i64 z0) rfl (by kernel_rfl) (by kernel_rfl) (by kernel_rfl) rfl (fun _ _ _ h => h) (by rfl) (fun w hSw => ?_) hHeld ?_
            · (try dsimp only at hSw); go_simp; exact wrap_small g0.1 g0.2
            simp only [Act.put, List.setIfInBounds_toArray, List.set_cons_zero, List.set_cons_succ]
            refine take_at (i := 5) 90 (v := .pointer (some ⟨X, 0, none⟩)) rfl (by kernel_rfl) (by kernel_rfl) (by kernel_rfl) rfl (fun _ _ _ h => h) (by rfl) (fun w hSw => ?_) hHeld ?_
            · (try dsimp only at hSw); go_simp
            simp only [Act.put, List.setIfInBounds_toArray, List.set_cons_zero, List.set_cons_succ]
            refine take_at (i := 6) 91 (v := .slice a (P + 1) c) rfl (by kernel_rfl) (by kernel_rfl) (by kernel_rfl) rfl (fun _ _ _ h => h) (by rfl) (fun w hSw => ?_) hHeld ?_
            · (try dsimp only at hSw); go_simp
            simp only [Act.put, List.setIfInBounds_toArray, List.set_cons_zero, List.set_cons_succ]
            refine take_at (i := 7) 92 (v := .int .i64 ((P : Int) + 1)) rfl (by kernel_rfl) (by kernel_rfl) (by kernel_rfl) rfl (fun _ _ _ h => h) (by rfl) (fun w hSw => ?_) hHeld ?_
            · (try dsimp only at hSw); go_simp
            simp only [Act.put, List.setIfInBounds_toArray, List.set_cons_zero, List.set_cons_succ]
            refine take_at (i := 8) 93 (v := .int .i64 (z0 % ((P : Int) + 1))) rfl (by kernel_rfl) (by kernel_rfl) (by kernel_rfl) rfl (fun _ _ _ h => h) (by rfl) (fun w hSw => ?_) hHeld ?_
            · (try dsimp only at hSw); go_simp; rw [if_neg NZ.out, REM.out _ g0.1]
            simp only [Act.put, List.setIfInBounds_toArray, List.set_cons_zero, List.set_cons_succ]
            refine take_at (i := 9) 94 (v := .pointer (some ⟨wr.heap.size, 1, none⟩)) rfl (by kernel_rfl) (by kernel_rfl) (by kernel_rfl) rfl (fun _ _ _ h => h) (by rfl) (fun w hSw => ?_) hHeld ?_
            · (try dsimp only at hSw); go_simp
            simp only [Act.put, List.setIfInBounds_toArray, List.set_cons_zero, List.set_cons_succ]
            refine take_at (i := 10) 95 (v := .int .u8 z1) rfl (by kernel_rfl) (by kernel_rfl) (by kernel_rfl) rfl (fun _ _ _ h => h) (by rfl) (fun w hSw => ?_) hHeld ?_
            · (try dsimp only at hSw); go_simp
            simp only [Act.put, List.setIfInBounds_toArray, List.set_cons_zero, List.set_cons_succ]
            refine take_at (i := 11) 96 (v := .int .i64 z1) rfl (by kernel_rfl) (by kernel_rfl) (by kernel_rfl) rfl (fun _ _ _ h => h) (by rfl) (fun w hSw => ?_) hHeld ?_
            · (try dsimp only at hSw); go_simp; exact wrap_small g1.1 g1.2
            simp only [Act.put, List.setIfInBounds_toArray, List.set_cons_zero, List.set_cons_succ]
            refine take_at (i := 12) 97 (v := .pointer (some ⟨X, 0, none⟩)) rfl (by kernel_rfl) (by kernel_rfl) (by kernel_rfl) rfl (fun _ _ _ h => h) (by rfl) (fun w hSw => ?_) hHeld ?_
            · (try dsimp only at hSw); go_simp
            simp only [Act.put, List.setIfInBounds_toArray, List.set_cons_zero, List.set_cons_succ]
            refine take_at (i := 13) 98 (v := .slice a (P + 1) c) rfl (by kernel_rfl) (by kernel_rfl) (by kernel_rfl) rfl (fun _ _ _ h => h) (by rfl) (fun w hSw => ?_) hHeld ?_
            · (try dsimp only at hSw); go_simp
            simp only [Act.put, List.setIfInBounds_toArray, List.set_cons_zero, List.set_cons_succ]
            refine take_at (i := 14) 99 (v := .int .i64 ((P : Int) + 1)) rfl (by kernel_rfl) (by kernel_rfl) (by kernel_rfl) rfl (fun _ _ _ h => h) (by rfl) (fun w hSw => ?_) hHeld ?_
            · (try dsimp only at hSw); go_simp
            simp only [Act.put, List.setIfInBounds_toArray, List.set_cons_zero, List.set_cons_succ]
            refine take_at (i := 15) 100 (v := .int .i64 (z1 % ((P : Int) + 1))) rfl (by kernel_rfl) (by kernel_rfl) (by kernel_rfl) rfl (fun _ _ _ h => h) (by rfl) (fun w hSw => ?_) hHeld ?_
            · (try dsimp only at hSw); go_simp; rw [if_neg NZ.out, REM.out _ g1.1]
            simp only [Act.put, List.setIfInBounds_toArray, List.set_cons_zero, List.set_cons_succ]
            refine take_at (i := 16) 101 (v := .pointer (some ⟨wr.heap.size, 2, none⟩)) rfl (by kernel_rfl) (by kernel_rfl) (by kernel_rfl) rfl (fun _ _ _ h => h) (by rfl) (fun w hSw => ?_) hHeld ?_
            · (try dsimp only at hSw); go_simp
            simp only [Act.put, List.setIfInBounds_toArray, List.set_cons_zero, List.set_cons_succ]
            refine take_at (i := 17) 102 (v := .int .u8 z2) rfl (by kernel_rfl) (by kernel_rfl) (by kernel_rfl) rfl (fun _ _ _ h => h) (by rfl) (fun w hSw => ?_) hHeld ?_
            · (try dsimp only at hSw); go_simp
            simp only [Act.put, List.setIfInBounds_toArray, List.set_cons_zero, List.set_cons_succ]
            refine take_at (i := 19) 104 (v := .pointer (some ⟨wr.heap.size, 3, none⟩)) rfl (by kernel_rfl) (by kernel_rfl) (by kernel_rfl) rfl (fun _ _ _ h => h) (by rfl) (fun w hSw => ?_) hHeld ?_
            · (try dsimp only at hSw); go_simp
            simp only [Act.put, List.setIfInBounds_toArray, List.set_cons_zero, List.set_cons_succ]
            refine take_at (i := 20) 105 (v := .int .u8 z3) rfl (by kernel_rfl) (by kernel_rfl) (by kernel_rfl) rfl (fun _ _ _ h => h) (by rfl) (fun w hSw => ?_) hHeld ?_
            · (try dsimp only at hSw); go_simp
            simp only [Act.put, List.setIfInBounds_toArray, List.set_cons_zero, List.set_cons_succ]
            have Ra := R0.out
            clear hHeld
            refine wpAnyH_ready (rs := [1, 18]) (by kernel_rfl) (by simp) ?_
            refine node_load23 86 85 _ _ rfl rfl rfl rfl rfl (cells3_of (Ra).box).2.1 (Ra).keep ?_ ?_
            · simp only [Act.put, List.setIfInBounds_toArray, List.set_cons_zero, List.set_cons_succ]
              refine wpAnyH_ready (rs := [18]) (by kernel_rfl) (by simp) ?_
              refine node_call26 103 102 z2 g2.1 g2.2 rfl rfl rfl rfl rfl (Ra).keep ?_ AllReadyH.nil
              · simp only [Act.put, List.setIfInBounds_toArray, List.set_cons_zero, List.set_cons_succ]
                refine wpAnyH_ready (rs := [21]) (by kernel_rfl) (by simp) ?_
                refine node_call26 106 105 z3 g3.1 g3.2 rfl rfl rfl rfl rfl (Ra).keep ?_ AllReadyH.nil
                · simp only [Act.put, List.setIfInBounds_toArray, List.set_cons_zero, List.set_cons_succ]
                  have hHeld := (Ra).keep
                  refine take_at (i := 22) 107 (v := .agg #[.int .i64 (z0 % ((P : Int) + 1)), .int .i64 (z1 % ((P : Int) + 1)), .int .i64 (smallI z2), .int .i64 (smallI z3)]) rfl (by kernel_rfl) (by kernel_rfl) (by kernel_rfl) rfl (fun _ _ _ h => h) (by rfl) (fun w hSw => ?_) hHeld ?_
                  · (try dsimp only at hSw); go_simp
                  simp only [Act.put, List.setIfInBounds_toArray, List.set_cons_zero, List.set_cons_succ]
                  clear hHeld
                  refine wpAnyH_ready (rs := [23]) (by kernel_rfl) (by simp) ?_
                  refine node_buildMv 108 107 _ _ _ _ rfl rfl rfl rfl rfl (Ra).made.keep ?_ AllReadyH.nil
                  · have Rb := (Ra).made (o := .cells #[.int .i64 (z0 % ((P : Int) + 1)), .int .i64 (z1 % ((P : Int) + 1)), .int .i64 (smallI z2), .int .i64 (smallI z3)] 53)
                    have hnew := (Ra).new (Obj.cells #[.int .i64 (z0 % ((P : Int) + 1)), .int .i64 (z1 % ((P : Int) + 1)), .int .i64 (smallI z2), .int .i64 (smallI z3)] 53)
                    clear Ra
                    simp only [Act.put, List.setIfInBounds_toArray, List.set_cons_zero, List.set_cons_succ]
                    refine wpAnyH_ready (rs := [24]) (by kernel_rfl) (by simp) ?_
                    refine node_app1 109 X (.tmp 86) (.tmp 108) 23 53 _ 4 32 info53 rfl (by decide) Tryd.underlying23 _ _ _ _ [.int .i64 (z0 % ((P : Int) + 1)), .int .i64 (z1 % ((P : Int) + 1)), .int .i64 (smallI z2), .int .i64 (smallI z3)] rfl (by intro u hu; simp at hu; rcases hu with rfl | rfl | rfl | rfl <;> rfl) rfl rfl rfl rfl rfl rfl hnew (Rb).cut.mv (Rb).lt (by omega) (by decide) ?_ AllReadyH.nil
                    · intro sa sn sc w9 ho9 hg9
                      have Rc := (Rb).app (sa := sa) (sn := sn) (sc := sc) (z0 % ((P : Int) + 1), z1 % ((P : Int) + 1), smallI z2, smallI z3) hg9 ho9
                      refine ⟨Rc.keep, ?_⟩
                      clear Rb hnew ho9 hg9
                      simp only [Act.put, List.setIfInBounds_toArray, List.set_cons_zero, List.set_cons_succ]
                      have hHeld := (Rc).keep
                      refine take_at (i := 25) 110 (v := .pointer (some ⟨X, 1, none⟩)) rfl (by kernel_rfl) (by kernel_rfl) (by kernel_rfl) rfl (fun _ _ _ h => h) (by rfl) (fun w hSw => ?_) hHeld ?_
                      · (try dsimp only at hSw); go_simp
                      simp only [Act.put, List.setIfInBounds_toArray, List.set_cons_zero, List.set_cons_succ]
                      refine wpAnyH_ready (rs := [26]) (by kernel_rfl) (by simp) ?_
                      refine node_store23 110 109 X _ _ _ _ _ _ rfl rfl rfl rfl rfl rfl (Rc).box (Rc).set.keep ?_ AllReadyH.nil
                      refine wpAnyH_done (by kernel_rfl) ?_ _
                      have RF := hid (Rc).set
                      clear Rc
                      go_wp2_with fail
                      go_roundw
                      case rel => exact ⟨i + 1, ms ++ [(z0 % ((P : Int) + 1), z1 % ((P : Int) + 1), smallI z2, smallI z3)], _, _, _, by go_num, by omega, by simp [hml], HMS, RF.out.cut, RF.out.below⟩
                      case measure => simp [intOf]; omega
            refine node_call26 103 102 z2 g2.1 g2.2 rfl rfl rfl rfl rfl (Ra).keep ?_ AllReadyH.nil
            · simp only [Act.put, List.setIfInBounds_toArray, List.set_cons_zero, List.set_cons_succ]
              refine wpAnyH_ready (rs := [1, 21]) (by kernel_rfl) (by simp) ?_
              refine node_load23 86 85 _ _ rfl rfl rfl rfl rfl (cells3_of (Ra).box).2.1 (Ra).keep ?_ ?_
              · simp only [Act.put, List.setIfInBounds_toArray, List.set_cons_zero, List.set_cons_succ]
                refine wpAnyH_ready (rs := [21]) (by kernel_rfl) (by simp) ?_
                refine node_call26 106 105 z3 g3.1 g3.2 rfl rfl rfl rfl rfl (Ra).keep ?_ AllReadyH.nil
                · simp only [Act.put, List.setIfInBounds_toArray, List.set_cons_zero, List.set_cons_succ]
                  have hHeld := (Ra).keep
                  refine take_at (i := 22) 107 (v := .agg #[.int .i64 (z0 % ((P : Int) + 1)), .int .i64 (z1 % ((P : Int) + 1)), .int .i64 (smallI z2), .int .i64 (smallI z3)]) rfl (by kernel_rfl) (by kernel_rfl) (by kernel_rfl) rfl (fun _ _ _ h => h) (by rfl) (fun w hSw => ?_) hHeld ?_
                  · (try dsimp only at hSw); go_simp
                  simp only [Act.put, List.setIfInBounds_toArray, List.set_cons_zero, List.set_cons_succ]
                  clear hHeld
                  refine wpAnyH_ready (rs := [23]) (by kernel_rfl) (by simp) ?_
                  refine node_buildMv 108 107 _ _ _ _ rfl rfl rfl rfl rfl (Ra).made.keep ?_ AllReadyH.nil
                  · have Rb := (Ra).made (o := .cells #[.int .i64 (z0 % ((P : Int) + 1)), .int .i64 (z1 % ((P : Int) + 1)), .int .i64 (smallI z2), .int .i64 (smallI z3)] 53)
                    have hnew := (Ra).new (Obj.cells #[.int .i64 (z0 % ((P : Int) + 1)), .int .i64 (z1 % ((P : Int) + 1)), .int .i64 (smallI z2), .int .i64 (smallI z3)] 53)
                    clear Ra
                    simp only [Act.put, List.setIfInBounds_toArray, List.set_cons_zero, List.set_cons_succ]
                    refine wpAnyH_ready (rs := [24]) (by kernel_rfl) (by simp) ?_
                    refine node_app1 109 X (.tmp 86) (.tmp 108) 23 53 _ 4 32 info53 rfl (by decide) Tryd.underlying23 _ _ _ _ [.int .i64 (z0 % ((P : Int) + 1)), .int .i64 (z1 % ((P : Int) + 1)), .int .i64 (smallI z2), .int .i64 (smallI z3)] rfl (by intro u hu; simp at hu; rcases hu with rfl | rfl | rfl | rfl <;> rfl) rfl rfl rfl rfl rfl rfl hnew (Rb).cut.mv (Rb).lt (by omega) (by decide) ?_ AllReadyH.nil
                    · intro sa sn sc w9 ho9 hg9
                      have Rc := (Rb).app (sa := sa) (sn := sn) (sc := sc) (z0 % ((P : Int) + 1), z1 % ((P : Int) + 1), smallI z2, smallI z3) hg9 ho9
                      refine ⟨Rc.keep, ?_⟩
                      clear Rb hnew ho9 hg9
                      simp only [Act.put, List.setIfInBounds_toArray, List.set_cons_zero, List.set_cons_succ]
                      have hHeld := (Rc).keep
                      refine take_at (i := 25) 110 (v := .pointer (some ⟨X, 1, none⟩)) rfl (by kernel_rfl) (by kernel_rfl) (by kernel_rfl) rfl (fun _ _ _ h => h) (by rfl) (fun w hSw => ?_) hHeld ?_
                      · (try dsimp only at hSw); go_simp
                      simp only [Act.put, List.setIfInBounds_toArray, List.set_cons_zero, List.set_cons_succ]
                      refine wpAnyH_ready (rs := [26]) (by kernel_rfl) (by simp) ?_
                      refine node_store23 110 109 X _ _ _ _ _ _ rfl rfl rfl rfl rfl rfl (Rc).box (Rc).set.keep ?_ AllReadyH.nil
                      refine wpAnyH_done (by kernel_rfl) ?_ _
                      have RF := hid (Rc).set
                      clear Rc
                      go_wp2_with fail
                      go_roundw
                      case rel => exact ⟨i + 1, ms ++ [(z0 % ((P : Int) + 1), z1 % ((P : Int) + 1), smallI z2, smallI z3)], _, _, _, by go_num, by omega, by simp [hml], HMS, RF.out.cut, RF.out.below⟩
                      case measure => simp [intOf]; omega
              refine node_call26 106 105 z3 g3.1 g3.2 rfl rfl rfl rfl rfl (Ra).keep ?_ AllReadyH.nil
              · simp only [Act.put, List.setIfInBounds_toArray, List.set_cons_zero, List.set_cons_succ]
                have hHeld := (Ra).keep
                refine take_at (i := 22) 107 (v := .agg #[.int .i64 (z0 % ((P : Int) + 1)), .int .i64 (z1 % ((P : Int) + 1)), .int .i64 (smallI z2), .int .i64 (smallI z3)]) rfl (by kernel_rfl) (by kernel_rfl) (by kernel_rfl) rfl (fun _ _ _ h => h) (by rfl) (fun w hSw => ?_) hHeld ?_
                · (try dsimp only at hSw); go_simp
                simp only [Act.put, List.setIfInBounds_toArray, List.set_cons_zero, List.set_cons_succ]
                clear hHeld
                refine wpAnyH_ready (rs := [1, 23]) (by kernel_rfl) (by simp) ?_
                refine node_load23 86 85 _ _ rfl rfl rfl rfl rfl (cells3_of (Ra).box).2.1 (Ra).keep ?_ ?_
                · simp only [Act.put, List.setIfInBounds_toArray, List.set_cons_zero, List.set_cons_succ]
                  refine wpAnyH_ready (rs := [23]) (by kernel_rfl) (by simp) ?_
                  refine node_buildMv 108 107 _ _ _ _ rfl rfl rfl rfl rfl (Ra).made.keep ?_ AllReadyH.nil
                  · have Rb := (Ra).made (o := .cells #[.int .i64 (z0 % ((P : Int) + 1)), .int .i64 (z1 % ((P : Int) + 1)), .int .i64 (smallI z2), .int .i64 (smallI z3)] 53)
                    have hnew := (Ra).new (Obj.cells #[.int .i64 (z0 % ((P : Int) + 1)), .int .i64 (z1 % ((P : Int) + 1)), .int .i64 (smallI z2), .int .i64 (smallI z3)] 53)
                    clear Ra
                    simp only [Act.put, List.setIfInBounds_toArray, List.set_cons_zero, List.set_cons_succ]
                    refine wpAnyH_ready (rs := [24]) (by kernel_rfl) (by simp) ?_
                    refine node_app1 109 X (.tmp 86) (.tmp 108) 23 53 _ 4 32 info53 rfl (by decide) Tryd.underlying23 _ _ _ _ [.int .i64 (z0 % ((P : Int) + 1)), .int .i64 (z1 % ((P : Int) + 1)), .int .i64 (smallI z2), .int .i64 (smallI z3)] rfl (by intro u hu; simp at hu; rcases hu with rfl | rfl | rfl | rfl <;> rfl) rfl rfl rfl rfl rfl rfl hnew (Rb).cut.mv (Rb).lt (by omega) (by decide) ?_ AllReadyH.nil
                    · intro sa sn sc w9 ho9 hg9
                      have Rc := (Rb).app (sa := sa) (sn := sn) (sc := sc) (z0 % ((P : Int) + 1), z1 % ((P : Int) + 1), smallI z2, smallI z3) hg9 ho9
                      refine ⟨Rc.keep, ?_⟩
                      clear Rb hnew ho9 hg9
                      simp only [Act.put, List.setIfInBounds_toArray, List.set_cons_zero, List.set_cons_succ]
                      have hHeld := (Rc).keep
                      refine take_at (i := 25) 110 (v := .pointer (some ⟨X, 1, none⟩)) rfl (by kernel_rfl) (by kernel_rfl) (by kernel_rfl) rfl (fun _ _ _ h => h) (by rfl) (fun w hSw => ?_) hHeld ?_
                      · (try dsimp only at hSw); go_simp
                      simp only [Act.put, List.setIfInBounds_toArray, List.set_cons_zero, List.set_cons_succ]
                      refine wpAnyH_ready (rs := [26]) (by kernel_rfl) (by simp) ?_
                      refine node_store23 110 109 X _ _ _ _ _ _ rfl rfl rfl rfl rfl rfl (Rc).box (Rc).set.keep ?_ AllReadyH.nil
                      refine wpAnyH_done (by kernel_rfl) ?_ _
                      have RF := hid (Rc).set
                      clear Rc
                      go_wp2_with fail
                      go_roundw
                      case rel => exact ⟨i + 1, ms ++ [(z0 % ((P : Int) + 1), z1 % ((P : Int) + 1), smallI z2, smallI z3)], _, _, _, by go_num, by omega, by simp [hml], HMS, RF.out.cut, RF.out.below⟩
                      case measure => simp [intOf]; omega
                refine node_buildMv 108 107 _ _ _ _ rfl rfl rfl rfl rfl (Ra).made.keep ?_ AllReadyH.nil
                · have Rb := (Ra).made (o := .cells #[.int .i64 (z0 % ((P : Int) + 1)), .int .i64 (z1 % ((P : Int) + 1)), .int .i64 (smallI z2), .int .i64 (smallI z3)] 53)
                  have hnew := (Ra).new (Obj.cells #[.int .i64 (z0 % ((P : Int) + 1)), .int .i64 (z1 % ((P : Int) + 1)), .int .i64 (smallI z2), .int .i64 (smallI z3)] 53)
                  clear Ra
                  simp only [Act.put, List.setIfInBounds_toArray, List.set_cons_zero, List.set_cons_succ]
                  refine wpAnyH_ready (rs := [1]) (by kernel_rfl) (by simp) ?_
                  refine node_load23 86 85 _ _ rfl rfl rfl rfl rfl (cells3_of (Rb).box).2.1 (Rb).keep ?_ AllReadyH.nil
                  · simp only [Act.put, List.setIfInBounds_toArray, List.set_cons_zero, List.set_cons_succ]
                    refine wpAnyH_ready (rs := [24]) (by kernel_rfl) (by simp) ?_
                    refine node_app1 109 X (.tmp 86) (.tmp 108) 23 53 _ 4 32 info53 rfl (by decide) Tryd.underlying23 _ _ _ _ [.int .i64 (z0 % ((P : Int) + 1)), .int .i64 (z1 % ((P : Int) + 1)), .int .i64 (smallI z2), .int .i64 (smallI z3)] rfl (by intro u hu; simp at hu; rcases hu with rfl | rfl | rfl | rfl <;> rfl) rfl rfl rfl rfl rfl rfl hnew (Rb).cut.mv (Rb).lt (by omega) (by decide) ?_ AllReadyH.nil
                    · intro sa sn sc w9 ho9 hg9
                      have Rc := (Rb).app (sa := sa) (sn := sn) (sc := sc) (z0 % ((P : Int) + 1), z1 % ((P : Int) + 1), smallI z2, smallI z3) hg9 ho9
                      refine ⟨Rc.keep, ?_⟩
                      clear Rb hnew ho9 hg9
                      simp only [Act.put, List.setIfInBounds_toArray, List.set_cons_zero, List.set_cons_succ]
                      have hHeld := (Rc).keep
                      refine take_at (i := 25) 110 (v := .pointer (some ⟨X, 1, none⟩)) rfl (by kernel_rfl) (by kernel_rfl) (by kernel_rfl) rfl (fun _ _ _ h => h) (by rfl) (fun w hSw => ?_) hHeld ?_
                      · (try dsimp only at hSw); go_simp
                      simp only [Act.put, List.setIfInBounds_toArray, List.set_cons_zero, List.set_cons_succ]
                      refine wpAnyH_ready (rs := [26]) (by kernel_rfl) (by simp) ?_
                      refine node_store23 110 109 X _ _ _ _ _ _ rfl rfl rfl rfl rfl rfl (Rc).box (Rc).set.keep ?_ AllReadyH.nil
                      refine wpAnyH_done (by kernel_rfl) ?_ _
                      have RF := hid (Rc).set
                      clear Rc
                      go_wp2_with fail
                      go_roundw
                      case rel => exact ⟨i + 1, ms ++ [(z0 % ((P : Int) + 1), z1 % ((P : Int) + 1), smallI z2, smallI z3)], _, _, _, by go_num, by omega, by simp [hml], HMS, RF.out.cut, RF.out.below⟩
                      case measure => simp [intOf]; omega
          · go_wp2_with fail
            go_meet
            exact ⟨i, ms, a2, n2, c2, hi, hml, HMO, CT4, HB4⟩
        · go_wp2_with fail
          go_meet
          exact ⟨i, ms, a2, n2, c2, hi, hml, HMO, CT4, HB4⟩
      case rest =>
       obtain ⟨i, ms, a2, n2, c2, hi, hml, HMO, CT4, HB4⟩ := hcut
       rename World => wc
       go_upto_block 8 with fail
       go_cut [12] (fun _ wx => ∃ (j : Nat) (js : List (Int × Int)) (a3 : Option Addr) (n3 c3 : Nat), j ≤ 4 ∧ js.length = j ∧ Hid (∀ m ∈ js, jlOk m = true) ∧ Hid (Cut X X (.slice a (P + 1) c) (.slice a2 n2 c2) (.slice a3 n3 c3) g ms js wx) ∧ Hid (Below X w3 wx))
       case first =>
        go_wp2_with fail
        go_loopw [12] (fun jv wr => ∃ (j : Nat) (js : List (Int × Int)) (a3 : Option Addr) (n3 c3 : Nat), jv = .int .i64 j ∧ j ≤ 4 ∧ js.length = j ∧ Hid (∀ m ∈ js, jlOk m = true) ∧ Hid (Cut X X (.slice a (P + 1) c) (.slice a2 n2 c2) (.slice a3 n3 c3) g ms js wr) ∧ Hid (Below X w3 wr)) (fun jv _ => 4 - (intOf jv).toNat)
        case atStart => exact ⟨0, [], none, 0, 0, rfl, by omega, rfl, fun m hm => by simp at hm, CT4, HB4⟩
        case round =>
         obtain ⟨j, js, a3, n3, c3, rfl, hj, hjl, HJO, CT5, HB5⟩ := hrel
         rename World => wr
         obtain ⟨y0, y1, y2, y3, y4, y5⟩ := KF.out wr HB5.out
         by_cases hjn : j < jn
         · by_cases hj4 : j < 4
           · obtain ⟨ad, z0, z1, rfl, hadl, e0, e1, g0, g1⟩ := HK.out.jolts.2 j hjn
             have F0 : Hid (∀ w', Below X w3 w' → w'.cell? (ad.add (j * 2)) = some (.int .u8 z0)) := fun w' hb => ((HB3.out.trans (hb.mono (by have := HX.out; omega))).cell (p := ad.add (j * 2)) (by rw [add_block]; exact hadl)).trans e0
             have F1 : Hid (∀ w', Below X w3 w' → w'.cell? { block := (ad.add (j * 2)).block, off := (ad.add (j * 2)).off + 1 } = some (.int .u8 z1)) := fun w' hb => ((HB3.out.trans (hb.mono (by have := HX.out; omega))).cell (p := { block := (ad.add (j * 2)).block, off := (ad.add (j * 2)).off + 1 }) (by show (ad.add (j * 2)).block < _; rw [add_block]; exact hadl)).trans ((congrArg w.cell? (add_succ ad (j * 2) 0)).symm.trans e1)
             clear e0 e1 hadl
             have R0 : Hid (R6 X w3 (.slice a (P + 1) c) (.slice a2 n2 c2) (.slice a3 n3 c3) g ms js wr.drew) := ⟨CT5.out.below ((Below.refl _ _).drew), HB5.out.drew⟩
             have HJS : Hid (∀ m ∈ js ++ [(smallI z0, smallI z1)], jlOk m = true) := by
               intro m hm
               rw [List.mem_append, List.mem_singleton] at hm
               rcases hm with hm | rfl
               · exact HJO.out m hm
               · have s2 := smallI_le z0
                 have s3 := smallI_le z1
                 unfold jlOk within5
                 simp only [Bool.and_eq_true, decide_eq_true_eq]
                 omega
             go_upto_region 27 with fail
             clear y0 y1 y2 y3 y4 y5
             have KEEP : Hid (∀ w', Below X w3 w' → w'.cell? ⟨w.heap.size, 5, none⟩ = some (.slice (some ad) jn jc) ∧ w'.cell? (ad.add (j * 2)) = some (.int .u8 z0) ∧ w'.cell? { block := (ad.add (j * 2)).block, off := (ad.add (j * 2)).off + 1 } = some (.int .u8 z1) ∧ Hid (Below X w3 w')) := fun w' hb => ⟨(KF.out w' hb).2.2.2.2.2, F0.out w' hb, F1.out w' hb, hb⟩
             refine wp_region_held_drew (S := fun w' => w'.cell? ⟨w.heap.size, 5, none⟩ = some (.slice (some ad) jn jc) ∧ w'.cell? (ad.add (j * 2)) = some (.int .u8 z0) ∧ w'.cell? { block := (ad.add (j * 2)).block, off := (ad.add (j * 2)).off + 1 } = some (.int .u8 z1) ∧ Hid (Below X w3 w')) (by kernel_rfl) (KEEP.out _ R0.out.below) (fun hHeld => ?_)
             refine take_at (i := 0) 122 (v := .pointer (some ⟨X, 2, none⟩)) rfl (by kernel_rfl) (by kernel_rfl) (by kernel_rfl) rfl (fun _ _ _ h => h) (by rfl) (fun w hSw => ?_) hHeld ?_
             · (try dsimp only at hSw); go_simp
             simp only [Act.put, List.setIfInBounds_toArray, List.set_cons_zero, List.set_cons_succ]
             refine take_at (i := 2) 124 (v := .pointer (some ⟨w.heap.size, 5, none⟩)) rfl (by kernel_rfl) (by kernel_rfl) (by kernel_rfl) rfl (fun _ _ _ h => h) (by rfl) (fun w hSw => ?_) hHeld ?_
             · (try dsimp only at hSw); go_simp
             simp only [Act.put, List.setIfInBounds_toArray, List.set_cons_zero, List.set_cons_succ]
             refine take_at (i := 3) 125 (v := .slice (some ad) jn jc) rfl (by kernel_rfl) (by kernel_rfl) (by kernel_rfl) rfl (fun _ _ _ h => h) (by rfl) (fun w hSw => ?_) hHeld ?_
             · (try dsimp only at hSw); go_simp
             simp only [Act.put, List.setIfInBounds_toArray, List.set_cons_zero, List.set_cons_succ]
             refine take_at (i := 4) 126 (v := .int .i64 j) rfl (by kernel_rfl) (by kernel_rfl) (by kernel_rfl) rfl (fun _ _ _ h => h) (by rfl) (fun w hSw => ?_) hHeld ?_
             · (try dsimp only at hSw); go_simp
             simp only [Act.put, List.setIfInBounds_toArray, List.set_cons_zero, List.set_cons_succ]
             refine take_at (i := 5) 127 (v := .pointer (some (ad.add (j * 2)))) rfl (by kernel_rfl) (by kernel_rfl) (by kernel_rfl) rfl (fun _ _ _ h => h) (by rfl) (fun w hSw => ?_) hHeld ?_
             · (try dsimp only at hSw); go_simp
             simp only [Act.put, List.setIfInBounds_toArray, List.set_cons_zero, List.set_cons_succ]
             refine take_at (i := 6) 128 (v := .pointer (some (ad.add (j * 2)))) rfl (by kernel_rfl) (by kernel_rfl) (by kernel_rfl) rfl (fun _ _ _ h => h) (by rfl) (fun w hSw => ?_) hHeld ?_
             · (try dsimp only at hSw); go_simp
             simp only [Act.put, List.setIfInBounds_toArray, List.set_cons_zero, List.set_cons_succ]
             refine take_at (i := 7) 129 (v := .int .u8 z0) rfl (by kernel_rfl) (by kernel_rfl) (by kernel_rfl) rfl (fun _ _ _ h => h) (by rfl) (fun w hSw => ?_) hHeld ?_
             · (try dsimp only at hSw); go_simp
             simp only [Act.put, List.setIfInBounds_toArray, List.set_cons_zero, List.set_cons_succ]
             refine take_at (i := 9) 131 (v := .pointer (some ⟨w.heap.size, 5, none⟩)) rfl (by kernel_rfl) (by kernel_rfl) (by kernel_rfl) rfl (fun _ _ _ h => h) (by rfl) (fun w hSw => ?_) hHeld ?_
             · (try dsimp only at hSw); go_simp
             simp only [Act.put, List.setIfInBounds_toArray, List.set_cons_zero, List.set_cons_succ]
             refine take_at (i := 10) 132 (v := .slice (some ad) jn jc) rfl (by kernel_rfl) (by kernel_rfl) (by kernel_rfl) rfl (fun _ _ _ h => h) (by rfl) (fun w hSw => ?_) hHeld ?_
             · (try dsimp only at hSw); go_simp
             simp only [Act.put, List.setIfInBounds_toArray, List.set_cons_zero, List.set_cons_succ]
             refine take_at (i := 11) 133 (v := .int .i64 j) rfl (by kernel_rfl) (by kernel_rfl) (by kernel_rfl) rfl (fun _ _ _ h => h) (by rfl) (fun w hSw => ?_) hHeld ?_
             · (try dsimp only at hSw); go_simp
             simp only [Act.put, List.setIfInBounds_toArray, List.set_cons_zero, List.set_cons_succ]
             refine take_at (i := 12) 134 (v := .pointer (some (ad.add (j * 2)))) rfl (by kernel_rfl) (by kernel_rfl) (by kernel_rfl) rfl (fun _ _ _ h => h) (by rfl) (fun w hSw => ?_) hHeld ?_
             · (try dsimp only at hSw); go_simp
             simp only [Act.put, List.setIfInBounds_toArray, List.set_cons_zero, List.set_cons_succ]
             refine take_at (i := 13) 135 (v := .pointer (some { block := (ad.add (j * 2)).block, off := (ad.add (j * 2)).off + 1 })) rfl (by kernel_rfl) (by kernel_rfl) (by kernel_rfl) rfl (fun _ _ _ h => h) (by rfl) (fun w hSw => ?_) hHeld ?_
             · (try dsimp only at hSw); go_simp
             simp only [Act.put, List.setIfInBounds_toArray, List.set_cons_zero, List.set_cons_succ]
             refine take_at (i := 14) 136 (v := .int .u8 z1) rfl (by kernel_rfl) (by kernel_rfl) (by kernel_rfl) rfl (fun _ _ _ h => h) (by rfl) (fun w hSw => ?_) hHeld ?_
             · (try dsimp only at hSw); go_simp
             simp only [Act.put, List.setIfInBounds_toArray, List.set_cons_zero, List.set_cons_succ]
             have Ra := R0.out
             clear hHeld
             refine wpAnyH_ready (rs := [1, 8]) (by kernel_rfl) (by simp) ?_
             refine node_load24 123 122 _ _ rfl rfl rfl rfl rfl (cells3_of (Ra).box).2.2 (KEEP.out _ (Ra).below) ?_ ?_
             · simp only [Act.put, List.setIfInBounds_toArray, List.set_cons_zero, List.set_cons_succ]
               refine wpAnyH_ready (rs := [8]) (by kernel_rfl) (by simp) ?_
               refine node_call26 130 129 z0 g0.1 g0.2 rfl rfl rfl rfl rfl (KEEP.out _ (Ra).below) ?_ AllReadyH.nil
               · simp only [Act.put, List.setIfInBounds_toArray, List.set_cons_zero, List.set_cons_succ]
                 refine wpAnyH_ready (rs := [15]) (by kernel_rfl) (by simp) ?_
                 refine node_call26 137 136 z1 g1.1 g1.2 rfl rfl rfl rfl rfl (KEEP.out _ (Ra).below) ?_ AllReadyH.nil
                 · simp only [Act.put, List.setIfInBounds_toArray, List.set_cons_zero, List.set_cons_succ]
                   have hHeld := KEEP.out _ (Ra).below
                   refine take_at (i := 16) 138 (v := .agg #[.int .i64 (smallI z0), .int .i64 (smallI z1)]) rfl (by kernel_rfl) (by kernel_rfl) (by kernel_rfl) rfl (fun _ _ _ h => h) (by rfl) (fun w hSw => ?_) hHeld ?_
                   · (try dsimp only at hSw); go_simp
                   simp only [Act.put, List.setIfInBounds_toArray, List.set_cons_zero, List.set_cons_succ]
                   clear hHeld
                   refine wpAnyH_ready (rs := [17]) (by kernel_rfl) (by simp) ?_
                   refine node_buildJl 139 138 _ _ rfl rfl rfl rfl rfl (KEEP.out _ (Ra).made.below) ?_ AllReadyH.nil
                   · have Rb := (Ra).made (o := .cells #[.int .i64 (smallI z0), .int .i64 (smallI z1)] 55)
                     have hnew := (Ra).new (Obj.cells #[.int .i64 (smallI z0), .int .i64 (smallI z1)] 55)
                     clear Ra
                     simp only [Act.put, List.setIfInBounds_toArray, List.set_cons_zero, List.set_cons_succ]
                     refine wpAnyH_ready (rs := [18]) (by kernel_rfl) (by simp) ?_
                     refine node_app1 140 X (.tmp 123) (.tmp 139) 24 55 _ 2 16 info55 rfl (by decide) Tryd.underlying24 _ _ _ _ [.int .i64 (smallI z0), .int .i64 (smallI z1)] rfl (by intro u hu; simp at hu; rcases hu with rfl | rfl <;> rfl) rfl rfl rfl rfl rfl rfl hnew (Rb).cut.jl (Rb).lt (by omega) (by decide) ?_ AllReadyH.nil
                     · intro sa sn sc w9 ho9 hg9
                       have Rc := (Rb).app (sa := sa) (sn := sn) (sc := sc) (smallI z0, smallI z1) hg9 ho9
                       refine ⟨KEEP.out _ Rc.below, ?_⟩
                       clear Rb hnew ho9 hg9
                       simp only [Act.put, List.setIfInBounds_toArray, List.set_cons_zero, List.set_cons_succ]
                       have hHeld := KEEP.out _ (Rc).below
                       refine take_at (i := 19) 141 (v := .pointer (some ⟨X, 2, none⟩)) rfl (by kernel_rfl) (by kernel_rfl) (by kernel_rfl) rfl (fun _ _ _ h => h) (by rfl) (fun w hSw => ?_) hHeld ?_
                       · (try dsimp only at hSw); go_simp
                       simp only [Act.put, List.setIfInBounds_toArray, List.set_cons_zero, List.set_cons_succ]
                       refine wpAnyH_ready (rs := [20]) (by kernel_rfl) (by simp) ?_
                       refine node_store24 141 140 X _ _ _ _ _ _ rfl rfl rfl rfl rfl rfl (Rc).box (KEEP.out _ (Rc).set.below) ?_ AllReadyH.nil
                       refine wpAnyH_done (by kernel_rfl) ?_ _
                       have RF := hid (Rc).set
                       clear Rc
                       go_wp2_with fail
                       go_roundw
                       case rel => exact ⟨j + 1, js ++ [(smallI z0, smallI z1)], _, _, _, by go_num, by omega, by simp [hjl], HJS, RF.out.cut, RF.out.below⟩
                       case measure => simp [intOf]; omega
             refine node_call26 130 129 z0 g0.1 g0.2 rfl rfl rfl rfl rfl (KEEP.out _ (Ra).below) ?_ AllReadyH.nil
             · simp only [Act.put, List.setIfInBounds_toArray, List.set_cons_zero, List.set_cons_succ]
               refine wpAnyH_ready (rs := [1, 15]) (by kernel_rfl) (by simp) ?_
               refine node_load24 123 122 _ _ rfl rfl rfl rfl rfl (cells3_of (Ra).box).2.2 (KEEP.out _ (Ra).below) ?_ ?_
               · simp only [Act.put, List.setIfInBounds_toArray, List.set_cons_zero, List.set_cons_succ]
                 refine wpAnyH_ready (rs := [15]) (by kernel_rfl) (by simp) ?_
                 refine node_call26 137 136 z1 g1.1 g1.2 rfl rfl rfl rfl rfl (KEEP.out _ (Ra).below) ?_ AllReadyH.nil
                 · simp only [Act.put, List.setIfInBounds_toArray, List.set_cons_zero, List.set_cons_succ]
                   have hHeld := KEEP.out _ (Ra).below
                   refine take_at (i := 16) 138 (v := .agg #[.int .i64 (smallI z0), .int .i64 (smallI z1)]) rfl (by kernel_rfl) (by kernel_rfl) (by kernel_rfl) rfl (fun _ _ _ h => h) (by rfl) (fun w hSw => ?_) hHeld ?_
                   · (try dsimp only at hSw); go_simp
                   simp only [Act.put, List.setIfInBounds_toArray, List.set_cons_zero, List.set_cons_succ]
                   clear hHeld
                   refine wpAnyH_ready (rs := [17]) (by kernel_rfl) (by simp) ?_
                   refine node_buildJl 139 138 _ _ rfl rfl rfl rfl rfl (KEEP.out _ (Ra).made.below) ?_ AllReadyH.nil
                   · have Rb := (Ra).made (o := .cells #[.int .i64 (smallI z0), .int .i64 (smallI z1)] 55)
                     have hnew := (Ra).new (Obj.cells #[.int .i64 (smallI z0), .int .i64 (smallI z1)] 55)
                     clear Ra
                     simp only [Act.put, List.setIfInBounds_toArray, List.set_cons_zero, List.set_cons_succ]
                     refine wpAnyH_ready (rs := [18]) (by kernel_rfl) (by simp) ?_
                     refine node_app1 140 X (.tmp 123) (.tmp 139) 24 55 _ 2 16 info55 rfl (by decide) Tryd.underlying24 _ _ _ _ [.int .i64 (smallI z0), .int .i64 (smallI z1)] rfl (by intro u hu; simp at hu; rcases hu with rfl | rfl <;> rfl) rfl rfl rfl rfl rfl rfl hnew (Rb).cut.jl (Rb).lt (by omega) (by decide) ?_ AllReadyH.nil
                     · intro sa sn sc w9 ho9 hg9
                       have Rc := (Rb).app (sa := sa) (sn := sn) (sc := sc) (smallI z0, smallI z1) hg9 ho9
                       refine ⟨KEEP.out _ Rc.below, ?_⟩
                       clear Rb hnew ho9 hg9
                       simp only [Act.put, List.setIfInBounds_toArray, List.set_cons_zero, List.set_cons_succ]
                       have hHeld := KEEP.out _ (Rc).below
                       refine take_at (i := 19) 141 (v := .pointer (some ⟨X, 2, none⟩)) rfl (by kernel_rfl) (by kernel_rfl) (by kernel_rfl) rfl (fun _ _ _ h => h) (by rfl) (fun w hSw => ?_) hHeld ?_
                       · (try dsimp only at hSw); go_simp
                       simp only [Act.put, List.setIfInBounds_toArray, List.set_cons_zero, List.set_cons_succ]
                       refine wpAnyH_ready (rs := [20]) (by kernel_rfl) (by simp) ?_
                       refine node_store24 141 140 X _ _ _ _ _ _ rfl rfl rfl rfl rfl rfl (Rc).box (KEEP.out _ (Rc).set.below) ?_ AllReadyH.nil
                       refine wpAnyH_done (by kernel_rfl) ?_ _
                       have RF := hid (Rc).set
                       clear Rc
                       go_wp2_with fail
                       go_roundw
                       case rel => exact ⟨j + 1, js ++ [(smallI z0, smallI z1)], _, _, _, by go_num, by omega, by simp [hjl], HJS, RF.out.cut, RF.out.below⟩
                       case measure => simp [intOf]; omega
               refine node_call26 137 136 z1 g1.1 g1.2 rfl rfl rfl rfl rfl (KEEP.out _ (Ra).below) ?_ AllReadyH.nil
               · simp only [Act.put, List.setIfInBounds_toArray, List.set_cons_zero, List.set_cons_succ]
                 have hHeld := KEEP.out _ (Ra).below
                 refine take_at (i := 16) 138 (v := .agg #[.int .i64 (smallI z0), .int .i64 (smallI z1)]) rfl (by kernel_rfl) (by kernel_rfl) (by kernel_rfl) rfl (fun _ _ _ h => h) (by rfl) (fun w hSw => ?_) hHeld ?_
                 · (try dsimp only at hSw); go_simp
                 simp only [Act.put, List.setIfInBounds_toArray, List.set_cons_zero, List.set_cons_succ]
                 clear hHeld
                 refine wpAnyH_ready (rs := [1, 17]) (by kernel_rfl) (by simp) ?_
                 refine node_load24 123 122 _ _ rfl rfl rfl rfl rfl (cells3_of (Ra).box).2.2 (KEEP.out _ (Ra).below) ?_ ?_
                 · simp only [Act.put, List.setIfInBounds_toArray, List.set_cons_zero, List.set_cons_succ]
                   refine wpAnyH_ready (rs := [17]) (by kernel_rfl) (by simp) ?_
                   refine node_buildJl 139 138 _ _ rfl rfl rfl rfl rfl (KEEP.out _ (Ra).made.below) ?_ AllReadyH.nil
                   · have Rb := (Ra).made (o := .cells #[.int .i64 (smallI z0), .int .i64 (smallI z1)] 55)
                     have hnew := (Ra).new (Obj.cells #[.int .i64 (smallI z0), .int .i64 (smallI z1)] 55)
                     clear Ra
                     simp only [Act.put, List.setIfInBounds_toArray, List.set_cons_zero, List.set_cons_succ]
                     refine wpAnyH_ready (rs := [18]) (by kernel_rfl) (by simp) ?_
                     refine node_app1 140 X (.tmp 123) (.tmp 139) 24 55 _ 2 16 info55 rfl (by decide) Tryd.underlying24 _ _ _ _ [.int .i64 (smallI z0), .int .i64 (smallI z1)] rfl (by intro u hu; simp at hu; rcases hu with rfl | rfl <;> rfl) rfl rfl rfl rfl rfl rfl hnew (Rb).cut.jl (Rb).lt (by omega) (by decide) ?_ AllReadyH.nil
                     · intro sa sn sc w9 ho9 hg9
                       have Rc := (Rb).app (sa := sa) (sn := sn) (sc := sc) (smallI z0, smallI z1) hg9 ho9
                       refine ⟨KEEP.out _ Rc.below, ?_⟩
                       clear Rb hnew ho9 hg9
                       simp only [Act.put, List.setIfInBounds_toArray, List.set_cons_zero, List.set_cons_succ]
                       have hHeld := KEEP.out _ (Rc).below
                       refine take_at (i := 19) 141 (v := .pointer (some ⟨X, 2, none⟩)) rfl (by kernel_rfl) (by kernel_rfl) (by kernel_rfl) rfl (fun _ _ _ h => h) (by rfl) (fun w hSw => ?_) hHeld ?_
                       · (try dsimp only at hSw); go_simp
                       simp only [Act.put, List.setIfInBounds_toArray, List.set_cons_zero, List.set_cons_succ]
                       refine wpAnyH_ready (rs := [20]) (by kernel_rfl) (by simp) ?_
                       refine node_store24 141 140 X _ _ _ _ _ _ rfl rfl rfl rfl rfl rfl (Rc).box (KEEP.out _ (Rc).set.below) ?_ AllReadyH.nil
                       refine wpAnyH_done (by kernel_rfl) ?_ _
                       have RF := hid (Rc).set
                       clear Rc
                       go_wp2_with fail
                       go_roundw
                       case rel => exact ⟨j + 1, js ++ [(smallI z0, smallI z1)], _, _, _, by go_num, by omega, by simp [hjl], HJS, RF.out.cut, RF.out.below⟩
                       case measure => simp [intOf]; omega
                 refine node_buildJl 139 138 _ _ rfl rfl rfl rfl rfl (KEEP.out _ (Ra).made.below) ?_ AllReadyH.nil
                 · have Rb := (Ra).made (o := .cells #[.int .i64 (smallI z0), .int .i64 (smallI z1)] 55)
                   have hnew := (Ra).new (Obj.cells #[.int .i64 (smallI z0), .int .i64 (smallI z1)] 55)
                   clear Ra
                   simp only [Act.put, List.setIfInBounds_toArray, List.set_cons_zero, List.set_cons_succ]
                   refine wpAnyH_ready (rs := [1]) (by kernel_rfl) (by simp) ?_
                   refine node_load24 123 122 _ _ rfl rfl rfl rfl rfl (cells3_of (Rb).box).2.2 (KEEP.out _ (Rb).below) ?_ AllReadyH.nil
                   · simp only [Act.put, List.setIfInBounds_toArray, List.set_cons_zero, List.set_cons_succ]
                     refine wpAnyH_ready (rs := [18]) (by kernel_rfl) (by simp) ?_
                     refine node_app1 140 X (.tmp 123) (.tmp 139) 24 55 _ 2 16 info55 rfl (by decide) Tryd.underlying24 _ _ _ _ [.int .i64 (smallI z0), .int .i64 (smallI z1)] rfl (by intro u hu; simp at hu; rcases hu with rfl | rfl <;> rfl) rfl rfl rfl rfl rfl rfl hnew (Rb).cut.jl (Rb).lt (by omega) (by decide) ?_ AllReadyH.nil
                     · intro sa sn sc w9 ho9 hg9
                       have Rc := (Rb).app (sa := sa) (sn := sn) (sc := sc) (smallI z0, smallI z1) hg9 ho9
                       refine ⟨KEEP.out _ Rc.below, ?_⟩
                       clear Rb hnew ho9 hg9
                       simp only [Act.put, List.setIfInBounds_toArray, List.set_cons_zero, List.set_cons_succ]
                       have hHeld := KEEP.out _ (Rc).below
                       refine take_at (i := 19) 141 (v := .pointer (some ⟨X, 2, none⟩)) rfl (by kernel_rfl) (by kernel_rfl) (by kernel_rfl) rfl (fun _ _ _ h => h) (by rfl) (fun w hSw => ?_) hHeld ?_
                       · (try dsimp only at hSw); go_simp
                       simp only [Act.put, List.setIfInBounds_toArray, List.set_cons_zero, List.set_cons_succ]
                       refine wpAnyH_ready (rs := [20]) (by kernel_rfl) (by simp) ?_
                       refine node_store24 141 140 X _ _ _ _ _ _ rfl rfl rfl rfl rfl rfl (Rc).box (KEEP.out _ (Rc).set.below) ?_ AllReadyH.nil
                       refine wpAnyH_done (by kernel_rfl) ?_ _
                       have RF := hid (Rc).set
                       clear Rc
                       go_wp2_with fail
                       go_roundw
                       case rel => exact ⟨j + 1, js ++ [(smallI z0, smallI z1)], _, _, _, by go_num, by omega, by simp [hjl], HJS, RF.out.cut, RF.out.below⟩
                       case measure => simp [intOf]; omega
           · go_wp2_with fail
             go_meet
             exact ⟨j, js, a3, n3, c3, hj, hjl, HJO, CT5, HB5⟩
         · go_wp2_with fail
           go_meet
           exact ⟨j, js, a3, n3, c3, hj, hjl, HJO, CT5, HB5⟩
       case rest =>
        obtain ⟨j, js, a3, n3, c3, hj, hjl, HJO, CT5, HB5⟩ := hcut
        rename World => wc2
        have hn3 : n3 = js.length := by
          obtain ⟨_, _, e⟩ := row_slice CT5.out.jl
          simp at e; omega
        obtain rfl := hn3
        obtain ⟨b0, b1, b2⟩ := cells3_of CT5.out.box
        go_upto_if 145 with fail
        clear b0 b1 b2
        go_cut [13] (fun _ wx => ∃ (js : List (Int × Int)) (a3 : Option Addr) (c3 : Nat), (1 ≤ js.length ∧ js.length ≤ 4) ∧ Hid (∀ m ∈ js, jlOk m = true) ∧ Hid (Cut X X (.slice a (P + 1) c) (.slice a2 n2 c2) (.slice a3 js.length c3) g ms js wx) ∧ Hid (Below X w3 wx))
        case first =>
          have hbl := CT5.out.lt
          obtain ⟨b0, b1, b2⟩ := cells3_of CT5.out.box
          obtain ⟨f0, f1, f2⟩ := free3_of CT5.out.box
          by_cases hj0 : js.length = 0
          · obtain rfl := List.length_eq_zero_iff.1 hj0
            go_wp2_with fail
            go_meet
            exact ⟨[(0, 0)], _, _, by simp, fun m hm => by simp at hm; subst hm; rfl, CT5.out.putJ' (m := (0, 0)) (Nat.le_of_lt hbl), (HB5.out.setCell (p := ⟨X, 2, none⟩) (Nat.le_refl _) _).alloc (by simp; omega) _⟩
          · go_wp2_with fail
            go_meet
            exact ⟨js, _, _, by omega, HJO, CT5, HB5⟩
        case rest =>
          obtain ⟨js, a3, c3, hjs, HJO, CT5, HB5⟩ := hcut
          rename World => wd
          have hbl := CT5.out.lt
          have hXw : w.heap.size + 2 = X := HX.out.symm
          have hk1 := (HB5.out.block (w.heap.size + 1) (by omega)).trans HK1.out
          obtain ⟨b0, b1, b2⟩ := cells3_of CT5.out.box
          obtain ⟨g1, g2, g3⟩ := cells3_of hk1
          obtain ⟨l1, l2, l3⟩ := free3_of hk1
          have hne1 : w.heap.size + 1 ≠ X := by omega
          go_wp2_with fail
          obtain ⟨q0, q1, q2⟩ := cells3_of (store3 (x := .slice a (P + 1) c) (y := .slice a2 n2 c2) (z := .slice a3 js.length c3) hk1)
          refine bodyPost_ret (v := .agg #[.slice a (P + 1) c, .slice a2 n2 c2, .slice a3 js.length c3]) (by simp [results, Tryd.results24, go_sem, q0, q1, q2]) rfl ?_
          refine ⟨_, _, _, ⟨g, ms, js⟩, rfl, ?_, ?_, ?_, ?_⟩
          · have hc3 := (((CT5.out.set (a := ⟨w.heap.size + 1, 0, none⟩) (by show w.heap.size + 1 < X; omega) (.slice a (P + 1) c)).set (a := ⟨w.heap.size + 1, 1, none⟩) (by show w.heap.size + 1 < X; omega) (.slice a2 n2 c2)).set (a := ⟨w.heap.size + 1, 2, none⟩) (by show w.heap.size + 1 < X; omega) (.slice a3 js.length c3))
            exact hc3.own (by omega)
          · exact made_valid hg HGO.out (by omega) hR1 hC1 HMO.out (by omega) HJO.out hjs
          · show ms.length ≤ 8
            omega
          · exact below_store3 (HB3.out.trans (HB5.out.mono (by omega))) (by omega)

end Go.Proofs.YtjonbhimbhidpaaDoor
