/-
  Walks over chapter 12: a dispute made of any numbers.
-/
import Derived.Test.YtaedbkdimpdngaaBaseE
namespace Go.Proofs.Ytaedbkdimpdngaa
open Go.RowKit
section
variable {md : Region.Mode} {ops : Array Oper} {Q : Exit → Act → World → Prop} {S : World → Prop} {fuel : Nat} {listed : Array Bool} {a : Act} {w : World} {i : Nat} {o : Oper} {rs : List Nat}
theorem node_build22 (d k : Nat) (x y : Int) (hi : ops[i]? = some o) (hgd : o.guard = none) (ho : o.op = .buildSlice 22 1 #[(0, .tmp k)]) (hd : o.dst = some d)
    (hp : a.tmps[k]?.getD undef = .agg #[.int .i64 x, .int .i64 y]) (hS : S (w.alloc (.cells #[.int .i64 x, .int .i64 y] 45)))
    (h : S (w.alloc (.cells #[.int .i64 x, .int .i64 y] 45)) → wpAnyH Try.prog md ops Q S fuel (listed.setIfInBounds i true) (a.put (some d) (.slice (some ⟨w.heap.size, 0, none⟩) 1 1)) (w.alloc (.cells #[.int .i64 x, .int .i64 y] 45)))
    (hs : AllReadyH Try.prog md ops Q S fuel listed a w rs) : AllReadyH Try.prog md ops Q S fuel listed a w (i :: rs) := by
  refine AllReadyH.cons hi (fun K hK => ?_) hs
  have hw : Region.wanted o (yielded ops a.tmps) = true := by simp [Region.wanted, hgd]
  rw [if_pos hw]
  have hk := hK.out _ _ hS h
  unfold Oper.wp execOp
  simp [ho, go_sem, hp]
  rw [hd]
  exact hk
theorem node_app22 (d B : Nat) (ks kx : Nat) (v : Value) (xs : List Pr) (gb : Nat) (x y : Int)
    (hi : ops[i]? = some o) (hgd : o.guard = none) (ho : o.op = .call { callee := .builtin .append, args := #[.tmp ks, .tmp kx], argTypes := #[22, 22] }) (hd : o.dst = some d)
    (hs' : a.tmps[ks]?.getD undef = v) (hx : a.tmps[kx]?.getD undef = .slice (some ⟨gb, 0, none⟩) 1 1) (hgb : w.heap[gb]? = some (.cells #[.int .i64 x, .int .i64 y] 45))
    (hown : OwnP w B 45 v xs) (hB : B ≤ w.heap.size) (hlen : xs.length + 1 ≤ 1000000)
    (h : ∀ v' w', OwnP w' B 45 v' (xs ++ [(x, y)]) → w.grownBy w' v.ownBlock → S w' ∧ wpAnyH Try.prog md ops Q S fuel (listed.setIfInBounds i true) (a.put (some d) v') w')
    (hs : AllReadyH Try.prog md ops Q S fuel listed a w rs) : AllReadyH Try.prog md ops Q S fuel listed a w (i :: rs) := by
  refine AllReadyH.cons hi (fun K hK => ?_) hs
  have hw : Region.wanted o (yielded ops a.tmps) = true := by simp [Region.wanted, hgd]
  rw [if_pos hw]
  have hinf := info45
  cases hi0 : Try.prog.info? 45 with
  | none => rw [hi0] at hinf; cases hinf
  | some inf =>
    rw [hi0] at hinf
    simp only [Option.map_some, Option.some.injEq, Prod.mk.injEq] at hinf
    obtain ⟨e1, e2, e3⟩ := hinf
    have a1 : a.eval (.tmp ks) = v := by simpa [Act.eval] using hs'
    have a2 : a.eval (.tmp kx) = .slice (some ⟨gb, 0, none⟩) 1 1 := by simpa [Act.eval] using hx
    refine wp_append_own w (.tmp ks) (.tmp kx) 22 ho B 45 inf (.agg #[.int .i64 0, .int .i64 0]) 2 16 Try.underlying22 hi0 e1 e2 e3 rfl (by decide) v xs.length (pcells xs) a1 hown ⟨gb, 0, none⟩ 1 1 [.int .i64 x, .int .i64 y] a2 rfl ?_ (by simp [Value.oneCell']) (by unfold maxLen; omega) (by omega) hB ?_
    · intro j u hu
      have hadd : (⟨gb, 0, none⟩ : Addr).add j = ⟨gb, j, none⟩ := by unfold Addr.add; split <;> simp_all
      rw [hadd, World.cell?, hgb]
      simpa using hu
    · intro v' w' hv hgr _
      rw [hd]
      have h2 := h v' w' (by unfold OwnP; rw [List.length_append, pcells_append]; exact hv) hgr
      exact hK.out _ _ h2.1 (fun _ => h2.2)
end
theorem argAr_below {w w' : World} {ja : Option Addr} {jn : Nat} (h : ArgAr w ja jn) (hb : Below w.heap.size w w') : ArgAr w' ja jn := by
  obtain ⟨h1, h2⟩ := h
  refine ⟨h1, fun i hi => ?_⟩
  obtain ⟨ad, z0, z1, ha, hl, e0, e1, g0, g1⟩ := h2 i hi
  exact ⟨ad, z0, z1, ha, Nat.lt_of_lt_of_le hl hb.size, (hb.cell (by rw [add_block]; exact hl)).trans e0, (hb.cell (by rw [add_block]; exact hl)).trans e1, g0, g1⟩
set_option maxRecDepth 100000 in
set_option maxHeartbeats 2000000 in
theorem made_any (nb : Int) (ja : Option Addr) (jn jc most : Nat) (w : World) (hnb : 0 ≤ nb ∧ nb < 256) (hm : 1 ≤ most ∧ most ≤ 12) (hx : ArgAr w ja jn) :
    Calls Try.prog 27 #[.int .u8 nb, .slice ja jn jc, .int .i64 (most : Int)] w fun e w' => ∃ (size : Nat) (v : Value) (l : List Pr), e = .returned (.tuple #[.int .i64 (size : Int), v]) ∧ OwnP w' w.heap.size 45 v l ∧ validP (size : Int) l = true ∧ 1 ≤ size ∧ size ≤ most ∧ (size : Int) = nb % most + 1 ∧ l.length = min jn 40 ∧ Below w.heap.size w w' := by
  have HXA := hid hx
  have hjm : jn ≤ maxLen := hx.1
  obtain ⟨g0, g1⟩ := hnb
  obtain ⟨m0, m1⟩ := hm
  have htm : nb.tmod (most : Int) = nb % (most : Int) := Int.tmod_eq_emod_of_nonneg g0
  have hpos : 0 ≤ nb % (most : Int) := Int.emod_nonneg _ (by omega)
  have hlt : nb % (most : Int) < (most : Int) := Int.emod_lt_of_pos _ (by omega)
  obtain ⟨size, hsz⟩ : ∃ size : Nat, nb % (most : Int) + 1 = (size : Int) := ⟨(nb % (most : Int) + 1).toNat, (Int.toNat_of_nonneg (by omega)).symm⟩
  have HSZ := hid hsz
  have hs1 : 1 ≤ size := by omega
  have hs2 : size ≤ most := by omega
  have hnz : ¬ most = 0 := by omega
  have hmod : nb.tmod (most : Int) = (size : Int) - 1 := by omega
  have HNZ : Hid (¬ size = 0) := by show ¬ _; omega
  clear hx hsz htm hpos hlt
  have HB0 : Hid (Below w.heap.size w (w.alloc (.cells #[] 45))) := ba w _
  have HT0 : Hid (OwnP (w.alloc (.cells #[] 45)) w.heap.size 45 (.slice (some ⟨w.heap.size, 0, none⟩) 0 0) []) := row_of_block (heap_alloc_new w (.cells #[] 45)) (Nat.le_refl _)
  have hmx : jn ≤ 9223372036854775807 := by unfold maxLen at hjm; omega
  go_enter Try.func27, Try.ntmps27
  go_wp2_with fail
  go_loopw [10, 9] (fun zv ov wr => ∃ (i : Nat) (l : List Pr), zv = .int .i64 i ∧ i ≤ jn ∧ i ≤ 40 ∧ Hid (OwnP wr w.heap.size 45 ov l) ∧ l.length = i ∧ Hid (l.all (inB (size : Int)) = true) ∧ Hid (Below w.heap.size w wr)) (fun zv _ _ => 40 - (intOf zv).toNat)
  case atStart => exact ⟨0, [], rfl, Nat.zero_le _, Nat.zero_le _, HT0, rfl, by show _ = _; rfl, HB0⟩
  case round =>
    obtain ⟨i, l, rfl, hi, hi4, HT, hll, HAL, HBr⟩ := hrel
    obtain ⟨ov, hov⟩ : ∃ ov, ov = u9 := ⟨_, rfl⟩
    rw [← hov] at HT ⊢
    clear hov
    by_cases hjn : i < jn
    · by_cases h40 : i < 40
      · obtain ⟨ad, z0, z1, rfl, hadl, e0, e1, ⟨q0, q1⟩, q2, q3⟩ := HXA.out.2 i hjn
        have F0 : Hid (∀ w', Below w.heap.size w w' → w'.cell? (ad.add (i * 2)) = some (.int .u8 z0)) := fun w' hb => (hb.cell (p := ad.add (i * 2)) (by rw [add_block]; exact hadl)).trans e0
        have F1 : Hid (∀ w', Below w.heap.size w w' → w'.cell? { block := (ad.add (i * 2)).block, off := (ad.add (i * 2)).off + 1 } = some (.int .u8 z1)) := fun w' hb => (hb.cell (p := { block := (ad.add (i * 2)).block, off := (ad.add (i * 2)).off + 1 }) (by show (ad.add (i * 2)).block < _; rw [add_block]; exact hadl)).trans ((congrArg w.cell? (add_succ ad (i * 2) 0)).symm.trans e1)
        have KEEP : Hid (∀ w', Below wr.heap.size wr w' → w'.cell? (ad.add (i * 2)) = some (.int .u8 z0) ∧ w'.cell? { block := (ad.add (i * 2)).block, off := (ad.add (i * 2)).off + 1 } = some (.int .u8 z1)) := fun w' hb => ⟨F0.out w' (HBr.out.trans (hb.mono HBr.out.size)), F1.out w' (HBr.out.trans (hb.mono HBr.out.size))⟩
        have KEEP2 : Hid (∀ w', Below w.heap.size w w' → w'.cell? (ad.add (i * 2)) = some (.int .u8 z0) ∧ w'.cell? { block := (ad.add (i * 2)).block, off := (ad.add (i * 2)).off + 1 } = some (.int .u8 z1)) := fun w' hb => ⟨F0.out w' hb, F1.out w' hb⟩
        have HLN : Hid (l.length + 1 ≤ 1000000) := by show _ ≤ _; omega
        obtain ⟨x, hxe⟩ : ∃ x, x = z0 % (size : Int) := ⟨_, rfl⟩
        obtain ⟨y, hye⟩ : ∃ y, y = z1 % (size : Int) := ⟨_, rfl⟩
        have HX : Hid (z0.tmod (size : Int) = x) := by show _ = _; rw [hxe]; exact Int.tmod_eq_emod_of_nonneg q0
        have HY : Hid (z1.tmod (size : Int) = y) := by show _ = _; rw [hye]; exact Int.tmod_eq_emod_of_nonneg q2
        have x1 : 0 ≤ x := by rw [hxe]; exact Int.emod_nonneg _ (by omega)
        have x2 : x < (size : Int) := by rw [hxe]; exact Int.emod_lt_of_pos _ (by omega)
        have y1 : 0 ≤ y := by rw [hye]; exact Int.emod_nonneg _ (by omega)
        have y2 : y < (size : Int) := by rw [hye]; exact Int.emod_lt_of_pos _ (by omega)
        have HGO : Hid ([(x, y)].all (inB (size : Int)) = true) := by
          show _ = _
          simp only [List.all_cons, List.all_nil, Bool.and_true]
          exact decide_eq_true ⟨x1, x2, y1, y2⟩
        clear e0 e1 hadl hxe hye
        go_upto_region 5 with fail
        refine wp_region_held_drew (S := fun w' => w'.cell? (ad.add (i * 2)) = some (.int .u8 z0) ∧ w'.cell? { block := (ad.add (i * 2)).block, off := (ad.add (i * 2)).off + 1 } = some (.int .u8 z1)) (by kernel_rfl) (KEEP.out _ ((Below.refl _ _).drew)) (fun hHeld => ?_)
        have HU0 : Hid (Below wr.heap.size wr wr.drew) := (Below.refl _ _).drew
        generalize wr.drew = u0 at *
        refine take_at (i := 0) 27 (v := ov) rfl (by kernel_rfl) (by kernel_rfl) (by kernel_rfl) rfl (fun _ _ _ h => h) (by rfl) (fun w hSw => ?_) hHeld ?_
        · (try dsimp only at hSw); go_simp
        simp only [Act.put, List.setIfInBounds_toArray, List.set_cons_zero, List.set_cons_succ]
        refine take_at (i := 1) 28 (v := .slice (some ad) jn jc) rfl (by kernel_rfl) (by kernel_rfl) (by kernel_rfl) rfl (fun _ _ _ h => h) (by rfl) (fun w hSw => ?_) hHeld ?_
        · (try dsimp only at hSw); go_simp
        simp only [Act.put, List.setIfInBounds_toArray, List.set_cons_zero, List.set_cons_succ]
        refine take_at (i := 2) 29 (v := .int .i64 i) rfl (by kernel_rfl) (by kernel_rfl) (by kernel_rfl) rfl (fun _ _ _ h => h) (by rfl) (fun w hSw => ?_) hHeld ?_
        · (try dsimp only at hSw); go_simp
        simp only [Act.put, List.setIfInBounds_toArray, List.set_cons_zero, List.set_cons_succ]
        refine take_at (i := 3) 30 (v := .pointer (some (ad.add (i * 2)))) rfl (by kernel_rfl) (by kernel_rfl) (by kernel_rfl) rfl (fun _ _ _ h => h) (by rfl) (fun w hSw => ?_) hHeld ?_
        · (try dsimp only at hSw); go_simp
        simp only [Act.put, List.setIfInBounds_toArray, List.set_cons_zero, List.set_cons_succ]
        refine take_at (i := 4) 31 (v := .pointer (some (ad.add (i * 2)))) rfl (by kernel_rfl) (by kernel_rfl) (by kernel_rfl) rfl (fun _ _ _ h => h) (by rfl) (fun w hSw => ?_) hHeld ?_
        · (try dsimp only at hSw); go_simp
        simp only [Act.put, List.setIfInBounds_toArray, List.set_cons_zero, List.set_cons_succ]
        refine take_at (i := 5) 32 (v := .int .u8 z0) rfl (by kernel_rfl) (by kernel_rfl) (by kernel_rfl) rfl (fun _ _ _ h => h) (by rfl) (fun w hSw => ?_) hHeld ?_
        · (try dsimp only at hSw); go_simp
        simp only [Act.put, List.setIfInBounds_toArray, List.set_cons_zero, List.set_cons_succ]
        refine take_at (i := 6) 33 (v := .int .i64 z0) rfl (by kernel_rfl) (by kernel_rfl) (by kernel_rfl) rfl (fun _ _ _ h => h) (by rfl) (fun w hSw => ?_) hHeld ?_
        · (try dsimp only at hSw); go_simp; first | done | (rw [IntKind.wrap_i64]; omega)
        simp only [Act.put, List.setIfInBounds_toArray, List.set_cons_zero, List.set_cons_succ]
        refine take_at (i := 7) 34 (v := .int .i64 size) rfl (by kernel_rfl) (by kernel_rfl) (by kernel_rfl) rfl (fun _ _ _ h => h) (by rfl) (fun w hSw => ?_) hHeld ?_
        · (try dsimp only at hSw); go_simp
        simp only [Act.put, List.setIfInBounds_toArray, List.set_cons_zero, List.set_cons_succ]
        refine take_at (i := 8) 35 (v := .int .i64 x) rfl (by kernel_rfl) (by kernel_rfl) (by kernel_rfl) rfl (fun _ _ _ h => h) (by rfl) (fun w hSw => ?_) hHeld ?_
        · (try dsimp only at hSw); go_simp; rw [if_neg HNZ.out, HX.out]
        simp only [Act.put, List.setIfInBounds_toArray, List.set_cons_zero, List.set_cons_succ]
        refine take_at (i := 9) 36 (v := .slice (some ad) jn jc) rfl (by kernel_rfl) (by kernel_rfl) (by kernel_rfl) rfl (fun _ _ _ h => h) (by rfl) (fun w hSw => ?_) hHeld ?_
        · (try dsimp only at hSw); go_simp
        simp only [Act.put, List.setIfInBounds_toArray, List.set_cons_zero, List.set_cons_succ]
        refine take_at (i := 10) 37 (v := .int .i64 i) rfl (by kernel_rfl) (by kernel_rfl) (by kernel_rfl) rfl (fun _ _ _ h => h) (by rfl) (fun w hSw => ?_) hHeld ?_
        · (try dsimp only at hSw); go_simp
        simp only [Act.put, List.setIfInBounds_toArray, List.set_cons_zero, List.set_cons_succ]
        refine take_at (i := 11) 38 (v := .pointer (some (ad.add (i * 2)))) rfl (by kernel_rfl) (by kernel_rfl) (by kernel_rfl) rfl (fun _ _ _ h => h) (by rfl) (fun w hSw => ?_) hHeld ?_
        · (try dsimp only at hSw); go_simp
        simp only [Act.put, List.setIfInBounds_toArray, List.set_cons_zero, List.set_cons_succ]
        refine take_at (i := 12) 39 (v := .pointer (some { block := (ad.add (i * 2)).block, off := (ad.add (i * 2)).off + 1 })) rfl (by kernel_rfl) (by kernel_rfl) (by kernel_rfl) rfl (fun _ _ _ h => h) (by rfl) (fun w hSw => ?_) hHeld ?_
        · (try dsimp only at hSw); go_simp
        simp only [Act.put, List.setIfInBounds_toArray, List.set_cons_zero, List.set_cons_succ]
        refine take_at (i := 13) 40 (v := .int .u8 z1) rfl (by kernel_rfl) (by kernel_rfl) (by kernel_rfl) rfl (fun _ _ _ h => h) (by rfl) (fun w hSw => ?_) hHeld ?_
        · (try dsimp only at hSw); go_simp
        simp only [Act.put, List.setIfInBounds_toArray, List.set_cons_zero, List.set_cons_succ]
        refine take_at (i := 14) 41 (v := .int .i64 z1) rfl (by kernel_rfl) (by kernel_rfl) (by kernel_rfl) rfl (fun _ _ _ h => h) (by rfl) (fun w hSw => ?_) hHeld ?_
        · (try dsimp only at hSw); go_simp; first | done | (rw [IntKind.wrap_i64]; omega)
        simp only [Act.put, List.setIfInBounds_toArray, List.set_cons_zero, List.set_cons_succ]
        refine take_at (i := 15) 42 (v := .int .i64 size) rfl (by kernel_rfl) (by kernel_rfl) (by kernel_rfl) rfl (fun _ _ _ h => h) (by rfl) (fun w hSw => ?_) hHeld ?_
        · (try dsimp only at hSw); go_simp
        simp only [Act.put, List.setIfInBounds_toArray, List.set_cons_zero, List.set_cons_succ]
        refine take_at (i := 16) 43 (v := .int .i64 y) rfl (by kernel_rfl) (by kernel_rfl) (by kernel_rfl) rfl (fun _ _ _ h => h) (by rfl) (fun w hSw => ?_) hHeld ?_
        · (try dsimp only at hSw); go_simp; rw [if_neg HNZ.out, HY.out]
        simp only [Act.put, List.setIfInBounds_toArray, List.set_cons_zero, List.set_cons_succ]
        refine take_at (i := 17) 44 (v := .agg #[.int .i64 x, .int .i64 y]) rfl (by kernel_rfl) (by kernel_rfl) (by kernel_rfl) rfl (fun _ _ _ h => h) (by rfl) (fun w hSw => ?_) hHeld ?_
        · (try dsimp only at hSw); go_simp
        simp only [Act.put, List.setIfInBounds_toArray, List.set_cons_zero, List.set_cons_succ]
        refine wpAnyH_ready (rs := [18]) (by kernel_rfl) (by simp) ?_
        refine node_build22 45 44 _ _ rfl rfl rfl rfl rfl (KEEP.out _ (Below.alloc HU0.out (Below.size HU0.out) _)) (fun hHeld => ?_) AllReadyH.nil
        · have HU1 := hid (Below.alloc HU0.out (Below.size HU0.out) (.cells #[.int .i64 x, .int .i64 y] 45))
          have HG1 := hid (heap_alloc_new u0 (.cells #[.int .i64 x, .int .i64 y] 45))
          have HP1 : Hid (OwnP (u0.alloc (.cells #[.int .i64 x, .int .i64 y] 45)) w.heap.size 45 ov l) := row_below (row_below HT.out HU0.out) (ba u0 (.cells #[.int .i64 x, .int .i64 y] 45))
          obtain ⟨u1, hu1⟩ : ∃ v, v = u0.alloc (.cells #[.int .i64 x, .int .i64 y] 45) := ⟨_, rfl⟩
          obtain ⟨BX, hBX⟩ : ∃ b, b = u0.heap.size := ⟨_, rfl⟩
          rw [← hu1] at HU1 HG1 HP1 ⊢
          rw [← hBX] at HG1 ⊢
          replace hHeld := KEEP.out _ HU1.out
          clear hu1 hBX
          simp only [Act.put, List.setIfInBounds_toArray, List.set_cons_zero, List.set_cons_succ]
          refine wpAnyH_ready (rs := [19]) (by kernel_rfl) (by simp) ?_
          refine node_app22 46 w.heap.size 27 45 ov l BX x y rfl rfl rfl rfl rfl rfl HG1.out HP1.out (Nat.le_trans HBr.out.size HU1.out.size) HLN.out ?_ AllReadyH.nil
          · intro v9 u2 ho2 hg2
            obtain ⟨na, nc, rfl⟩ := row_slice ho2
            have HP2 := hid ho2
            have HU2 : Hid (Below w.heap.size w u2) := (HBr.out.trans (HU1.out.mono HBr.out.size)).grown hg2 (Nat.le_trans HBr.out.size HU1.out.size) (fun k hk => (World.ownsRow.lt HP1.out k hk).1)
            have HU3 : Hid (u1.grownBy u2 ov.ownBlock) := hg2
            refine ⟨KEEP2.out u2 HU2.out, ?_⟩
            have hHeld := KEEP2.out u2 HU2.out
            clear ho2 hg2
            simp only [Act.put, List.setIfInBounds_toArray, List.set_cons_zero, List.set_cons_succ]
            refine take_at (i := 20) 9 (v := .slice na (l ++ [(x, y)]).length nc) rfl (by kernel_rfl) (by kernel_rfl) (by kernel_rfl) rfl (fun _ _ _ h => h) (by rfl) (fun w hSw => ?_) hHeld ?_
            · (try dsimp only at hSw); go_simp
            simp only [Act.put, List.setIfInBounds_toArray, List.set_cons_zero, List.set_cons_succ]
            refine wpAnyH_done (by kernel_rfl) ?_ _
            clear hHeld
            go_wp2_with fail
            go_roundw
            case rel => exact ⟨i + 1, l ++ [(x, y)], by go_num, by omega, by omega, HP2.out, by simp [hll], by rw [List.all_append, HAL.out, HGO.out]; rfl, HU2.out⟩
            case measure => simp [intOf]; omega
      · have hVA : validP (size : Int) l = true := by
          unfold validP
          rw [HAL.out, decide_eq_true (by omega : 1 ≤ (size : Int) ∧ (size : Int) ≤ 12), decide_eq_true (by omega : l.length ≤ 40)]; rfl
        have HVA := hid hVA
        clear hVA
        go_wp2_with fail
        go_ret2
        exact ⟨size, ov, l, rfl, HT.out, HVA.out, hs1, hs2, HSZ.out.symm, by omega, HBr.out⟩
    · have hVA : validP (size : Int) l = true := by
        unfold validP
        rw [HAL.out, decide_eq_true (by omega : 1 ≤ (size : Int) ∧ (size : Int) ≤ 12), decide_eq_true (by omega : l.length ≤ 40)]; rfl
      have HVA := hid hVA
      clear hVA
      go_wp2_with fail
      go_ret2
      exact ⟨size, ov, l, rfl, HT.out, HVA.out, hs1, hs2, HSZ.out.symm, by omega, HBr.out⟩
end Go.Proofs.Ytaedbkdimpdngaa
