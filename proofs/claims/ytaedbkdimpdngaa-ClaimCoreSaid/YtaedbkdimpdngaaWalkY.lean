/-
  The rows of lists of the reference (Lists, 36).
-/
import Derived.Test.YtaedbkdimpdngaaBaseG
namespace Go.Proofs.Ytaedbkdimpdngaa
open Go.RowKit
theorem rd_oneS {u : World} {b : Nat} {z : Option Addr} {zn zc : Nat} (h : u.heap[b]? = some (.cells #[.slice z zn zc] 24)) : Rd u (.slice (some ⟨b, 0, none⟩) 1 1) 1 1 [.slice z zn zc] := by
  refine ⟨rfl, fun v hv => ?_, .inr ⟨⟨b, 0, none⟩, 1, rfl, fun _ => heap_lt h, fun j v hj => ?_⟩⟩
  · simp at hv; subst hv; rfl
  · have hadd : (⟨b, 0, none⟩ : Addr).add j = ⟨b, j, none⟩ := by unfold Addr.add; split <;> simp_all
    rw [hadd, World.cell?, h]
    simpa using hj
set_option maxRecDepth 100000 in
set_option maxHeartbeats 4000000 in
theorem rLists_any (v : Value) (l : List Nat) (w : World) (hv : IsV w v (l.map iv)) (hl : ∀ s, s ∈ l → s < 2 ^ 16) (hn : l.length ≤ 5000) :
    Calls Try.prog 36 #[v] w fun e w' => ∃ u, e = .returned u ∧ IsLL w' u (lists l) ∧ Below w.heap.size w w' := by
  obtain ⟨a, c, rfl⟩ := isV_slice hv
  rw [List.length_map] at hv ⊢
  have HV := hid hv
  have HL := hid hl
  have LI : Hid (∀ (s : Nat) w', s < 2 ^ 16 → Calls Try.prog 24 #[.int .i64 (s : Int)] w' fun e w'' => ∃ v, e = .returned v ∧ OwnV w'' w'.heap.size 3 v ((elems s).map iv) ∧ Below w'.heap.size w' w'') := fun s w' h => rList_any s w' h
  have LE : Hid (∀ u v x y w', IsV w' u (x.map iv) → IsV w' v (y.map iv) → Calls Try.prog 57 #[u, v] w' fun e w'' => e = .returned (.bool (ltL x y)) ∧ Below w'.heap.size w' w'') := fun u v x y w' h1 h2 => less_any u v x y w' h1 h2
  clear hv hl
  obtain ⟨n, hnn⟩ : ∃ n, n = l.length := ⟨_, rfl⟩
  have HNN := hid hnn
  rw [← hnn] at HV hn ⊢
  clear hnn
  go_enter Try.func36, Try.ntmps36
  go_wp2_with fail
  have HM : Hid (OwnRows (w.alloc (.cells #[] 24)) w.heap.size (.slice (some ⟨w.heap.size, 0, none⟩) 0 0) [] (lists (l.take 0))) := ⟨rfl, ownV_made w w.heap.size 24 (Nat.le_refl _), fun j hj => absurd hj (Nat.not_lt_zero _)⟩
  have HB0 := hid (ba w (.cells #[] 24))
  go_loopw [4, 3] (fun cv ov wr => ∃ (i g oc : Nat) (us : List Value), cv = .int .i64 i ∧ ov = .slice (some ⟨g, 0, none⟩) i oc ∧ i ≤ n ∧ Hid (OwnRows wr w.heap.size (.slice (some ⟨g, 0, none⟩) i oc) us (lists (l.take i))) ∧ Hid (Below w.heap.size w wr)) (fun cv _ _ => n - (intOf cv).toNat)
  case atStart => exact ⟨0, _, _, _, rfl, rfl, Nat.zero_le _, HM, HB0⟩
  case round =>
    obtain ⟨i, g, oc, us, rfl, rfl, hi, HRW, HBr⟩ := hrel
    rename World => wr
    clear HM HB0
    by_cases hlt : i < n
    · have hli : i < l.length := by rw [← HNN.out]; exact hlt
      obtain ⟨g0, rfl, -, c0⟩ := isV_at (isV_below HV.out HBr.out) i (by rw [List.length_map]; exact hli)
      rw [getD_map iv _ 0 i hli] at c0
      have HS : Hid (l.getD i 0 < 2 ^ 16) := HL.out _ (by rw [List.getD_eq_getElem?_getD, List.getElem?_eq_getElem hli]; exact List.getElem_mem hli)
      have HSC := hid (lists_snoc l i hli)
      have HLL : Hid ((lists (l.take i)).length = i) := by show _ = _; rw [lists_len, List.length_take]; omega
      change wr.cell? _ = some (.int .i64 ((l.getD i 0 : Nat) : Int)) at c0
      generalize hLs : lists (l.take i) = Ls at *
      generalize l.getD i 0 = s at *
      clear hLs hli
      go_upto_region 6 with (first | (go_at_call 24; refine (LI.out s _ HS.out).mono ?_; rintro e w5 ⟨lv, rfl, ho5, hb5⟩; obtain ⟨la, ln, lc, rfl⟩ := ownV_sh ho5; have HLV := hid (ownV_isV ho5 (by rw [List.length_map]; exact elems_le _)); have HB5 := hid hb5; clear ho5 hb5 c0) | fail)
      go_loopw [6] (fun kv wk => ∃ k : Nat, kv = .int .i64 k ∧ k ≤ i ∧ Hid (∀ j, j < k → ltL (Ls.getD j []) (elems s) = true) ∧ Hid (Below w5.heap.size w5 wk)) (fun kv _ => i - (intOf kv).toNat)
      case atStart => exact ⟨0, rfl, Nat.zero_le _, fun j hj => absurd hj (Nat.not_lt_zero _), Below.refl _ _⟩
      case round =>
        obtain ⟨k, rfl, hk, HLS, HBk⟩ := hrel
        rename World => wk
        by_cases hki : k < i
        · have hkl : k < Ls.length := by rw [HLL.out]; exact hki
          have q1 := HRW.out.2.2 k hkl
          have c1 := ownV_cell (ownV_below (ownV_below HRW.out.2.1 HB5.out) HBk.out) k (by rw [HRW.out.1]; exact hkl)
          obtain ⟨pa, pc, h1⟩ := isV_slice q1
          rw [h1] at q1 c1
          have L1 := hid (LE.out _ _ _ _ wk (isV_below (isV_below q1 HB5.out) HBk.out) (isV_below HLV.out HBk.out))
          clear q1 h1
          generalize ((Ls.getD k []).map iv).length = pn at *
          cases hb : ltL (Ls.getD k []) (elems s) with
          | true =>
            have HLS2 : Hid (∀ j, j < k + 1 → ltL (Ls.getD j []) (elems s) = true) := fun j hj => by
              by_cases e : j = k
              · rw [e]; exact hb
              · exact HLS.out j (by omega)
            rw [hb] at L1
            clear hb
            go_wp2_with (first | (go_at_call 57; refine L1.out.mono ?_; rintro e w6 ⟨rfl, hb6⟩; have HB6 := hid (below_step HBk.out hb6); clear hb6) | fail)
            go_roundw
            case rel => exact ⟨k + 1, by go_num, by omega, HLS2, HB6⟩
            case measure => simp [intOf]; omega
          | false =>
            have HGE : Hid (k < Ls.length → ltL (Ls.getD k []) (elems s) = false) := fun _ => hb
            rw [hb] at L1
            clear hb
            go_upto_region 8 with (first | (go_at_call 57; refine L1.out.mono ?_; rintro e wz ⟨rfl, hb6⟩; have HBz := hid (below_step HBk.out hb6); clear hb6) | fail)
            clear c1 L1
            have HWZ : Hid (w.heap.size ≤ wz.heap.size) := by have h1 := HBr.out.size; have h2 := HB5.out.size; have h3 := HBz.out.size; show _ ≤ _; omega
            have HOQ := hid (ownV_below (ownV_below HRW.out.2.1 HB5.out) HBz.out)
            have HUL := hid HRW.out.1
            have HIS : Hid (∀ j, j < Ls.length → IsV wz (us.getD j undef) ((Ls.getD j []).map iv)) := fun j hj => isV_below (isV_below (HRW.out.2.2 j hj) HB5.out) HBz.out
            have HLZ := hid (isV_below HLV.out HBz.out)
            have hul : us.length = i := by rw [HUL.out, HLL.out]
            have HKU : Hid (k ≤ us.length) := by rw [hul]; exact hk
            have HLT : Hid (lists (l.take (i + 1)) = Ls.take k ++ [elems s] ++ Ls.drop k) := by
              show _ = _
              rw [HSC.out]
              exact insL_at (by rw [HLL.out]; exact hk) HLS.out HGE.out
            have HNL : Hid ((us.take k ++ [Value.slice la ln lc] ++ us.drop k).length = i + 1) := by show _ = _; simp; omega
            obtain ⟨US1, hU1⟩ : ∃ U, U = (us.drop 0).take (k - 0) := ⟨_, rfl⟩
            obtain ⟨US2, hU2⟩ : ∃ U, U = (us.drop k).take (i - k) := ⟨_, rfl⟩
            have hl1 : US1.length ≤ 5000 := by rw [hU1, List.length_take, List.length_drop]; omega
            have LEN1 : Hid (([] ++ US1).length ≤ 1000000) := by show _ ≤ _; rw [List.nil_append]; omega
            have LEN2 : Hid (([] ++ US1 ++ [Value.slice la ln lc]).length ≤ 1000000) := by show _ ≤ _; rw [List.nil_append, List.length_append]; simp only [List.length_singleton]; omega
            have HK6 : Hid (k ≤ 1000000) := by show _ ≤ _; omega
            have HK7 : Hid (i - k ≤ 1000000) := by show _ ≤ _; omega
            have HSN : Hid ([] ++ US1 ++ [Value.slice la ln lc] ++ US2 = us.take k ++ [Value.slice la ln lc] ++ us.drop k) := by
              show _ = _
              rw [hU1, hU2, List.nil_append, List.drop_zero, Nat.sub_zero, List.take_of_length_le (l := us.drop k) (by rw [List.length_drop]; omega)]
            have H1C := ownRows_one HRW.out
            have hoc : i ≤ oc := by have h := ownV_capN HOQ.out; omega
            have RD1 : Hid (∀ w', Below wz.heap.size wz w' → Rd w' (.slice (some ⟨g, 0, none⟩) k oc) k 1 US1) := fun w' hb => by
              rw [hU1]
              exact ownV_rd (ownV_below HOQ.out hb) H1C 0 k (Nat.zero_le _) (by omega) oc
            have RD2 : Hid (∀ w', Below wz.heap.size wz w' → Rd w' (.slice (if oc = k then some ⟨g, 0, none⟩ else some ⟨g, k, none⟩) (i - k) (oc - k)) (i - k) 1 US2) := fun w' hb => by
              by_cases hok : oc = k
              · rw [if_pos hok]
                have h0 : i - k = 0 := by omega
                rw [hU2, h0]
                exact ⟨rfl, fun u hu => (by simp at hu), .inr ⟨_, _, rfl, fun h => (by simp at h), fun j u hj => (by simp at hj)⟩⟩
              · rw [if_neg hok, hU2]
                exact ownV_rd (ownV_below HOQ.out hb) H1C k i (by omega) (by omega) (oc - k)
            have hkoc : ¬ oc < k := by omega
            clear H1C hU1 hU2 hl1 HLS HGE hul
            refine wp_region_held_drew (S := fun _ => True) (by kernel_rfl) trivial (fun hHeld => ?_)
            have HU0 : Hid (Below wz.heap.size wz wz.drew) := (Below.refl _ _).drew
            generalize wz.drew = u0 at *
            refine take_at (i := 1) 34 (v := .slice (some ⟨g, 0, none⟩) i oc) rfl (by kernel_rfl) (by kernel_rfl) (by kernel_rfl) rfl (fun _ _ _ h => h) (by rfl) (fun w hSw => ?_) hHeld ?_
            · (try dsimp only at hSw); go_simp
            simp only [Act.put, List.setIfInBounds_toArray, List.set_cons_zero, List.set_cons_succ]
            refine take_at (i := 2) 35 (v := .int .i64 k) rfl (by kernel_rfl) (by kernel_rfl) (by kernel_rfl) rfl (fun _ _ _ h => h) (by rfl) (fun w hSw => ?_) hHeld ?_
            · (try dsimp only at hSw); go_simp
            simp only [Act.put, List.setIfInBounds_toArray, List.set_cons_zero, List.set_cons_succ]
            refine take_at (i := 3) 36 (v := .slice (some ⟨g, 0, none⟩) k oc) rfl (by kernel_rfl) (by kernel_rfl) (by kernel_rfl) rfl (fun _ _ _ h => h) (by rfl) (fun w hSw => ?_) hHeld ?_
            · (try dsimp only at hSw); go_simp
            simp only [Act.put, List.setIfInBounds_toArray, List.set_cons_zero, List.set_cons_succ]
            refine take_at (i := 5) 38 (v := .slice la ln lc) rfl (by kernel_rfl) (by kernel_rfl) (by kernel_rfl) rfl (fun _ _ _ h => h) (by rfl) (fun w hSw => ?_) hHeld ?_
            · (try dsimp only at hSw); go_simp
            simp only [Act.put, List.setIfInBounds_toArray, List.set_cons_zero, List.set_cons_succ]
            refine take_at (i := 8) 41 (v := .slice (some ⟨g, 0, none⟩) i oc) rfl (by kernel_rfl) (by kernel_rfl) (by kernel_rfl) rfl (fun _ _ _ h => h) (by rfl) (fun w hSw => ?_) hHeld ?_
            · (try dsimp only at hSw); go_simp
            simp only [Act.put, List.setIfInBounds_toArray, List.set_cons_zero, List.set_cons_succ]
            refine take_at (i := 9) 42 (v := .int .i64 k) rfl (by kernel_rfl) (by kernel_rfl) (by kernel_rfl) rfl (fun _ _ _ h => h) (by rfl) (fun w hSw => ?_) hHeld ?_
            · (try dsimp only at hSw); go_simp
            simp only [Act.put, List.setIfInBounds_toArray, List.set_cons_zero, List.set_cons_succ]
            refine take_at (i := 10) 43 (v := .slice (if oc = k then some ⟨g, 0, none⟩ else some ⟨g, k, none⟩) (i - k) (oc - k)) rfl (by kernel_rfl) (by kernel_rfl) (by kernel_rfl) rfl (fun _ _ _ h => h) (by rfl) (fun w hSw => ?_) hHeld ?_
            · (try dsimp only at hSw); go_simp
            simp only [Act.put, List.setIfInBounds_toArray, List.set_cons_zero, List.set_cons_succ]
            refine wpAnyH_ready (rs := [0, 6]) (by kernel_rfl) (by simp) ?_
            refine node_none46 33 rfl rfl rfl rfl trivial (fun hHeld => ?_) ?_
            · have HU1 := hid (Below.alloc HU0.out (Below.size HU0.out) (.cells #[] 24))
              have GA1 := hid (heap_alloc_new u0 (.cells #[] 24))
              obtain ⟨u1, hu⟩ : ∃ v, v = u0.alloc (.cells #[] 24) := ⟨_, rfl⟩
              obtain ⟨b0, hb0⟩ : ∃ b, b = u0.heap.size := ⟨_, rfl⟩
              have HB0 : Hid (wz.heap.size ≤ b0) := by rw [hb0]; exact HU0.out.size
              rw [← hu] at HU1 GA1 ⊢
              rw [← hb0] at GA1 ⊢
              clear hu hb0
              simp only [Act.put, List.setIfInBounds_toArray, List.set_cons_zero, List.set_cons_succ]
              refine wpAnyH_ready (rs := [4, 6]) (by kernel_rfl) (by simp) ?_
              refine node_app46n 37 wz.heap.size 33 36 (.slice (some ⟨b0, 0, none⟩) 0 0) [] (.slice (some ⟨g, 0, none⟩) k oc) k US1 rfl rfl rfl rfl rfl rfl (RD1.out _ HU1.out) (row_of_block (size := 1) GA1.out HB0.out) HU1.out.size ⟨Nat.zero_le _, HK6.out⟩ ?_ ?_
              · intro v4 u2 ho4 hg4
                have O2 := hid ho4
                have HU2 : Hid (Below wz.heap.size wz u2) := HU1.out.grown hg4 HU1.out.size (fun q hq => (World.ownsRow.lt (row_of_block (size := 1) GA1.out HB0.out) q hq).1)
                refine ⟨trivial, ?_⟩
                clear ho4 hg4
                simp only [Act.put, List.setIfInBounds_toArray, List.set_cons_zero, List.set_cons_succ]
                refine wpAnyH_ready (rs := [6]) (by kernel_rfl) (by simp) ?_
                refine node_build46 39 38 la ln lc rfl (by rfl) rfl rfl rfl trivial (fun hHeld => ?_) AllReadyH.nil
                · have HU3 := hid (Below.alloc HU2.out (Below.size HU2.out) (.cells #[.slice la ln lc] 24))
                  have GB3 := hid (heap_alloc_new u2 (.cells #[.slice la ln lc] 24))
                  have O3 := hid (ownV_below O2.out (ba u2 (.cells #[.slice la ln lc] 24)))
                  obtain ⟨u3, hu⟩ : ∃ v, v = u2.alloc (.cells #[.slice la ln lc] 24) := ⟨_, rfl⟩
                  obtain ⟨b9, hb9⟩ : ∃ b, b = u2.heap.size := ⟨_, rfl⟩
                  rw [← hu] at HU3 GB3 O3 ⊢
                  rw [← hb9] at GB3 ⊢
                  clear hu hb9
                  simp only [Act.put, List.setIfInBounds_toArray, List.set_cons_zero, List.set_cons_succ]
                  refine wpAnyH_ready (rs := [7]) (by kernel_rfl) (by simp) ?_
                  refine node_app46n 40 wz.heap.size 37 39 v4 ([] ++ US1) (.slice (some ⟨b9, 0, none⟩) 1 1) 1 [.slice la ln lc] rfl rfl rfl rfl rfl rfl (rd_oneS GB3.out) O3.out HU3.out.size ⟨LEN1.out, by decide⟩ ?_ AllReadyH.nil
                  · intro v10 u4 ho4 hg4
                    have O4 := hid ho4
                    have HU4 : Hid (Below wz.heap.size wz u4) := HU3.out.grown hg4 HU3.out.size (fun q hq => (World.ownsRow.lt O3.out q hq).1)
                    refine ⟨trivial, ?_⟩
                    clear ho4 hg4
                    simp only [Act.put, List.setIfInBounds_toArray, List.set_cons_zero, List.set_cons_succ]
                    refine wpAnyH_ready (rs := [11]) (by kernel_rfl) (by simp) ?_
                    refine node_app46n 44 wz.heap.size 40 43 v10 ([] ++ US1 ++ [.slice la ln lc]) (.slice (if oc = k then some ⟨g, 0, none⟩ else some ⟨g, k, none⟩) (i - k) (oc - k)) (i - k) US2 rfl rfl rfl rfl rfl rfl (RD2.out _ HU4.out) O4.out HU4.out.size ⟨LEN2.out, HK7.out⟩ ?_ AllReadyH.nil
                    · intro v14 u5 ho4 hg4
                      rw [HSN.out] at ho4
                      obtain ⟨g8, c8, h8⟩ : ∃ g8 c8, v14 = .slice (some ⟨g8, 0, none⟩) (i + 1) c8 := (by obtain ⟨g8, c8, h, _⟩ := ownV_some ho4 (by rw [HNL.out]; exact Nat.succ_pos _); rw [HNL.out] at h; exact ⟨g8, c8, h⟩)
                      subst h8
                      have HO14 := hid ho4
                      have HU5 : Hid (Below wz.heap.size wz u5) := HU4.out.grown hg4 HU4.out.size (fun q hq => (World.ownsRow.lt O4.out q hq).1)
                      refine ⟨trivial, ?_⟩
                      clear ho4 hg4
                      simp only [Act.put, List.setIfInBounds_toArray, List.set_cons_zero, List.set_cons_succ]
                      refine take_at (i := 12) 3 (v := .slice (some ⟨g8, 0, none⟩) (i + 1) c8) rfl (by kernel_rfl) (by kernel_rfl) (by kernel_rfl) rfl (fun _ _ _ h => h) (by rfl) (fun w hSw => ?_) hHeld ?_
                      · (try dsimp only at hSw); go_simp
                      simp only [Act.put, List.setIfInBounds_toArray, List.set_cons_zero, List.set_cons_succ]
                      refine wpAnyH_done (by kernel_rfl) ?_ _
                      have HZ := hid (below_step (below_step (below_step HBr.out HB5.out) HBz.out) HU5.out)
                      have HR := hid (ownV_mono HO14.out HWZ.out)
                      have HI9 := hid (fun j hj => isV_below (HIS.out j hj) HU5.out)
                      have HX9 := hid (isV_below HLZ.out HU5.out)
                      clear hHeld
                      generalize u5 = w11 at *
                      go_wp2_with fail
                      go_roundw
                      case rel => exact ⟨i + 1, _, _, _, by go_num, rfl, by omega, by rw [HLT.out]; exact ownRows_ins HUL.out HI9.out HKU.out HX9.out HR.out, HZ⟩
                      case measure => simp [intOf]; omega
              refine node_build46 39 38 la ln lc rfl (by rfl) rfl rfl rfl trivial (fun hHeld => ?_) AllReadyH.nil
              · have HU2 := hid (Below.alloc HU1.out (Below.size HU1.out) (.cells #[.slice la ln lc] 24))
                have GB2 := hid (heap_alloc_new u1 (.cells #[.slice la ln lc] 24))
                have GA2 := hid ((Below.heap_alloc u1 (.cells #[.slice la ln lc] 24) b0 (heap_lt GA1.out)).trans GA1.out)
                obtain ⟨u2, hu⟩ : ∃ v, v = u1.alloc (.cells #[.slice la ln lc] 24) := ⟨_, rfl⟩
                obtain ⟨b9, hb9⟩ : ∃ b, b = u1.heap.size := ⟨_, rfl⟩
                have NE : Hid (b9 ≠ b0) := by have := heap_lt GA1.out; show _ ≠ _; omega
                rw [← hu] at HU2 GB2 GA2 ⊢
                rw [← hb9] at GB2 ⊢
                clear hu hb9
                simp only [Act.put, List.setIfInBounds_toArray, List.set_cons_zero, List.set_cons_succ]
                refine wpAnyH_ready (rs := [4]) (by kernel_rfl) (by simp) ?_
                refine node_app46n 37 wz.heap.size 33 36 (.slice (some ⟨b0, 0, none⟩) 0 0) [] (.slice (some ⟨g, 0, none⟩) k oc) k US1 rfl rfl rfl rfl rfl rfl (RD1.out _ HU2.out) (row_of_block (size := 1) GA2.out HB0.out) HU2.out.size ⟨Nat.zero_le _, HK6.out⟩ ?_ AllReadyH.nil
                · intro v4 u3 ho4 hg4
                  have O3 := hid ho4
                  have HU3 : Hid (Below wz.heap.size wz u3) := HU2.out.grown hg4 HU2.out.size (fun q hq => (World.ownsRow.lt (row_of_block (size := 1) GA2.out HB0.out) q hq).1)
                  have GB3 := hid ((hg4.block b9 (heap_lt GB2.out) (by intro e; simp [Value.ownBlock] at e; first | exact NE.out e | exact NE.out e.symm)).trans GB2.out)
                  refine ⟨trivial, ?_⟩
                  clear ho4 hg4
                  simp only [Act.put, List.setIfInBounds_toArray, List.set_cons_zero, List.set_cons_succ]
                  refine wpAnyH_ready (rs := [7]) (by kernel_rfl) (by simp) ?_
                  refine node_app46n 40 wz.heap.size 37 39 v4 ([] ++ US1) (.slice (some ⟨b9, 0, none⟩) 1 1) 1 [.slice la ln lc] rfl rfl rfl rfl rfl rfl (rd_oneS GB3.out) O3.out HU3.out.size ⟨LEN1.out, by decide⟩ ?_ AllReadyH.nil
                  · intro v10 u4 ho4 hg4
                    have O4 := hid ho4
                    have HU4 : Hid (Below wz.heap.size wz u4) := HU3.out.grown hg4 HU3.out.size (fun q hq => (World.ownsRow.lt O3.out q hq).1)
                    refine ⟨trivial, ?_⟩
                    clear ho4 hg4
                    simp only [Act.put, List.setIfInBounds_toArray, List.set_cons_zero, List.set_cons_succ]
                    refine wpAnyH_ready (rs := [11]) (by kernel_rfl) (by simp) ?_
                    refine node_app46n 44 wz.heap.size 40 43 v10 ([] ++ US1 ++ [.slice la ln lc]) (.slice (if oc = k then some ⟨g, 0, none⟩ else some ⟨g, k, none⟩) (i - k) (oc - k)) (i - k) US2 rfl rfl rfl rfl rfl rfl (RD2.out _ HU4.out) O4.out HU4.out.size ⟨LEN2.out, HK7.out⟩ ?_ AllReadyH.nil
                    · intro v14 u5 ho4 hg4
                      rw [HSN.out] at ho4
                      obtain ⟨g8, c8, h8⟩ : ∃ g8 c8, v14 = .slice (some ⟨g8, 0, none⟩) (i + 1) c8 := (by obtain ⟨g8, c8, h, _⟩ := ownV_some ho4 (by rw [HNL.out]; exact Nat.succ_pos _); rw [HNL.out] at h; exact ⟨g8, c8, h⟩)
                      subst h8
                      have HO14 := hid ho4
                      have HU5 : Hid (Below wz.heap.size wz u5) := HU4.out.grown hg4 HU4.out.size (fun q hq => (World.ownsRow.lt O4.out q hq).1)
                      refine ⟨trivial, ?_⟩
                      clear ho4 hg4
                      simp only [Act.put, List.setIfInBounds_toArray, List.set_cons_zero, List.set_cons_succ]
                      refine take_at (i := 12) 3 (v := .slice (some ⟨g8, 0, none⟩) (i + 1) c8) rfl (by kernel_rfl) (by kernel_rfl) (by kernel_rfl) rfl (fun _ _ _ h => h) (by rfl) (fun w hSw => ?_) hHeld ?_
                      · (try dsimp only at hSw); go_simp
                      simp only [Act.put, List.setIfInBounds_toArray, List.set_cons_zero, List.set_cons_succ]
                      refine wpAnyH_done (by kernel_rfl) ?_ _
                      have HZ := hid (below_step (below_step (below_step HBr.out HB5.out) HBz.out) HU5.out)
                      have HR := hid (ownV_mono HO14.out HWZ.out)
                      have HI9 := hid (fun j hj => isV_below (HIS.out j hj) HU5.out)
                      have HX9 := hid (isV_below HLZ.out HU5.out)
                      clear hHeld
                      generalize u5 = w11 at *
                      go_wp2_with fail
                      go_roundw
                      case rel => exact ⟨i + 1, _, _, _, by go_num, rfl, by omega, by rw [HLT.out]; exact ownRows_ins HUL.out HI9.out HKU.out HX9.out HR.out, HZ⟩
                      case measure => simp [intOf]; omega
            refine node_build46 39 38 la ln lc rfl (by rfl) rfl rfl rfl trivial (fun hHeld => ?_) AllReadyH.nil
            · have HU1 := hid (Below.alloc HU0.out (Below.size HU0.out) (.cells #[.slice la ln lc] 24))
              have GB1 := hid (heap_alloc_new u0 (.cells #[.slice la ln lc] 24))
              obtain ⟨u1, hu⟩ : ∃ v, v = u0.alloc (.cells #[.slice la ln lc] 24) := ⟨_, rfl⟩
              obtain ⟨b9, hb9⟩ : ∃ b, b = u0.heap.size := ⟨_, rfl⟩
              rw [← hu] at HU1 GB1 ⊢
              rw [← hb9] at GB1 ⊢
              clear hu hb9
              simp only [Act.put, List.setIfInBounds_toArray, List.set_cons_zero, List.set_cons_succ]
              refine wpAnyH_ready (rs := [0]) (by kernel_rfl) (by simp) ?_
              refine node_none46 33 rfl rfl rfl rfl trivial (fun hHeld => ?_) AllReadyH.nil
              · have HU2 := hid (Below.alloc HU1.out (Below.size HU1.out) (.cells #[] 24))
                have GA2 := hid (heap_alloc_new u1 (.cells #[] 24))
                have GB2 := hid ((Below.heap_alloc u1 (.cells #[] 24) b9 (heap_lt GB1.out)).trans GB1.out)
                obtain ⟨u2, hu⟩ : ∃ v, v = u1.alloc (.cells #[] 24) := ⟨_, rfl⟩
                obtain ⟨b0, hb0⟩ : ∃ b, b = u1.heap.size := ⟨_, rfl⟩
                have NE : Hid (b9 ≠ b0) := by have := heap_lt GB1.out; show _ ≠ _; omega
                have HB0 : Hid (wz.heap.size ≤ b0) := by rw [hb0]; exact HU1.out.size
                rw [← hu] at HU2 GA2 GB2 ⊢
                rw [← hb0] at GA2 ⊢
                clear hu hb0
                simp only [Act.put, List.setIfInBounds_toArray, List.set_cons_zero, List.set_cons_succ]
                refine wpAnyH_ready (rs := [4]) (by kernel_rfl) (by simp) ?_
                refine node_app46n 37 wz.heap.size 33 36 (.slice (some ⟨b0, 0, none⟩) 0 0) [] (.slice (some ⟨g, 0, none⟩) k oc) k US1 rfl rfl rfl rfl rfl rfl (RD1.out _ HU2.out) (row_of_block (size := 1) GA2.out HB0.out) HU2.out.size ⟨Nat.zero_le _, HK6.out⟩ ?_ AllReadyH.nil
                · intro v4 u3 ho4 hg4
                  have O3 := hid ho4
                  have HU3 : Hid (Below wz.heap.size wz u3) := HU2.out.grown hg4 HU2.out.size (fun q hq => (World.ownsRow.lt (row_of_block (size := 1) GA2.out HB0.out) q hq).1)
                  have GB3 := hid ((hg4.block b9 (heap_lt GB2.out) (by intro e; simp [Value.ownBlock] at e; first | exact NE.out e | exact NE.out e.symm)).trans GB2.out)
                  refine ⟨trivial, ?_⟩
                  clear ho4 hg4
                  simp only [Act.put, List.setIfInBounds_toArray, List.set_cons_zero, List.set_cons_succ]
                  refine wpAnyH_ready (rs := [7]) (by kernel_rfl) (by simp) ?_
                  refine node_app46n 40 wz.heap.size 37 39 v4 ([] ++ US1) (.slice (some ⟨b9, 0, none⟩) 1 1) 1 [.slice la ln lc] rfl rfl rfl rfl rfl rfl (rd_oneS GB3.out) O3.out HU3.out.size ⟨LEN1.out, by decide⟩ ?_ AllReadyH.nil
                  · intro v10 u4 ho4 hg4
                    have O4 := hid ho4
                    have HU4 : Hid (Below wz.heap.size wz u4) := HU3.out.grown hg4 HU3.out.size (fun q hq => (World.ownsRow.lt O3.out q hq).1)
                    refine ⟨trivial, ?_⟩
                    clear ho4 hg4
                    simp only [Act.put, List.setIfInBounds_toArray, List.set_cons_zero, List.set_cons_succ]
                    refine wpAnyH_ready (rs := [11]) (by kernel_rfl) (by simp) ?_
                    refine node_app46n 44 wz.heap.size 40 43 v10 ([] ++ US1 ++ [.slice la ln lc]) (.slice (if oc = k then some ⟨g, 0, none⟩ else some ⟨g, k, none⟩) (i - k) (oc - k)) (i - k) US2 rfl rfl rfl rfl rfl rfl (RD2.out _ HU4.out) O4.out HU4.out.size ⟨LEN2.out, HK7.out⟩ ?_ AllReadyH.nil
                    · intro v14 u5 ho4 hg4
                      rw [HSN.out] at ho4
                      obtain ⟨g8, c8, h8⟩ : ∃ g8 c8, v14 = .slice (some ⟨g8, 0, none⟩) (i + 1) c8 := (by obtain ⟨g8, c8, h, _⟩ := ownV_some ho4 (by rw [HNL.out]; exact Nat.succ_pos _); rw [HNL.out] at h; exact ⟨g8, c8, h⟩)
                      subst h8
                      have HO14 := hid ho4
                      have HU5 : Hid (Below wz.heap.size wz u5) := HU4.out.grown hg4 HU4.out.size (fun q hq => (World.ownsRow.lt O4.out q hq).1)
                      refine ⟨trivial, ?_⟩
                      clear ho4 hg4
                      simp only [Act.put, List.setIfInBounds_toArray, List.set_cons_zero, List.set_cons_succ]
                      refine take_at (i := 12) 3 (v := .slice (some ⟨g8, 0, none⟩) (i + 1) c8) rfl (by kernel_rfl) (by kernel_rfl) (by kernel_rfl) rfl (fun _ _ _ h => h) (by rfl) (fun w hSw => ?_) hHeld ?_
                      · (try dsimp only at hSw); go_simp
                      simp only [Act.put, List.setIfInBounds_toArray, List.set_cons_zero, List.set_cons_succ]
                      refine wpAnyH_done (by kernel_rfl) ?_ _
                      have HZ := hid (below_step (below_step (below_step HBr.out HB5.out) HBz.out) HU5.out)
                      have HR := hid (ownV_mono HO14.out HWZ.out)
                      have HI9 := hid (fun j hj => isV_below (HIS.out j hj) HU5.out)
                      have HX9 := hid (isV_below HLZ.out HU5.out)
                      clear hHeld
                      generalize u5 = w11 at *
                      go_wp2_with fail
                      go_roundw
                      case rel => exact ⟨i + 1, _, _, _, by go_num, rfl, by omega, by rw [HLT.out]; exact ownRows_ins HUL.out HI9.out HKU.out HX9.out HR.out, HZ⟩
                      case measure => simp [intOf]; omega
        · have HGE : Hid (k < Ls.length → ltL (Ls.getD k []) (elems s) = false) := fun h => by have := HLL.out; omega
          go_upto_region 8 with fail
          have HBz := HBk
          rename World => wz
          have HWZ : Hid (w.heap.size ≤ wz.heap.size) := by have h1 := HBr.out.size; have h2 := HB5.out.size; have h3 := HBz.out.size; show _ ≤ _; omega
          have HOQ := hid (ownV_below (ownV_below HRW.out.2.1 HB5.out) HBz.out)
          have HUL := hid HRW.out.1
          have HIS : Hid (∀ j, j < Ls.length → IsV wz (us.getD j undef) ((Ls.getD j []).map iv)) := fun j hj => isV_below (isV_below (HRW.out.2.2 j hj) HB5.out) HBz.out
          have HLZ := hid (isV_below HLV.out HBz.out)
          have hul : us.length = i := by rw [HUL.out, HLL.out]
          have HKU : Hid (k ≤ us.length) := by rw [hul]; exact hk
          have HLT : Hid (lists (l.take (i + 1)) = Ls.take k ++ [elems s] ++ Ls.drop k) := by
            show _ = _
            rw [HSC.out]
            exact insL_at (by rw [HLL.out]; exact hk) HLS.out HGE.out
          have HNL : Hid ((us.take k ++ [Value.slice la ln lc] ++ us.drop k).length = i + 1) := by show _ = _; simp; omega
          obtain ⟨US1, hU1⟩ : ∃ U, U = (us.drop 0).take (k - 0) := ⟨_, rfl⟩
          obtain ⟨US2, hU2⟩ : ∃ U, U = (us.drop k).take (i - k) := ⟨_, rfl⟩
          have hl1 : US1.length ≤ 5000 := by rw [hU1, List.length_take, List.length_drop]; omega
          have LEN1 : Hid (([] ++ US1).length ≤ 1000000) := by show _ ≤ _; rw [List.nil_append]; omega
          have LEN2 : Hid (([] ++ US1 ++ [Value.slice la ln lc]).length ≤ 1000000) := by show _ ≤ _; rw [List.nil_append, List.length_append]; simp only [List.length_singleton]; omega
          have HK6 : Hid (k ≤ 1000000) := by show _ ≤ _; omega
          have HK7 : Hid (i - k ≤ 1000000) := by show _ ≤ _; omega
          have HSN : Hid ([] ++ US1 ++ [Value.slice la ln lc] ++ US2 = us.take k ++ [Value.slice la ln lc] ++ us.drop k) := by
            show _ = _
            rw [hU1, hU2, List.nil_append, List.drop_zero, Nat.sub_zero, List.take_of_length_le (l := us.drop k) (by rw [List.length_drop]; omega)]
          have H1C := ownRows_one HRW.out
          have hoc : i ≤ oc := by have h := ownV_capN HOQ.out; omega
          have RD1 : Hid (∀ w', Below wz.heap.size wz w' → Rd w' (.slice (some ⟨g, 0, none⟩) k oc) k 1 US1) := fun w' hb => by
            rw [hU1]
            exact ownV_rd (ownV_below HOQ.out hb) H1C 0 k (Nat.zero_le _) (by omega) oc
          have RD2 : Hid (∀ w', Below wz.heap.size wz w' → Rd w' (.slice (if oc = k then some ⟨g, 0, none⟩ else some ⟨g, k, none⟩) (i - k) (oc - k)) (i - k) 1 US2) := fun w' hb => by
            by_cases hok : oc = k
            · rw [if_pos hok]
              have h0 : i - k = 0 := by omega
              rw [hU2, h0]
              exact ⟨rfl, fun u hu => (by simp at hu), .inr ⟨_, _, rfl, fun h => (by simp at h), fun j u hj => (by simp at hj)⟩⟩
            · rw [if_neg hok, hU2]
              exact ownV_rd (ownV_below HOQ.out hb) H1C k i (by omega) (by omega) (oc - k)
          have hkoc : ¬ oc < k := by omega
          clear H1C hU1 hU2 hl1 HLS HGE hul
          refine wp_region_held_drew (S := fun _ => True) (by kernel_rfl) trivial (fun hHeld => ?_)
          have HU0 : Hid (Below wz.heap.size wz wz.drew) := (Below.refl _ _).drew
          generalize wz.drew = u0 at *
          refine take_at (i := 1) 34 (v := .slice (some ⟨g, 0, none⟩) i oc) rfl (by kernel_rfl) (by kernel_rfl) (by kernel_rfl) rfl (fun _ _ _ h => h) (by rfl) (fun w hSw => ?_) hHeld ?_
          · (try dsimp only at hSw); go_simp
          simp only [Act.put, List.setIfInBounds_toArray, List.set_cons_zero, List.set_cons_succ]
          refine take_at (i := 2) 35 (v := .int .i64 k) rfl (by kernel_rfl) (by kernel_rfl) (by kernel_rfl) rfl (fun _ _ _ h => h) (by rfl) (fun w hSw => ?_) hHeld ?_
          · (try dsimp only at hSw); go_simp
          simp only [Act.put, List.setIfInBounds_toArray, List.set_cons_zero, List.set_cons_succ]
          refine take_at (i := 3) 36 (v := .slice (some ⟨g, 0, none⟩) k oc) rfl (by kernel_rfl) (by kernel_rfl) (by kernel_rfl) rfl (fun _ _ _ h => h) (by rfl) (fun w hSw => ?_) hHeld ?_
          · (try dsimp only at hSw); go_simp
          simp only [Act.put, List.setIfInBounds_toArray, List.set_cons_zero, List.set_cons_succ]
          refine take_at (i := 5) 38 (v := .slice la ln lc) rfl (by kernel_rfl) (by kernel_rfl) (by kernel_rfl) rfl (fun _ _ _ h => h) (by rfl) (fun w hSw => ?_) hHeld ?_
          · (try dsimp only at hSw); go_simp
          simp only [Act.put, List.setIfInBounds_toArray, List.set_cons_zero, List.set_cons_succ]
          refine take_at (i := 8) 41 (v := .slice (some ⟨g, 0, none⟩) i oc) rfl (by kernel_rfl) (by kernel_rfl) (by kernel_rfl) rfl (fun _ _ _ h => h) (by rfl) (fun w hSw => ?_) hHeld ?_
          · (try dsimp only at hSw); go_simp
          simp only [Act.put, List.setIfInBounds_toArray, List.set_cons_zero, List.set_cons_succ]
          refine take_at (i := 9) 42 (v := .int .i64 k) rfl (by kernel_rfl) (by kernel_rfl) (by kernel_rfl) rfl (fun _ _ _ h => h) (by rfl) (fun w hSw => ?_) hHeld ?_
          · (try dsimp only at hSw); go_simp
          simp only [Act.put, List.setIfInBounds_toArray, List.set_cons_zero, List.set_cons_succ]
          refine take_at (i := 10) 43 (v := .slice (if oc = k then some ⟨g, 0, none⟩ else some ⟨g, k, none⟩) (i - k) (oc - k)) rfl (by kernel_rfl) (by kernel_rfl) (by kernel_rfl) rfl (fun _ _ _ h => h) (by rfl) (fun w hSw => ?_) hHeld ?_
          · (try dsimp only at hSw); go_simp
          simp only [Act.put, List.setIfInBounds_toArray, List.set_cons_zero, List.set_cons_succ]
          refine wpAnyH_ready (rs := [0, 6]) (by kernel_rfl) (by simp) ?_
          refine node_none46 33 rfl rfl rfl rfl trivial (fun hHeld => ?_) ?_
          · have HU1 := hid (Below.alloc HU0.out (Below.size HU0.out) (.cells #[] 24))
            have GA1 := hid (heap_alloc_new u0 (.cells #[] 24))
            obtain ⟨u1, hu⟩ : ∃ v, v = u0.alloc (.cells #[] 24) := ⟨_, rfl⟩
            obtain ⟨b0, hb0⟩ : ∃ b, b = u0.heap.size := ⟨_, rfl⟩
            have HB0 : Hid (wz.heap.size ≤ b0) := by rw [hb0]; exact HU0.out.size
            rw [← hu] at HU1 GA1 ⊢
            rw [← hb0] at GA1 ⊢
            clear hu hb0
            simp only [Act.put, List.setIfInBounds_toArray, List.set_cons_zero, List.set_cons_succ]
            refine wpAnyH_ready (rs := [4, 6]) (by kernel_rfl) (by simp) ?_
            refine node_app46n 37 wz.heap.size 33 36 (.slice (some ⟨b0, 0, none⟩) 0 0) [] (.slice (some ⟨g, 0, none⟩) k oc) k US1 rfl rfl rfl rfl rfl rfl (RD1.out _ HU1.out) (row_of_block (size := 1) GA1.out HB0.out) HU1.out.size ⟨Nat.zero_le _, HK6.out⟩ ?_ ?_
            · intro v4 u2 ho4 hg4
              have O2 := hid ho4
              have HU2 : Hid (Below wz.heap.size wz u2) := HU1.out.grown hg4 HU1.out.size (fun q hq => (World.ownsRow.lt (row_of_block (size := 1) GA1.out HB0.out) q hq).1)
              refine ⟨trivial, ?_⟩
              clear ho4 hg4
              simp only [Act.put, List.setIfInBounds_toArray, List.set_cons_zero, List.set_cons_succ]
              refine wpAnyH_ready (rs := [6]) (by kernel_rfl) (by simp) ?_
              refine node_build46 39 38 la ln lc rfl (by rfl) rfl rfl rfl trivial (fun hHeld => ?_) AllReadyH.nil
              · have HU3 := hid (Below.alloc HU2.out (Below.size HU2.out) (.cells #[.slice la ln lc] 24))
                have GB3 := hid (heap_alloc_new u2 (.cells #[.slice la ln lc] 24))
                have O3 := hid (ownV_below O2.out (ba u2 (.cells #[.slice la ln lc] 24)))
                obtain ⟨u3, hu⟩ : ∃ v, v = u2.alloc (.cells #[.slice la ln lc] 24) := ⟨_, rfl⟩
                obtain ⟨b9, hb9⟩ : ∃ b, b = u2.heap.size := ⟨_, rfl⟩
                rw [← hu] at HU3 GB3 O3 ⊢
                rw [← hb9] at GB3 ⊢
                clear hu hb9
                simp only [Act.put, List.setIfInBounds_toArray, List.set_cons_zero, List.set_cons_succ]
                refine wpAnyH_ready (rs := [7]) (by kernel_rfl) (by simp) ?_
                refine node_app46n 40 wz.heap.size 37 39 v4 ([] ++ US1) (.slice (some ⟨b9, 0, none⟩) 1 1) 1 [.slice la ln lc] rfl rfl rfl rfl rfl rfl (rd_oneS GB3.out) O3.out HU3.out.size ⟨LEN1.out, by decide⟩ ?_ AllReadyH.nil
                · intro v10 u4 ho4 hg4
                  have O4 := hid ho4
                  have HU4 : Hid (Below wz.heap.size wz u4) := HU3.out.grown hg4 HU3.out.size (fun q hq => (World.ownsRow.lt O3.out q hq).1)
                  refine ⟨trivial, ?_⟩
                  clear ho4 hg4
                  simp only [Act.put, List.setIfInBounds_toArray, List.set_cons_zero, List.set_cons_succ]
                  refine wpAnyH_ready (rs := [11]) (by kernel_rfl) (by simp) ?_
                  refine node_app46n 44 wz.heap.size 40 43 v10 ([] ++ US1 ++ [.slice la ln lc]) (.slice (if oc = k then some ⟨g, 0, none⟩ else some ⟨g, k, none⟩) (i - k) (oc - k)) (i - k) US2 rfl rfl rfl rfl rfl rfl (RD2.out _ HU4.out) O4.out HU4.out.size ⟨LEN2.out, HK7.out⟩ ?_ AllReadyH.nil
                  · intro v14 u5 ho4 hg4
                    rw [HSN.out] at ho4
                    obtain ⟨g8, c8, h8⟩ : ∃ g8 c8, v14 = .slice (some ⟨g8, 0, none⟩) (i + 1) c8 := (by obtain ⟨g8, c8, h, _⟩ := ownV_some ho4 (by rw [HNL.out]; exact Nat.succ_pos _); rw [HNL.out] at h; exact ⟨g8, c8, h⟩)
                    subst h8
                    have HO14 := hid ho4
                    have HU5 : Hid (Below wz.heap.size wz u5) := HU4.out.grown hg4 HU4.out.size (fun q hq => (World.ownsRow.lt O4.out q hq).1)
                    refine ⟨trivial, ?_⟩
                    clear ho4 hg4
                    simp only [Act.put, List.setIfInBounds_toArray, List.set_cons_zero, List.set_cons_succ]
                    refine take_at (i := 12) 3 (v := .slice (some ⟨g8, 0, none⟩) (i + 1) c8) rfl (by kernel_rfl) (by kernel_rfl) (by kernel_rfl) rfl (fun _ _ _ h => h) (by rfl) (fun w hSw => ?_) hHeld ?_
                    · (try dsimp only at hSw); go_simp
                    simp only [Act.put, List.setIfInBounds_toArray, List.set_cons_zero, List.set_cons_succ]
                    refine wpAnyH_done (by kernel_rfl) ?_ _
                    have HZ := hid (below_step (below_step (below_step HBr.out HB5.out) HBz.out) HU5.out)
                    have HR := hid (ownV_mono HO14.out HWZ.out)
                    have HI9 := hid (fun j hj => isV_below (HIS.out j hj) HU5.out)
                    have HX9 := hid (isV_below HLZ.out HU5.out)
                    clear hHeld
                    generalize u5 = w11 at *
                    go_wp2_with fail
                    go_roundw
                    case rel => exact ⟨i + 1, _, _, _, by go_num, rfl, by omega, by rw [HLT.out]; exact ownRows_ins HUL.out HI9.out HKU.out HX9.out HR.out, HZ⟩
                    case measure => simp [intOf]; omega
            refine node_build46 39 38 la ln lc rfl (by rfl) rfl rfl rfl trivial (fun hHeld => ?_) AllReadyH.nil
            · have HU2 := hid (Below.alloc HU1.out (Below.size HU1.out) (.cells #[.slice la ln lc] 24))
              have GB2 := hid (heap_alloc_new u1 (.cells #[.slice la ln lc] 24))
              have GA2 := hid ((Below.heap_alloc u1 (.cells #[.slice la ln lc] 24) b0 (heap_lt GA1.out)).trans GA1.out)
              obtain ⟨u2, hu⟩ : ∃ v, v = u1.alloc (.cells #[.slice la ln lc] 24) := ⟨_, rfl⟩
              obtain ⟨b9, hb9⟩ : ∃ b, b = u1.heap.size := ⟨_, rfl⟩
              have NE : Hid (b9 ≠ b0) := by have := heap_lt GA1.out; show _ ≠ _; omega
              rw [← hu] at HU2 GB2 GA2 ⊢
              rw [← hb9] at GB2 ⊢
              clear hu hb9
              simp only [Act.put, List.setIfInBounds_toArray, List.set_cons_zero, List.set_cons_succ]
              refine wpAnyH_ready (rs := [4]) (by kernel_rfl) (by simp) ?_
              refine node_app46n 37 wz.heap.size 33 36 (.slice (some ⟨b0, 0, none⟩) 0 0) [] (.slice (some ⟨g, 0, none⟩) k oc) k US1 rfl rfl rfl rfl rfl rfl (RD1.out _ HU2.out) (row_of_block (size := 1) GA2.out HB0.out) HU2.out.size ⟨Nat.zero_le _, HK6.out⟩ ?_ AllReadyH.nil
              · intro v4 u3 ho4 hg4
                have O3 := hid ho4
                have HU3 : Hid (Below wz.heap.size wz u3) := HU2.out.grown hg4 HU2.out.size (fun q hq => (World.ownsRow.lt (row_of_block (size := 1) GA2.out HB0.out) q hq).1)
                have GB3 := hid ((hg4.block b9 (heap_lt GB2.out) (by intro e; simp [Value.ownBlock] at e; first | exact NE.out e | exact NE.out e.symm)).trans GB2.out)
                refine ⟨trivial, ?_⟩
                clear ho4 hg4
                simp only [Act.put, List.setIfInBounds_toArray, List.set_cons_zero, List.set_cons_succ]
                refine wpAnyH_ready (rs := [7]) (by kernel_rfl) (by simp) ?_
                refine node_app46n 40 wz.heap.size 37 39 v4 ([] ++ US1) (.slice (some ⟨b9, 0, none⟩) 1 1) 1 [.slice la ln lc] rfl rfl rfl rfl rfl rfl (rd_oneS GB3.out) O3.out HU3.out.size ⟨LEN1.out, by decide⟩ ?_ AllReadyH.nil
                · intro v10 u4 ho4 hg4
                  have O4 := hid ho4
                  have HU4 : Hid (Below wz.heap.size wz u4) := HU3.out.grown hg4 HU3.out.size (fun q hq => (World.ownsRow.lt O3.out q hq).1)
                  refine ⟨trivial, ?_⟩
                  clear ho4 hg4
                  simp only [Act.put, List.setIfInBounds_toArray, List.set_cons_zero, List.set_cons_succ]
                  refine wpAnyH_ready (rs := [11]) (by kernel_rfl) (by simp) ?_
                  refine node_app46n 44 wz.heap.size 40 43 v10 ([] ++ US1 ++ [.slice la ln lc]) (.slice (if oc = k then some ⟨g, 0, none⟩ else some ⟨g, k, none⟩) (i - k) (oc - k)) (i - k) US2 rfl rfl rfl rfl rfl rfl (RD2.out _ HU4.out) O4.out HU4.out.size ⟨LEN2.out, HK7.out⟩ ?_ AllReadyH.nil
                  · intro v14 u5 ho4 hg4
                    rw [HSN.out] at ho4
                    obtain ⟨g8, c8, h8⟩ : ∃ g8 c8, v14 = .slice (some ⟨g8, 0, none⟩) (i + 1) c8 := (by obtain ⟨g8, c8, h, _⟩ := ownV_some ho4 (by rw [HNL.out]; exact Nat.succ_pos _); rw [HNL.out] at h; exact ⟨g8, c8, h⟩)
                    subst h8
                    have HO14 := hid ho4
                    have HU5 : Hid (Below wz.heap.size wz u5) := HU4.out.grown hg4 HU4.out.size (fun q hq => (World.ownsRow.lt O4.out q hq).1)
                    refine ⟨trivial, ?_⟩
                    clear ho4 hg4
                    simp only [Act.put, List.setIfInBounds_toArray, List.set_cons_zero, List.set_cons_succ]
                    refine take_at (i := 12) 3 (v := .slice (some ⟨g8, 0, none⟩) (i + 1) c8) rfl (by kernel_rfl) (by kernel_rfl) (by kernel_rfl) rfl (fun _ _ _ h => h) (by rfl) (fun w hSw => ?_) hHeld ?_
                    · (try dsimp only at hSw); go_simp
                    simp only [Act.put, List.setIfInBounds_toArray, List.set_cons_zero, List.set_cons_succ]
                    refine wpAnyH_done (by kernel_rfl) ?_ _
                    have HZ := hid (below_step (below_step (below_step HBr.out HB5.out) HBz.out) HU5.out)
                    have HR := hid (ownV_mono HO14.out HWZ.out)
                    have HI9 := hid (fun j hj => isV_below (HIS.out j hj) HU5.out)
                    have HX9 := hid (isV_below HLZ.out HU5.out)
                    clear hHeld
                    generalize u5 = w11 at *
                    go_wp2_with fail
                    go_roundw
                    case rel => exact ⟨i + 1, _, _, _, by go_num, rfl, by omega, by rw [HLT.out]; exact ownRows_ins HUL.out HI9.out HKU.out HX9.out HR.out, HZ⟩
                    case measure => simp [intOf]; omega
          refine node_build46 39 38 la ln lc rfl (by rfl) rfl rfl rfl trivial (fun hHeld => ?_) AllReadyH.nil
          · have HU1 := hid (Below.alloc HU0.out (Below.size HU0.out) (.cells #[.slice la ln lc] 24))
            have GB1 := hid (heap_alloc_new u0 (.cells #[.slice la ln lc] 24))
            obtain ⟨u1, hu⟩ : ∃ v, v = u0.alloc (.cells #[.slice la ln lc] 24) := ⟨_, rfl⟩
            obtain ⟨b9, hb9⟩ : ∃ b, b = u0.heap.size := ⟨_, rfl⟩
            rw [← hu] at HU1 GB1 ⊢
            rw [← hb9] at GB1 ⊢
            clear hu hb9
            simp only [Act.put, List.setIfInBounds_toArray, List.set_cons_zero, List.set_cons_succ]
            refine wpAnyH_ready (rs := [0]) (by kernel_rfl) (by simp) ?_
            refine node_none46 33 rfl rfl rfl rfl trivial (fun hHeld => ?_) AllReadyH.nil
            · have HU2 := hid (Below.alloc HU1.out (Below.size HU1.out) (.cells #[] 24))
              have GA2 := hid (heap_alloc_new u1 (.cells #[] 24))
              have GB2 := hid ((Below.heap_alloc u1 (.cells #[] 24) b9 (heap_lt GB1.out)).trans GB1.out)
              obtain ⟨u2, hu⟩ : ∃ v, v = u1.alloc (.cells #[] 24) := ⟨_, rfl⟩
              obtain ⟨b0, hb0⟩ : ∃ b, b = u1.heap.size := ⟨_, rfl⟩
              have NE : Hid (b9 ≠ b0) := by have := heap_lt GB1.out; show _ ≠ _; omega
              have HB0 : Hid (wz.heap.size ≤ b0) := by rw [hb0]; exact HU1.out.size
              rw [← hu] at HU2 GA2 GB2 ⊢
              rw [← hb0] at GA2 ⊢
              clear hu hb0
              simp only [Act.put, List.setIfInBounds_toArray, List.set_cons_zero, List.set_cons_succ]
              refine wpAnyH_ready (rs := [4]) (by kernel_rfl) (by simp) ?_
              refine node_app46n 37 wz.heap.size 33 36 (.slice (some ⟨b0, 0, none⟩) 0 0) [] (.slice (some ⟨g, 0, none⟩) k oc) k US1 rfl rfl rfl rfl rfl rfl (RD1.out _ HU2.out) (row_of_block (size := 1) GA2.out HB0.out) HU2.out.size ⟨Nat.zero_le _, HK6.out⟩ ?_ AllReadyH.nil
              · intro v4 u3 ho4 hg4
                have O3 := hid ho4
                have HU3 : Hid (Below wz.heap.size wz u3) := HU2.out.grown hg4 HU2.out.size (fun q hq => (World.ownsRow.lt (row_of_block (size := 1) GA2.out HB0.out) q hq).1)
                have GB3 := hid ((hg4.block b9 (heap_lt GB2.out) (by intro e; simp [Value.ownBlock] at e; first | exact NE.out e | exact NE.out e.symm)).trans GB2.out)
                refine ⟨trivial, ?_⟩
                clear ho4 hg4
                simp only [Act.put, List.setIfInBounds_toArray, List.set_cons_zero, List.set_cons_succ]
                refine wpAnyH_ready (rs := [7]) (by kernel_rfl) (by simp) ?_
                refine node_app46n 40 wz.heap.size 37 39 v4 ([] ++ US1) (.slice (some ⟨b9, 0, none⟩) 1 1) 1 [.slice la ln lc] rfl rfl rfl rfl rfl rfl (rd_oneS GB3.out) O3.out HU3.out.size ⟨LEN1.out, by decide⟩ ?_ AllReadyH.nil
                · intro v10 u4 ho4 hg4
                  have O4 := hid ho4
                  have HU4 : Hid (Below wz.heap.size wz u4) := HU3.out.grown hg4 HU3.out.size (fun q hq => (World.ownsRow.lt O3.out q hq).1)
                  refine ⟨trivial, ?_⟩
                  clear ho4 hg4
                  simp only [Act.put, List.setIfInBounds_toArray, List.set_cons_zero, List.set_cons_succ]
                  refine wpAnyH_ready (rs := [11]) (by kernel_rfl) (by simp) ?_
                  refine node_app46n 44 wz.heap.size 40 43 v10 ([] ++ US1 ++ [.slice la ln lc]) (.slice (if oc = k then some ⟨g, 0, none⟩ else some ⟨g, k, none⟩) (i - k) (oc - k)) (i - k) US2 rfl rfl rfl rfl rfl rfl (RD2.out _ HU4.out) O4.out HU4.out.size ⟨LEN2.out, HK7.out⟩ ?_ AllReadyH.nil
                  · intro v14 u5 ho4 hg4
                    rw [HSN.out] at ho4
                    obtain ⟨g8, c8, h8⟩ : ∃ g8 c8, v14 = .slice (some ⟨g8, 0, none⟩) (i + 1) c8 := (by obtain ⟨g8, c8, h, _⟩ := ownV_some ho4 (by rw [HNL.out]; exact Nat.succ_pos _); rw [HNL.out] at h; exact ⟨g8, c8, h⟩)
                    subst h8
                    have HO14 := hid ho4
                    have HU5 : Hid (Below wz.heap.size wz u5) := HU4.out.grown hg4 HU4.out.size (fun q hq => (World.ownsRow.lt O4.out q hq).1)
                    refine ⟨trivial, ?_⟩
                    clear ho4 hg4
                    simp only [Act.put, List.setIfInBounds_toArray, List.set_cons_zero, List.set_cons_succ]
                    refine take_at (i := 12) 3 (v := .slice (some ⟨g8, 0, none⟩) (i + 1) c8) rfl (by kernel_rfl) (by kernel_rfl) (by kernel_rfl) rfl (fun _ _ _ h => h) (by rfl) (fun w hSw => ?_) hHeld ?_
                    · (try dsimp only at hSw); go_simp
                    simp only [Act.put, List.setIfInBounds_toArray, List.set_cons_zero, List.set_cons_succ]
                    refine wpAnyH_done (by kernel_rfl) ?_ _
                    have HZ := hid (below_step (below_step (below_step HBr.out HB5.out) HBz.out) HU5.out)
                    have HR := hid (ownV_mono HO14.out HWZ.out)
                    have HI9 := hid (fun j hj => isV_below (HIS.out j hj) HU5.out)
                    have HX9 := hid (isV_below HLZ.out HU5.out)
                    clear hHeld
                    generalize u5 = w11 at *
                    go_wp2_with fail
                    go_roundw
                    case rel => exact ⟨i + 1, _, _, _, by go_num, rfl, by omega, by rw [HLT.out]; exact ownRows_ins HUL.out HI9.out HKU.out HX9.out HR.out, HZ⟩
                    case measure => simp [intOf]; omega
    · have hin : i = n := by omega
      subst hin
      have hfin : l.take i = l := by rw [HNN.out, List.take_length]
      have HF : Hid (OwnRows wr w.heap.size (.slice (some ⟨g, 0, none⟩) i oc) us (lists l)) := by
        have h := HRW.out
        rw [hfin] at h
        exact h
      have HLe : Hid ((lists l).length ≤ 1000000) := by show _ ≤ _; rw [lists_len, ← HNN.out]; omega
      clear hfin
      go_wp2_with fail
      go_ret
      exact ⟨_, rfl, ownRows_isLL HF.out HLe.out, HBr.out⟩
end Go.Proofs.Ytaedbkdimpdngaa
