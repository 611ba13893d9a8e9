/-
  Canon (6) of the braid, turned.
-/
import Derived.Test.YtppkgilpmmhpoaaDoorWalkP
import Derived.Test.YtppkgilpmmhpoaaDoorWalkN
import Derived.Test.YtppkgilpmmhpoaaDoorWalkI
namespace Go.Proofs.YtppkgilpmmhpoaaDoor
open Go.RowKit
section
variable {md : Region.Mode} {ops : Array Oper} {Q : Exit → Act → World → Prop} {S : World → Prop} {fuel : Nat} {listed : Array Bool} {a : Act} {w : World} {i : Nat} {o : Oper} {rs : List Nat}
theorem node_f20 (d : Nat) (k1 : Nat) (v1 : Value) (hi : ops[i]? = some o) (hgd : Region.wanted o (yielded ops a.tmps) = true) (ho : o.op = .call { callee := .value (.func 20), args := #[.tmp k1], argTypes := #[33] }) (hd : o.dst = some d)
    (hp1 : a.tmps[k1]?.getD undef = v1)
    (h : Calls Tryd.prog 20 #[v1] w fun e w' => ∃ u, e = .returned u ∧ S w' ∧ wpAnyH Tryd.prog md ops Q S fuel (listed.setIfInBounds i true) (a.put (some d) u) w')
    (hs : AllReadyH Tryd.prog md ops Q S fuel listed a w rs) : AllReadyH Tryd.prog md ops Q S fuel listed a w (i :: rs) := by
  refine AllReadyH.cons hi (fun K hK => ?_) hs
  rw [if_pos hgd]
  unfold Oper.wp execOp
  simp [ho, go_sem, hp1]
  refine h.mono ?_
  rintro e w' ⟨u, rfl, h1, h2⟩
  have hk := hK.out _ _ h1 (fun _ => h2)
  rw [hd]
  exact hk
theorem node_f19 (d : Nat) (k1 : Nat) (v1 : Value) (hi : ops[i]? = some o) (hgd : Region.wanted o (yielded ops a.tmps) = true) (ho : o.op = .call { callee := .value (.func 19), args := #[.tmp k1], argTypes := #[22] }) (hd : o.dst = some d)
    (hp1 : a.tmps[k1]?.getD undef = v1)
    (h : Calls Tryd.prog 19 #[v1] w fun e w' => ∃ u, e = .returned u ∧ S w' ∧ wpAnyH Tryd.prog md ops Q S fuel (listed.setIfInBounds i true) (a.put (some d) u) w')
    (hs : AllReadyH Tryd.prog md ops Q S fuel listed a w rs) : AllReadyH Tryd.prog md ops Q S fuel listed a w (i :: rs) := by
  refine AllReadyH.cons hi (fun K hK => ?_) hs
  rw [if_pos hgd]
  unfold Oper.wp execOp
  simp [ho, go_sem, hp1]
  refine h.mono ?_
  rintro e w' ⟨u, rfl, h1, h2⟩
  have hk := hK.out _ _ h1 (fun _ => h2)
  rw [hd]
  exact hk
theorem node_build33 (d k1 k2 : Nat) (v1 v2 : Value) (hi : ops[i]? = some o) (hgd : o.guard = none) (ho : o.op = .buildSlice 33 2 #[(0, .tmp k1), (1, .tmp k2)]) (hd : o.dst = some d)
    (hp1 : a.tmps[k1]?.getD undef = v1) (hp2 : a.tmps[k2]?.getD undef = v2) (hs1 : ∃ x y z, v1 = .slice x y z ∧ ∃ x y z, v2 = .slice x y z) (hS : S (w.alloc (.cells #[v1, v2] 22)))
    (h : S (w.alloc (.cells #[v1, v2] 22)) → wpAnyH Tryd.prog md ops Q S fuel (listed.setIfInBounds i true) (a.put (some d) (.slice (some ⟨w.heap.size, 0, none⟩) 2 2)) (w.alloc (.cells #[v1, v2] 22)))
    (hs : AllReadyH Tryd.prog md ops Q S fuel listed a w rs) : AllReadyH Tryd.prog md ops Q S fuel listed a w (i :: rs) := by
  obtain ⟨x, y, z, rfl, x', y', z', rfl⟩ := hs1
  refine AllReadyH.cons hi (fun K hK => ?_) hs
  have hw : Region.wanted o (yielded ops a.tmps) = true := by simp [Region.wanted, hgd]
  rw [if_pos hw]
  have hk := hK.out _ _ hS h
  unfold Oper.wp execOp
  simp [ho, go_sem, hp1, hp2]
  rw [hd]
  exact hk
end
theorem rot_per {n i j : Nat} {z : Nat → Int} (hz : ∀ j, j < 2 * n → z j = z (j % n)) (hj : j < 2 * n) : z ((j + i) % (2 * n)) = z ((j % n + i) % (2 * n)) := by
  have h0 : 0 < 2 * n := by omega
  rw [hz _ (Nat.mod_lt _ h0), hz ((j % n + i) % (2 * n)) (Nat.mod_lt _ h0), Nat.mod_mul_left_mod, Nat.mod_mul_left_mod, Nat.mod_add_mod]
theorem rot_inj {n i a b : Nat} {z : Nat → Int} (hn : 1 ≤ n) (hz : ∀ j, j < 2 * n → z j = z (j % n)) (hi : ∀ a b, a < n → b < n → z a = z b → a = b) (ha : a < n) (hb : b < n) (h : z ((a + i) % (2 * n)) = z ((b + i) % (2 * n))) : a = b := by
  have h0 : 0 < 2 * n := by omega
  rw [hz _ (Nat.mod_lt _ h0), hz ((b + i) % (2 * n)) (Nat.mod_lt _ h0), Nat.mod_mul_left_mod, Nat.mod_mul_left_mod] at h
  have h1 := hi _ _ (Nat.mod_lt _ (by omega)) (Nat.mod_lt _ (by omega)) h
  have h2 : ((a : Int) + (i : Int)) % (n : Int) = ((b : Int) + (i : Int)) % (n : Int) := by
    have := congrArg (Nat.cast (R := Int)) h1
    simpa using this
  have h3 := (Int.emod_add_cancel_right (i : Int)).1 h2
  rw [Int.emod_eq_of_lt (by omega) (by omega), Int.emod_eq_of_lt (by omega) (by omega)] at h3
  omega
def zF (n r j : Nat) : Int := (((j + r) % n : Nat) : Int)
def zB (n r j : Nat) : Int := (((2 * n - 1 - j + r) % n : Nat) : Int)
theorem zF_per {n r j : Nat} : zF n r j = zF n r (j % n) := by unfold zF; rw [Nat.mod_add_mod]
theorem zF_inj : ∀ n < 11, ∀ r < n, ∀ a < n, ∀ b < n, zF n r a = zF n r b → a = b := by decide +kernel
theorem zB_per : ∀ n < 11, ∀ r < n, ∀ j < 2 * n, zB n r j = zB n r (j % n) := by decide +kernel
theorem zB_inj : ∀ n < 11, ∀ r < n, ∀ a < n, ∀ b < n, zB n r a = zB n r b → a = b := by decide +kernel
theorem zF_in {n r j : Nat} (hn : 1 ≤ n ∧ n ≤ 10) : InR (zF n r j) := wf64 (by have := Nat.mod_lt (j + r) (show 0 < n by omega); unfold zF; omega)
theorem zB_in {n r j : Nat} (hn : 1 ≤ n ∧ n ≤ 10) : InR (zB n r j) := wf64 (by have := Nat.mod_lt (2 * n - 1 - j + r) (show 0 < n by omega); unfold zB; omega)
theorem ownV_below' {w0 w w' : World} {B : Nat} {e : TypeId} {v : Value} {xs : List Value} (h : OwnV w B e v xs) (_ : Below w0.heap.size w0 w) (hb : Below w.heap.size w w') : OwnV w' B e v xs := ownV_below h hb
set_option maxRecDepth 100000 in
set_option maxHeartbeats 4000000 in
theorem canon_any (n r wb wc : Nat) (w : World) (hn : 1 ≤ n ∧ n ≤ 10) (hr : r < n) (hc : 2 * n ≤ wc) (hw : Wrd w n r wb) :
    Calls Tryd.prog 6 #[.slice (some ⟨wb, 0, none⟩) (2 * n) wc] w fun e w' => ∃ v, e = .returned (.tuple #[v, .int .i64 0]) ∧ OwnV w' w.heap.size 3 v (brd n (2 * n)) ∧ Below w.heap.size w w' := by
  have RC := hid (read_any n r wb wc w hn hr hw)
  have HN := hid hn
  have HHR := hid hr
  have HW := hid hw
  obtain ⟨hn1, hn10⟩ := hn
  obtain ⟨m, hm⟩ : ∃ m, m = 2 * n := ⟨_, rfl⟩
  have HM := hid hm
  have hm2 : 2 ≤ m := by omega
  have hm20 : m ≤ 20 := by omega
  have HMB : Hid (1 ≤ m ∧ m ≤ 20) := ⟨by omega, by omega⟩
  obtain ⟨zs, hzs⟩ : ∃ zs, zs = (List.range m).map (zF n r) := ⟨_, rfl⟩
  have HZL : Hid (zs.length = m) := by rw [hzs]; show _ = _; simp
  have HZA : Hid (∀ j, j < m → zs.getD j 0 = zF n r j) := fun j hj => by rw [hzs, List.getD_eq_getElem?_getD, List.getElem?_map, List.getElem?_range hj]; rfl
  rw [← hm] at RC hc ⊢
  clear hr hw hm hzs
  go_enter Tryd.func6, Tryd.ntmps6
  go_upto_region 2 with (first | (go_at_call 12; refine RC.out.mono ?_; rintro e w1 ⟨x, rfl, ⟨D, rfl, -⟩, hb1⟩; have HB1 := hid hb1; clear hb1) | fail)
  have CL : Hid (Calls Tryd.prog 17 #[.slice (some ⟨wb, 0, none⟩) m wc] w1 fun e w' => ∃ v', e = .returned v' ∧ OwnV w' w1.heap.size 3 v' (zs.map (.int .i64)) ∧ Below w1.heap.size w1 w') := by
    refine (Tryd.slices_Clone_int wb 0 m wc zs w1 (by rw [HZL.out]; exact Nat.le_refl _) (by omega) (fun j hj => ?_)).mono ?_
    · have hj' : j < m := by rw [← HZL.out]; exact hj
      rw [Nat.zero_add, HZA.out j hj']
      exact (HW.out.below HB1.out) j (by rw [← HM.out]; exact hj')
    · rintro e w' ⟨v', rfl, ho, -, hb⟩
      refine ⟨v', rfl, ?_, hb⟩
      unfold OwnV
      rw [List.length_map, HZL.out]
      rw [List.take_of_length_le (by rw [HZL.out]; exact Nat.le_refl _)] at ho
      exact ho
  go_upto_region 5 with (first | (go_at_call 17; refine CL.out.mono ?_; rintro e w2 ⟨v2, rfl, ho2, hb2⟩; have HB2 := hid (below_step HB1.out hb2); have HW12 : Hid (w.heap.size ≤ w1.heap.size) := HB1.out.size; obtain ⟨bb, bc, rfl, -⟩ := ownV_some ho2 (by rw [List.length_map, HZL.out]; omega); have HO2 := hid ho2; clear ho2 hb2) | fail)
  rw [List.length_map] at HO2
  have hbc : m ≤ bc := by have h := ownV_capN HO2.out; rw [HZL.out] at h; exact h
  have RV := hid (reverse_any w1.heap.size bb bc zs w2 HO2.out)
  rw [HZL.out] at RV ⊢
  go_upto_region 7 with (first | (go_at_call 18; refine RV.out.mono ?_; rintro e w3 ⟨rfl, ho3, hg3⟩; have HO3 := hid ho3; have HB3 : Hid (Below w.heap.size w w3) := hid (Below.grown HB2.out hg3 HB2.out.size (fun b hb => by injection hb with hb; rw [← hb]; exact Nat.le_trans HW12.out (ownV_le HO2.out).1)); clear ho3 hg3) | fail)
  go_wp2_with fail
  obtain ⟨LB, hLB⟩ : ∃ LB, LB = w3.heap.size := ⟨_, rfl⟩
  obtain ⟨w0, hw0⟩ : ∃ v, v = w3.alloc (.cells #[.slice (some ⟨wb, 0, none⟩) m wc, .slice (some ⟨bb, 0, none⟩) m bc] 22) := ⟨_, rfl⟩
  have HB0 : Hid (Below w.heap.size w w0) := by rw [hw0]; exact HB3.out.alloc HB3.out.size _
  have HL0 : Hid (∀ w', Below w0.heap.size w0 w' → w'.cell? ⟨LB, 0, none⟩ = some (.slice (some ⟨wb, 0, none⟩) m wc) ∧ w'.cell? ⟨LB, 1, none⟩ = some (.slice (some ⟨bb, 0, none⟩) m bc)) := by
    have h : w0.heap[LB]? = some (.cells #[.slice (some ⟨wb, 0, none⟩) m wc, .slice (some ⟨bb, 0, none⟩) m bc] 22) := by rw [hw0, hLB]; exact heap_alloc_new _ _
    exact fun w' hb => cells2_of ((hb.block LB (heap_lt h)).trans h)
  have HO0 : Hid (OwnV w0 w1.heap.size 3 (.slice (some ⟨bb, 0, none⟩) m bc) (zs.reverse.map (.int .i64))) := by rw [hw0]; exact ownV_below HO3.out (ba _ _)
  have HXF : Hid (∀ w' j, Below w0.heap.size w0 w' → j < m → w'.cell? ⟨wb, j, none⟩ = some (.int .i64 (zF n r j))) := fun w' j hb hj => (HW.out.below (HB0.out.trans (hb.mono HB0.out.size))) j (by rw [← HM.out]; exact hj)
  have HXB : Hid (∀ w' j, Below w0.heap.size w0 w' → j < m → w'.cell? ⟨bb, j, none⟩ = some (.int .i64 (zB n r j))) := fun w' j hb hj => by
    have hl : zs.reverse.length = m := by rw [List.length_reverse, HZL.out]
    have h := ownV_cell (ownV_below HO0.out hb) j (by rw [List.length_map, hl]; exact hj)
    rw [h, List.getD_eq_getElem?_getD, List.getElem?_map, List.getElem?_reverse (by rw [HZL.out]; exact hj)]
    have h2 := HZA.out (zs.length - 1 - j) (by rw [HZL.out]; omega)
    rw [List.getD_eq_getElem?_getD] at h2
    have h3 : zs.length - 1 - j < zs.length := by rw [HZL.out]; omega
    rw [List.getElem?_eq_getElem h3] at h2 ⊢
    have h4 : zF n r (zs.length - 1 - j) = zB n r j := by unfold zF zB; rw [HZL.out, HM.out]
    rw [← h4, ← h2]; rfl
  rw [← hLB, ← hw0]
  clear hLB hw0 RV CL RC HO0 HO2 HO3
  go_loopw [28, 7] (fun kv bv wr => Hid (Below w0.heap.size w0 wr) ∧ ((kv = .int .i64 0 ∧ bv = .slice none 0 0) ∨ (kv = .int .i64 1 ∧ Hid (OwnV wr w0.heap.size 3 bv (brd n m))) ∨ (kv = .int .i64 2 ∧ Hid (OwnV wr w0.heap.size 3 bv (brd n m))))) (fun kv _ _ => 2 - (intOf kv).toNat)
  case atStart => exact ⟨Below.refl _ _, .inl ⟨rfl, rfl⟩⟩
  case round =>
    obtain ⟨HBr, hr⟩ := hrel
    rename World => wr
    obtain ⟨LC0, LC1⟩ := HL0.out wr HBr.out
    rcases hr with ⟨rfl, rfl⟩ | ⟨rfl, HOA⟩ | ⟨rfl, HOA⟩
    · obtain ⟨z, hz⟩ : ∃ z, z = zF n r := ⟨_, rfl⟩
      have HX := HXF
      have HPZ : Hid (∀ j, j < 2 * n → z j = z (j % n)) := fun j _ => by rw [hz]; exact zF_per
      have HIZ : Hid (∀ a b, a < n → b < n → z a = z b → a = b) := fun a b ha hb h => zF_inj n (by omega) r HHR.out a ha b hb (by rw [← hz]; exact h)
      have HRZ : Hid (∀ j, InR (z j)) := fun j => by rw [hz]; exact zF_in HN.out
      rw [← hz] at HX
      obtain ⟨xb, hxb⟩ : ∃ xb, xb = wb := ⟨_, rfl⟩
      obtain ⟨xc, hxc⟩ : ∃ xc, xc = wc := ⟨_, rfl⟩
      rw [← hxb] at HX
      have hcx : m ≤ xc := by omega
      rw [← hxb, ← hxc] at LC0
      clear hz hxb hxc
      go_wp2_with fail
      clear LC0 LC1
      go_loopw [34, 7] (fun iv bv wk => ∃ i : Nat, iv = .int .i64 i ∧ i ≤ m ∧ Hid ((bv = .slice none 0 0 ∧ i = 0) ∨ OwnV wk w0.heap.size 3 bv (brd n m)) ∧ Hid (Below w0.heap.size w0 wk)) (fun iv _ _ => m - (intOf iv).toNat)
      case atStart => exact ⟨0, rfl, Nat.zero_le _, .inl ⟨rfl, rfl⟩, HBr⟩
      case round =>
        obtain ⟨i, rfl, hi, HBS, HBk⟩ := hrel
        rename World => wk
        by_cases hlt : i < m
        · go_upto_region 13 with fail
          refine wp_region_held_drew (S := fun w' => True) (by kernel_rfl) trivial (fun hHeld => ?_)
          have HBU := hid (HBk.out.drew)
          have HKU : Hid (Below wk.heap.size wk wk.drew) := (Below.refl _ wk).drew
          generalize wk.drew = u0 at *
          refine take_at (i := 0) 37 (v := .slice (some ⟨xb, 0, none⟩) m xc) rfl (by kernel_rfl) (by kernel_rfl) (by kernel_rfl) rfl (fun _ _ _ h => h) (by rfl) (fun w hSw => ?_) hHeld ?_
          · (try dsimp only at hSw); go_simp
          simp only [Act.put, List.setIfInBounds_toArray, List.set_cons_zero, List.set_cons_succ]
          refine take_at (i := 1) 38 (v := .int .i64 (i : Int)) rfl (by kernel_rfl) (by kernel_rfl) (by kernel_rfl) rfl (fun _ _ _ h => h) (by rfl) (fun w hSw => ?_) hHeld ?_
          · (try dsimp only at hSw); go_simp
          simp only [Act.put, List.setIfInBounds_toArray, List.set_cons_zero, List.set_cons_succ]
          refine take_at (i := 2) 39 (v := .slice (some ⟨xb, i, none⟩) (m - i) (xc - i)) rfl (by kernel_rfl) (by kernel_rfl) (by kernel_rfl) rfl (fun _ _ _ h => h) (by rfl) (fun w hSw => ?_) hHeld ?_
          · (try dsimp only at hSw); go_simp; first | done | omega | (simp; omega)
          simp only [Act.put, List.setIfInBounds_toArray, List.set_cons_zero, List.set_cons_succ]
          refine take_at (i := 3) 40 (v := .slice (some ⟨xb, 0, none⟩) m xc) rfl (by kernel_rfl) (by kernel_rfl) (by kernel_rfl) rfl (fun _ _ _ h => h) (by rfl) (fun w hSw => ?_) hHeld ?_
          · (try dsimp only at hSw); go_simp
          simp only [Act.put, List.setIfInBounds_toArray, List.set_cons_zero, List.set_cons_succ]
          refine take_at (i := 4) 41 (v := .int .i64 (i : Int)) rfl (by kernel_rfl) (by kernel_rfl) (by kernel_rfl) rfl (fun _ _ _ h => h) (by rfl) (fun w hSw => ?_) hHeld ?_
          · (try dsimp only at hSw); go_simp
          simp only [Act.put, List.setIfInBounds_toArray, List.set_cons_zero, List.set_cons_succ]
          refine take_at (i := 5) 42 (v := .slice (some ⟨xb, 0, none⟩) i xc) rfl (by kernel_rfl) (by kernel_rfl) (by kernel_rfl) rfl (fun _ _ _ h => h) (by rfl) (fun w hSw => ?_) hHeld ?_
          · (try dsimp only at hSw); go_simp; first | done | omega | (simp; omega)
          simp only [Act.put, List.setIfInBounds_toArray, List.set_cons_zero, List.set_cons_succ]
          refine wpAnyH_ready (rs := [6]) (by kernel_rfl) (by simp) ?_
          refine node_build33 43 39 42 (.slice (some ⟨xb, i, none⟩) (m - i) (xc - i)) (.slice (some ⟨xb, 0, none⟩) i xc) rfl rfl rfl rfl rfl rfl ⟨_, _, _, rfl, _, _, _, rfl⟩ trivial (fun hHeld => ?_) AllReadyH.nil
          · have hnew := heap_alloc_new u0 (.cells #[.slice (some ⟨xb, i, none⟩) (m - i) (xc - i), .slice (some ⟨xb, 0, none⟩) i xc] 22)
            have HBV := hid (HBU.out.alloc HBU.out.size (.cells #[.slice (some ⟨xb, i, none⟩) (m - i) (xc - i), .slice (some ⟨xb, 0, none⟩) i xc] 22))
            have HKV := hid (HKU.out.alloc HKU.out.size (.cells #[.slice (some ⟨xb, i, none⟩) (m - i) (xc - i), .slice (some ⟨xb, 0, none⟩) i xc] 22))
            have CN := hid (concat_any m xb i (xc - i) xc u0.heap.size 2 z _ HMB.out hlt (cells2_of hnew).1 (cells2_of hnew).2 (fun j hj => HX.out _ j HBV.out hj))
            generalize u0.alloc (.cells #[.slice (some ⟨xb, i, none⟩) (m - i) (xc - i), .slice (some ⟨xb, 0, none⟩) i xc] 22) = u1 at *
            generalize u0.heap.size = tb at *
            clear hnew
            simp only [Act.put, List.setIfInBounds_toArray, List.set_cons_zero, List.set_cons_succ]
            refine wpAnyH_ready (rs := [7]) (by kernel_rfl) (by simp) ?_
            refine node_f20 44 43 (.slice (some ⟨tb, 0, none⟩) 2 2) rfl rfl rfl rfl rfl ?_ AllReadyH.nil
            · refine CN.out.mono ?_
              rintro e w5 ⟨v, rfl, ho5, hb5⟩
              have HB5 := hid (below_step HBV.out hb5)
              have HK5 := hid (below_step HKV.out hb5)
              obtain ⟨g5, c5, rfl, -⟩ := ownV_some ho5 (by rw [rotL_len (by omega)]; omega)
              rw [rotL_len (by omega)] at ho5
              rw [rotL_len (by omega)]
              have NM := hid (named_any n g5 c5 (fun j => z ((j + i) % m)) w5 HN.out (fun j hj => by have hj' : j < m := (by rw [HM.out]; exact hj); have h := ownV_cell ho5 j (by rw [rotL_len (by omega)]; exact hj'); rw [rotL_at hlt hj'] at h; exact h) (fun j => HRZ.out _) (fun j hj => by show z _ = z _; rw [HM.out]; exact rot_per HPZ.out hj) (fun a b ha hb h => rot_inj HN.out.1 HPZ.out HIZ.out ha hb (by rw [← HM.out]; exact h)))
              rw [← HM.out] at NM
              clear ho5 hb5
              refine ⟨_, rfl, trivial, ?_⟩
              simp only [Act.put, List.setIfInBounds_toArray, List.set_cons_zero, List.set_cons_succ]
              refine wpAnyH_ready (rs := [8]) (by kernel_rfl) (by simp) ?_
              refine node_f19 45 44 (.slice (some ⟨g5, 0, none⟩) m c5) rfl rfl rfl rfl rfl ?_ AllReadyH.nil
              · refine NM.out.mono ?_
                rintro e w6 ⟨g6, c6, rfl, ho6, hb6⟩
                have HB6 := hid (below_step HB5.out hb6)
                have HK6 := hid (below_step HK5.out hb6)
                have HO6 := hid (ownV_mono ho6 HB5.out.size)
                clear ho6 hb6
                refine ⟨_, rfl, trivial, ?_⟩
                simp only [Act.put, List.setIfInBounds_toArray, List.set_cons_zero, List.set_cons_succ]
                refine take_at (i := 9) 11 (v := .slice (some ⟨g6, 0, none⟩) m c6) rfl (by kernel_rfl) (by kernel_rfl) (by kernel_rfl) rfl (fun _ _ _ h => h) (by rfl) (fun w hSw => ?_) hHeld ?_
                · (try dsimp only at hSw); go_simp
                simp only [Act.put, List.setIfInBounds_toArray, List.set_cons_zero, List.set_cons_succ]
                refine wpAnyH_done (by kernel_rfl) ?_ _
                clear hHeld
                rcases HBS.out with ⟨rfl, hi0⟩ | hob
                · have HI0 := hid hi0
                  clear hi0
                  go_wp2_with fail
                  all_goals (try (rename_i hK; refine hK _ _ ?_; dsimp only [Option.isNone_none, Option.isNone_some]; go_wp2_with fail))
                  go_roundw
                  case rel => exact ⟨i + 1, by go_num, by omega, .inr HO6.out, HB6⟩
                  case measure => simp [intOf]; omega
                · obtain ⟨bg, bc, rfl, -⟩ := ownV_some hob (by rw [brd_len]; omega)
                  rw [brd_len] at hob ⊢
                  have hob6 := ownV_below hob HK6.out
                  have CC := hid (compare_any m g6 c6 bg bc (fun j => ((j % n : Nat) : Int)) w6 HMB.out.2 (fun j hj => by have h := ownV_cell HO6.out j (by rw [brd_len]; exact hj); rw [brd_at hj] at h; exact h) (fun j hj => by have h := ownV_cell hob6 j (by rw [brd_len]; exact hj); rw [brd_at hj] at h; exact h))
                  have HOB6 := hid hob6
                  clear hob hob6
                  go_wp2_with (first | (go_at_call 21; refine CC.out.mono ?_; rintro e w7 ⟨rfl, hb7⟩; have HB7 := hid (below_step HB6.out hb7); have HO7 := hid (ownV_below HOB6.out hb7); clear hb7) | fail)
                  all_goals (try (rename_i hK; refine hK _ _ ?_; dsimp only [Option.isNone_none, Option.isNone_some]; go_wp2_with (first | (go_at_call 21; refine CC.out.mono ?_; rintro e w7 ⟨rfl, hb7⟩; have HB7 := hid (below_step HB6.out hb7); have HO7 := hid (ownV_below HOB6.out hb7); clear hb7) | fail)))
                  go_roundw
                  case rel => exact ⟨i + 1, by go_num, by omega, .inr HO7.out, HB7⟩
                  case measure => simp [intOf]; omega
        · obtain rfl : m = i := by omega
          have hob : OwnV wk w0.heap.size 3 _ (brd n m) := HBS.out.resolve_left (fun h => by have := h.2; omega)
          have HOB := hid hob
          clear hob
          go_wp2_with fail
          go_roundw
          case rel => exact ⟨HBk, .inr (.inl ⟨rfl, HOB⟩)⟩
          case measure => simp [intOf]
    · obtain ⟨z, hz⟩ : ∃ z, z = zB n r := ⟨_, rfl⟩
      have HX := HXB
      have HPZ : Hid (∀ j, j < 2 * n → z j = z (j % n)) := fun j hj => by rw [hz]; exact zB_per n (by omega) r HHR.out j hj
      have HIZ : Hid (∀ a b, a < n → b < n → z a = z b → a = b) := fun a b ha hb h => zB_inj n (by omega) r HHR.out a ha b hb (by rw [← hz]; exact h)
      have HRZ : Hid (∀ j, InR (z j)) := fun j => by rw [hz]; exact zB_in HN.out
      rw [← hz] at HX
      obtain ⟨xb, hxb⟩ : ∃ xb, xb = bb := ⟨_, rfl⟩
      obtain ⟨xc, hxc⟩ : ∃ xc, xc = bc := ⟨_, rfl⟩
      rw [← hxb] at HX
      have hcx : m ≤ xc := by omega
      rw [← hxb, ← hxc] at LC1
      clear hz hxb hxc
      go_wp2_with fail
      clear LC0 LC1
      go_loopw [34, 7] (fun iv bv wk => ∃ i : Nat, iv = .int .i64 i ∧ i ≤ m ∧ Hid ((bv = .slice none 0 0 ∧ i = 0) ∨ OwnV wk w0.heap.size 3 bv (brd n m)) ∧ Hid (Below w0.heap.size w0 wk)) (fun iv _ _ => m - (intOf iv).toNat)
      case atStart => exact ⟨0, rfl, Nat.zero_le _, .inr HOA.out, HBr⟩
      case round =>
        obtain ⟨i, rfl, hi, HBS, HBk⟩ := hrel
        rename World => wk
        by_cases hlt : i < m
        · go_upto_region 13 with fail
          refine wp_region_held_drew (S := fun w' => True) (by kernel_rfl) trivial (fun hHeld => ?_)
          have HBU := hid (HBk.out.drew)
          have HKU : Hid (Below wk.heap.size wk wk.drew) := (Below.refl _ wk).drew
          generalize wk.drew = u0 at *
          refine take_at (i := 0) 37 (v := .slice (some ⟨xb, 0, none⟩) m xc) rfl (by kernel_rfl) (by kernel_rfl) (by kernel_rfl) rfl (fun _ _ _ h => h) (by rfl) (fun w hSw => ?_) hHeld ?_
          · (try dsimp only at hSw); go_simp
          simp only [Act.put, List.setIfInBounds_toArray, List.set_cons_zero, List.set_cons_succ]
          refine take_at (i := 1) 38 (v := .int .i64 (i : Int)) rfl (by kernel_rfl) (by kernel_rfl) (by kernel_rfl) rfl (fun _ _ _ h => h) (by rfl) (fun w hSw => ?_) hHeld ?_
          · (try dsimp only at hSw); go_simp
          simp only [Act.put, List.setIfInBounds_toArray, List.set_cons_zero, List.set_cons_succ]
          refine take_at (i := 2) 39 (v := .slice (some ⟨xb, i, none⟩) (m - i) (xc - i)) rfl (by kernel_rfl) (by kernel_rfl) (by kernel_rfl) rfl (fun _ _ _ h => h) (by rfl) (fun w hSw => ?_) hHeld ?_
          · (try dsimp only at hSw); go_simp; first | done | omega | (simp; omega)
          simp only [Act.put, List.setIfInBounds_toArray, List.set_cons_zero, List.set_cons_succ]
          refine take_at (i := 3) 40 (v := .slice (some ⟨xb, 0, none⟩) m xc) rfl (by kernel_rfl) (by kernel_rfl) (by kernel_rfl) rfl (fun _ _ _ h => h) (by rfl) (fun w hSw => ?_) hHeld ?_
          · (try dsimp only at hSw); go_simp
          simp only [Act.put, List.setIfInBounds_toArray, List.set_cons_zero, List.set_cons_succ]
          refine take_at (i := 4) 41 (v := .int .i64 (i : Int)) rfl (by kernel_rfl) (by kernel_rfl) (by kernel_rfl) rfl (fun _ _ _ h => h) (by rfl) (fun w hSw => ?_) hHeld ?_
          · (try dsimp only at hSw); go_simp
          simp only [Act.put, List.setIfInBounds_toArray, List.set_cons_zero, List.set_cons_succ]
          refine take_at (i := 5) 42 (v := .slice (some ⟨xb, 0, none⟩) i xc) rfl (by kernel_rfl) (by kernel_rfl) (by kernel_rfl) rfl (fun _ _ _ h => h) (by rfl) (fun w hSw => ?_) hHeld ?_
          · (try dsimp only at hSw); go_simp; first | done | omega | (simp; omega)
          simp only [Act.put, List.setIfInBounds_toArray, List.set_cons_zero, List.set_cons_succ]
          refine wpAnyH_ready (rs := [6]) (by kernel_rfl) (by simp) ?_
          refine node_build33 43 39 42 (.slice (some ⟨xb, i, none⟩) (m - i) (xc - i)) (.slice (some ⟨xb, 0, none⟩) i xc) rfl rfl rfl rfl rfl rfl ⟨_, _, _, rfl, _, _, _, rfl⟩ trivial (fun hHeld => ?_) AllReadyH.nil
          · have hnew := heap_alloc_new u0 (.cells #[.slice (some ⟨xb, i, none⟩) (m - i) (xc - i), .slice (some ⟨xb, 0, none⟩) i xc] 22)
            have HBV := hid (HBU.out.alloc HBU.out.size (.cells #[.slice (some ⟨xb, i, none⟩) (m - i) (xc - i), .slice (some ⟨xb, 0, none⟩) i xc] 22))
            have HKV := hid (HKU.out.alloc HKU.out.size (.cells #[.slice (some ⟨xb, i, none⟩) (m - i) (xc - i), .slice (some ⟨xb, 0, none⟩) i xc] 22))
            have CN := hid (concat_any m xb i (xc - i) xc u0.heap.size 2 z _ HMB.out hlt (cells2_of hnew).1 (cells2_of hnew).2 (fun j hj => HX.out _ j HBV.out hj))
            generalize u0.alloc (.cells #[.slice (some ⟨xb, i, none⟩) (m - i) (xc - i), .slice (some ⟨xb, 0, none⟩) i xc] 22) = u1 at *
            generalize u0.heap.size = tb at *
            clear hnew
            simp only [Act.put, List.setIfInBounds_toArray, List.set_cons_zero, List.set_cons_succ]
            refine wpAnyH_ready (rs := [7]) (by kernel_rfl) (by simp) ?_
            refine node_f20 44 43 (.slice (some ⟨tb, 0, none⟩) 2 2) rfl rfl rfl rfl rfl ?_ AllReadyH.nil
            · refine CN.out.mono ?_
              rintro e w5 ⟨v, rfl, ho5, hb5⟩
              have HB5 := hid (below_step HBV.out hb5)
              have HK5 := hid (below_step HKV.out hb5)
              obtain ⟨g5, c5, rfl, -⟩ := ownV_some ho5 (by rw [rotL_len (by omega)]; omega)
              rw [rotL_len (by omega)] at ho5
              rw [rotL_len (by omega)]
              have NM := hid (named_any n g5 c5 (fun j => z ((j + i) % m)) w5 HN.out (fun j hj => by have hj' : j < m := (by rw [HM.out]; exact hj); have h := ownV_cell ho5 j (by rw [rotL_len (by omega)]; exact hj'); rw [rotL_at hlt hj'] at h; exact h) (fun j => HRZ.out _) (fun j hj => by show z _ = z _; rw [HM.out]; exact rot_per HPZ.out hj) (fun a b ha hb h => rot_inj HN.out.1 HPZ.out HIZ.out ha hb (by rw [← HM.out]; exact h)))
              rw [← HM.out] at NM
              clear ho5 hb5
              refine ⟨_, rfl, trivial, ?_⟩
              simp only [Act.put, List.setIfInBounds_toArray, List.set_cons_zero, List.set_cons_succ]
              refine wpAnyH_ready (rs := [8]) (by kernel_rfl) (by simp) ?_
              refine node_f19 45 44 (.slice (some ⟨g5, 0, none⟩) m c5) rfl rfl rfl rfl rfl ?_ AllReadyH.nil
              · refine NM.out.mono ?_
                rintro e w6 ⟨g6, c6, rfl, ho6, hb6⟩
                have HB6 := hid (below_step HB5.out hb6)
                have HK6 := hid (below_step HK5.out hb6)
                have HO6 := hid (ownV_mono ho6 HB5.out.size)
                clear ho6 hb6
                refine ⟨_, rfl, trivial, ?_⟩
                simp only [Act.put, List.setIfInBounds_toArray, List.set_cons_zero, List.set_cons_succ]
                refine take_at (i := 9) 11 (v := .slice (some ⟨g6, 0, none⟩) m c6) rfl (by kernel_rfl) (by kernel_rfl) (by kernel_rfl) rfl (fun _ _ _ h => h) (by rfl) (fun w hSw => ?_) hHeld ?_
                · (try dsimp only at hSw); go_simp
                simp only [Act.put, List.setIfInBounds_toArray, List.set_cons_zero, List.set_cons_succ]
                refine wpAnyH_done (by kernel_rfl) ?_ _
                clear hHeld
                rcases HBS.out with ⟨rfl, hi0⟩ | hob
                · have HI0 := hid hi0
                  clear hi0
                  go_wp2_with fail
                  all_goals (try (rename_i hK; refine hK _ _ ?_; dsimp only [Option.isNone_none, Option.isNone_some]; go_wp2_with fail))
                  go_roundw
                  case rel => exact ⟨i + 1, by go_num, by omega, .inr HO6.out, HB6⟩
                  case measure => simp [intOf]; omega
                · obtain ⟨bg, bc, rfl, -⟩ := ownV_some hob (by rw [brd_len]; omega)
                  rw [brd_len] at hob ⊢
                  have hob6 := ownV_below hob HK6.out
                  have CC := hid (compare_any m g6 c6 bg bc (fun j => ((j % n : Nat) : Int)) w6 HMB.out.2 (fun j hj => by have h := ownV_cell HO6.out j (by rw [brd_len]; exact hj); rw [brd_at hj] at h; exact h) (fun j hj => by have h := ownV_cell hob6 j (by rw [brd_len]; exact hj); rw [brd_at hj] at h; exact h))
                  have HOB6 := hid hob6
                  clear hob hob6
                  go_wp2_with (first | (go_at_call 21; refine CC.out.mono ?_; rintro e w7 ⟨rfl, hb7⟩; have HB7 := hid (below_step HB6.out hb7); have HO7 := hid (ownV_below HOB6.out hb7); clear hb7) | fail)
                  all_goals (try (rename_i hK; refine hK _ _ ?_; dsimp only [Option.isNone_none, Option.isNone_some]; go_wp2_with (first | (go_at_call 21; refine CC.out.mono ?_; rintro e w7 ⟨rfl, hb7⟩; have HB7 := hid (below_step HB6.out hb7); have HO7 := hid (ownV_below HOB6.out hb7); clear hb7) | fail)))
                  go_roundw
                  case rel => exact ⟨i + 1, by go_num, by omega, .inr HO7.out, HB7⟩
                  case measure => simp [intOf]; omega
        · obtain rfl : m = i := by omega
          have hob : OwnV wk w0.heap.size 3 _ (brd n m) := HBS.out.resolve_left (fun h => by have := h.2; omega)
          have HOB := hid hob
          clear hob
          go_wp2_with fail
          go_roundw
          case rel => exact ⟨HBk, .inr (.inr ⟨rfl, HOB⟩)⟩
          case measure => simp [intOf]
    · obtain ⟨oa, on, oc, rfl⟩ := ownV_sh HOA.out
      clear LC0 LC1
      go_wp2_with fail
      go_ret2
      exact ⟨_, rfl, ownV_mono HOA.out HB0.out.size, HB0.out.trans (HBr.out.mono HB0.out.size)⟩
end Go.Proofs.YtppkgilpmmhpoaaDoor
