/-
  Changes of which one is bad.
  The act that appends to the log.
  Apply, where there is room in memory.
  A store is made for a disk.
  Open, of a disk with no more files than its first log, which ends whole.
-/
import Derived.Test.YtpenleogafdbhaaGreatDoorZ13
namespace Go.Proofs.YtpenleogafdbhaaGreatDoor
open Go.RowKit Go.Maps Go.ChangeMaps Go.WideElems Go.WideShapes Go.WideAt Go.WideMaps
set_option maxRecDepth 100000 in
set_option maxHeartbeats 4000000 in
/-- a change is bad -/
theorem badCh_any (x : Ch) (w : World) : Calls Tryz.prog 74 #[.agg #[.string (str x.key), .string (str x.val), .bool x.del]] w fun e w' => e = .returned (.bool x.bad) ∧ Below w.heap.size w w' := by
  have HV := hid (fun W => valid_any x.key x.val W)
  have HV2 := hid (fun W => valid_any x.key [] W)
  rw [show str [] = ⟨#[]⟩ from rfl] at HV2
  have HB : Hid (x.bad = (!okKV x.key x.val && (!x.del || !okKV x.key []))) := hid rfl
  obtain ⟨o1, ho1⟩ : ∃ o, o = okKV x.key x.val := ⟨_, rfl⟩
  obtain ⟨o2, ho2⟩ : ∃ o, o = okKV x.key [] := ⟨_, rfl⟩
  obtain ⟨dl, hdl⟩ : ∃ o, o = x.del := ⟨_, rfl⟩
  obtain ⟨kx, hkx⟩ : ∃ o, o = str x.key := ⟨_, rfl⟩
  obtain ⟨vx, hvx⟩ : ∃ o, o = str x.val := ⟨_, rfl⟩
  obtain ⟨r, hr⟩ : ∃ o, o = x.bad := ⟨_, rfl⟩
  rw [← ho1, ← ho2, ← hdl, ← hr] at HB
  rw [← ho1, ← hkx, ← hvx] at HV
  rw [← ho2, ← hkx] at HV2
  rw [← hr, ← hdl, ← hkx, ← hvx]
  clear ho1 ho2 hdl hkx hvx hr
  have HX := hid (heap_alloc_new w (.cells #[.string kx, .string vx, .bool dl] 39))
  have HBW := hid (ba w (.cells #[.string kx, .string vx, .bool dl] 39))
  go_enter Tryz.func74, Tryz.ntmps74
  cases o1 <;> cases dl <;> cases o2 <;>
  · have HR := HB.out
    unfold Hid at HR
    simp only [Bool.not_true, Bool.not_false, Bool.and_true, Bool.true_and, Bool.and_false, Bool.false_and, Bool.or_true, Bool.true_or, Bool.or_false, Bool.false_or, Bool.or_self, Bool.and_self] at HR
    subst HR
    clear HB
    go_upto_region 1 with fail
    obtain ⟨c0, c1, c2⟩ := cells3_of HX.out
    obtain ⟨X, hX⟩ : ∃ X, X = w.heap.size := ⟨_, rfl⟩
    generalize w.alloc (.cells #[.string kx, .string vx, _] 39) = wa at *
    rw [← hX] at c0 c1 c2 ⊢
    clear hX HX
    have V1 := HV.out wa
    have V2 := HV2.out wa
    clear HV HV2
    go_wp2_with (first
      | (go_at_call 75; refine V1.mono ?_; rintro e w1 ⟨rfl, hw⟩; obtain rfl := hw.symm; clear hw V1)
      | (go_at_call 75; refine V2.mono ?_; rintro e w1 ⟨rfl, hw⟩; obtain rfl := hw.symm; clear hw)
      | fail)
    go_ret
    exact ⟨rfl, HBW.out⟩
theorem eg74 : ∀ args w, (callFunc 74 args).run Tryz.prog w = .ok (.enter 74 args) w := enters_of Tryz.func74 (by kernel_rfl) rfl
set_option maxRecDepth 100000 in
set_option maxHeartbeats 4000000 in
theorem indexC_any (v : Value) (l : List Ch) (w : World) (hv : IsCh w v l) :
    Calls Tryz.prog 139 #[v, .func (.func 74) #[] #[]] w fun e w' => ∃ r : Int, e = .returned (.int .i64 r) ∧ decide (0 ≤ r) = l.any Ch.bad ∧ Below w.heap.size w w' := by
  have HV := hid hv
  obtain ⟨p, c, rfl, hl, -, -⟩ := hv
  obtain ⟨n, hn⟩ : ∃ n, n = l.length := ⟨_, rfl⟩
  have HN := hid hn
  rw [← hn] at hl HV ⊢
  have eg := eg74
  clear hn
  go_enter Tryz.func139, Tryz.ntmps139
  go_wp2_with fail
  go_loopw [8] (fun kv wr => ∃ k : Nat, kv = .int .i64 (k : Int) ∧ k ≤ n ∧ Hid ((l.take k).any Ch.bad = false) ∧ Hid (Below w.heap.size w wr)) (fun kv _ => n - (intOf kv).toNat)
  case atStart => exact ⟨0, rfl, Nat.zero_le _, rfl, Below.refl _ _⟩
  case round =>
    obtain ⟨k, rfl, hk, HA, HB⟩ := hrel
    rename World => wr
    by_cases hlt : k < n
    · have hkl : k < l.length := by rw [← HN.out]; exact hlt
      obtain ⟨x, hx⟩ : ∃ x, l[k]? = some x := ⟨_, List.getElem?_eq_getElem hkl⟩
      have HX := hid hx
      obtain ⟨p', c', hv', _, _, hcell⟩ := (HV.out.below HB.out)
      obtain ⟨g, hp, c0, c1, c2⟩ := hcell k x hx
      injection hv' with e1 e2 e3
      subst e1
      subst hp
      clear e2 e3 hcell hx
      have HC := hid (badCh_any x wr)
      have HT : Hid (l.take (k + 1) = l.take k ++ [x]) := hid (by rw [List.take_add_one, HX.out]; rfl)
      have HD : Hid (l = l.take k ++ (x :: l.drop (k + 1))) := hid (by
        have := HX.out
        rw [List.getElem?_eq_getElem hkl, Option.some.injEq] at this
        rw [← this]
        exact (List.take_append_drop k l).symm.trans (by rw [List.drop_eq_getElem_cons hkl]))
      cases hq : x.bad with
      | true =>
        rw [hq] at HC
        have HQ := hid hq
        clear hq hkl
        go_wp2_with (first | (go_at_fn 74; refine HC.out.mono ?_; rintro e w1 ⟨rfl, hb1⟩; have HB1 := hid (below_step HB.out hb1); clear hb1) | fail)
        go_ret
        refine ⟨_, rfl, ?_, HB1.out⟩
        rw [HD.out, List.any_append, List.any_cons, HQ.out]
        simp
      | false =>
        rw [hq] at HC
        have HQ := hid hq
        clear hq hkl
        go_wp2_with (first | (go_at_fn 74; refine HC.out.mono ?_; rintro e w1 ⟨rfl, hb1⟩; have HB1 := hid (below_step HB.out hb1); clear hb1) | fail)
        go_roundw
        case rel => exact ⟨k + 1, by go_num, by omega, hid (by rw [HT.out, List.any_append, HA.out, List.any_cons, HQ.out]; rfl), HB1⟩
        case measure => simp [intOf]; omega
    · obtain rfl : k = n := by omega
      go_wp2_with fail
      go_ret
      refine ⟨_, rfl, ?_, HB.out⟩
      have h := HA.out
      rw [List.take_of_length_le (by rw [← HN.out]; exact Nat.le_refl _)] at h
      rw [h]
      rfl
theorem containsC_any (v : Value) (l : List Ch) (w : World) (hv : IsCh w v l) :
    Calls Tryz.prog 77 #[v, .func (.func 74) #[] #[]] w fun e w' => e = .returned (.bool (l.any Ch.bad)) ∧ Below w.heap.size w w' := by
  have HI := hid (indexC_any v l w hv)
  clear hv
  obtain ⟨b, hb⟩ : ∃ b, b = l.any Ch.bad := ⟨_, rfl⟩
  rw [← hb] at HI ⊢
  clear hb
  go_enter Tryz.func77, Tryz.ntmps77
  go_wp2_with fail
  go_at_call 139
  refine HI.out.mono ?_
  rintro e w1 ⟨r, rfl, hr, hb1⟩
  have HB1 := hid hb1
  clear hb1 HI
  have HR := hid hr
  clear hr
  go_wp2_with fail
  go_ret
  exact ⟨by rw [← HR.out]; rfl, HB1.out⟩
end Go.Proofs.YtpenleogafdbhaaGreatDoor

namespace Go.Proofs.YtpenleogafdbhaaGreatDoor
open Go.RowKit Go.Maps Go.ChangeMaps Go.WideElems Go.WideShapes Go.WideAt Go.WideMaps
section
variable {md : Region.Mode} {ops : Array Oper} {Q : Exit → Act → World → Prop} {S : World → Prop} {fuel : Nat} {listed : Array Bool} {a : Act} {w : World} {i : Nat} {o : Oper} {rs : List Nat}
theorem node_t3 (f t1 t2 t3 d k1 k2 k3 : Nat) (v1 v2 v3 : Value) (eg : ∀ args w, (callFunc f args).run Tryz.prog w = .ok (.enter f args) w) (hi : ops[i]? = some o) (hgd : Region.wanted o (yielded ops a.tmps) = true) (ho : o.op = .call { callee := .value (.func f), args := #[.tmp k1, .tmp k2, .tmp k3], argTypes := #[t1, t2, t3] }) (hd : o.dst = some d)
    (hp1 : a.tmps[k1]?.getD undef = v1) (hp2 : a.tmps[k2]?.getD undef = v2) (hp3 : a.tmps[k3]?.getD undef = v3)
    (h : Calls Tryz.prog f #[v1, v2, v3] w fun e w' => ∃ u, e = .returned u ∧ S w' ∧ wpAnyH Tryz.prog md ops Q S fuel (listed.setIfInBounds i true) (a.put (some d) u) w')
    (hs : AllReadyH Tryz.prog md ops Q S fuel listed a w rs) : AllReadyH Tryz.prog md ops Q S fuel listed a w (i :: rs) := by
  refine AllReadyH.cons hi (fun K hK => ?_) hs
  rw [if_pos hgd]
  unfold Oper.wp execOp
  simp [ho, go_sem, hp1, hp2, hp3, eg]
  refine h.mono ?_
  rintro e w' ⟨u, rfl, h1, h2⟩
  have hk := hK.out _ _ h1 (fun _ => h2)
  rw [hd]
  exact hk
end
section
variable {dp mb : Nat} {L : Mp FileR} {d : Dk}
theorem enters67 : ∀ args w, (callFunc 67 args).run Tryz.prog w = .ok (.enter 67 args) w := enters_of Tryz.func67 (by kernel_rfl) rfl
theorem enters81 : ∀ args w, (callFunc 81 args).run Tryz.prog w = .ok (.enter 81 args) w := enters_of Tryz.func81 (by kernel_rfl) rfl
set_option maxRecDepth 100000 in
set_option maxHeartbeats 2000000 in
theorem act81 (b1 b7 sp lg : Nat) (g m c : Nat) (bs : Bs) {tn : Int} {bk : Bool} {a4 a5 a6 a7 a8 a9 : Value} (w : World) (h1 : w.heap[b1]? = some (.cells #[.pointer (some ⟨sp, 0, none⟩)] 33)) (h7 : w.heap[b7]? = some (.cells #[.slice (some ⟨g, 0, none⟩) m c] 59))
    (hs : w.heap[sp]? = some (.cells (stc dp tn bk (.int .i64 (lg : Int)) a4 a5 a6 a7 a8 a9) 109))
    (h : DiskM w dp mb L d) (hok : d.Ok) (hm : m = bs.length) (hb : BytesAt w ⟨g, 0, none⟩ bs) (hg : g < w.heap.size) (hbl : bs.length ≤ 1000000) (hlg : lg < 100000000) (hG : Glb w) (hn1 : ¬ fpD dp mb L b1) (hn7 : ¬ fpD dp mb L b7) (hns : ¬ fpD dp mb L sp) :
    Calls Tryz.prog 81 #[.pointer (some ⟨b1, 0, none⟩), .pointer (some ⟨b7, 0, none⟩)] w (DoneD dp mb L (d.append (nLog lg) bs) w) := by
  have HD := hid h
  have HOK := hid hok
  have HBY := hid hb
  have HGL := hid hG
  have HN := hid (And.intro hn1 (And.intro hn7 hns))
  have HS : Hid (w.heap[b1]? = some (.cells #[.pointer (some ⟨sp, 0, none⟩)] 33) ∧ w.heap[b7]? = some (.cells #[.slice (some ⟨g, 0, none⟩) m c] 59) ∧ w.heap[sp]? = some (.cells (stc dp tn bk (.int .i64 (lg : Int)) a4 a5 a6 a7 a8 a9) 109)) := hid ⟨h1, h7, hs⟩
  have HM := hid hm
  have HBL := hid hbl
  have HGS := hid hg
  clear h hok hb hG hn1 hn7 hns h1 h7 hs hm hbl hg
  unfold DoneD
  obtain ⟨A, hA⟩ : ∃ A, A = d.append (nLog lg) bs := ⟨_, rfl⟩
  rw [← hA]
  have HA := hid hA
  clear hA
  go_enter Tryz.func81, Tryz.ntmps81
  go_upto_region 1 with fail
  refine wp_region_held_drew (S := fun w' => w'.heap[b1]? = some (.cells #[.pointer (some ⟨sp, 0, none⟩)] 33) ∧ w'.heap[b7]? = some (.cells #[.slice (some ⟨g, 0, none⟩) m c] 59) ∧ w'.heap[sp]? = some (.cells (stc dp tn bk (.int .i64 (lg : Int)) a4 a5 a6 a7 a8 a9) 109)) (by kernel_rfl) HS.out (fun hHeld => ?_)
  have HDu0 : Hid (DiskM w.drew dp mb L d) := hid (HD.out.keep fun _ _ => rfl)
  have HCu0 : Hid (Chg (fpD dp mb L) w w.drew) := hid (chg_drew w)
  have HBu0 : Hid (BytesAt w.drew ⟨g, 0, none⟩ bs) := hid HBY.out
  have HGu0 : Hid (Glb w.drew) := hid (HGL.out.keep rfl rfl)
  have HGSu0 : Hid (g < w.drew.heap.size) := hid HGS.out
  generalize w.drew = u0 at *
  refine take_at (i := 0) 3 (v := .pointer (some ⟨sp, 0, none⟩)) rfl (by kernel_rfl) (by kernel_rfl) (by kernel_rfl) rfl (fun _ _ _ h => h) (by rfl) (fun w hSw => ?_) hHeld ?_
  · (try dsimp only at hSw); have q0 := box1 hSw.1; go_simp
  simp only [Act.put, List.setIfInBounds_toArray, List.set_cons_zero, List.set_cons_succ]
  refine take_at (i := 1) 4 (v := .pointer (some ⟨sp, 0, none⟩)) rfl (by kernel_rfl) (by kernel_rfl) (by kernel_rfl) rfl (fun _ _ _ h => h) (by rfl) (fun w hSw => ?_) hHeld ?_
  · (try dsimp only at hSw); go_simp
  simp only [Act.put, List.setIfInBounds_toArray, List.set_cons_zero, List.set_cons_succ]
  refine take_at (i := 2) 5 (v := .pointer (some ⟨sp, 0, none⟩)) rfl (by kernel_rfl) (by kernel_rfl) (by kernel_rfl) rfl (fun _ _ _ h => h) (by rfl) (fun w hSw => ?_) hHeld ?_
  · (try dsimp only at hSw); go_simp
  simp only [Act.put, List.setIfInBounds_toArray, List.set_cons_zero, List.set_cons_succ]
  refine take_at (i := 3) 6 (v := .pointer (some ⟨dp, 0, none⟩)) rfl (by kernel_rfl) (by kernel_rfl) (by kernel_rfl) rfl (fun _ _ _ h => h) (by rfl) (fun w hSw => ?_) hHeld ?_
  · (try dsimp only at hSw); obtain ⟨q0, -⟩ := stc_of hSw.2.2; go_simp
  simp only [Act.put, List.setIfInBounds_toArray, List.set_cons_zero, List.set_cons_succ]
  refine take_at (i := 4) 7 (v := .pointer (some ⟨sp, 0, none⟩)) rfl (by kernel_rfl) (by kernel_rfl) (by kernel_rfl) rfl (fun _ _ _ h => h) (by rfl) (fun w hSw => ?_) hHeld ?_
  · (try dsimp only at hSw); have q0 := box1 hSw.1; go_simp
  simp only [Act.put, List.setIfInBounds_toArray, List.set_cons_zero, List.set_cons_succ]
  refine take_at (i := 5) 8 (v := .pointer (some ⟨sp, 0, none⟩)) rfl (by kernel_rfl) (by kernel_rfl) (by kernel_rfl) rfl (fun _ _ _ h => h) (by rfl) (fun w hSw => ?_) hHeld ?_
  · (try dsimp only at hSw); go_simp
  simp only [Act.put, List.setIfInBounds_toArray, List.set_cons_zero, List.set_cons_succ]
  refine take_at (i := 6) 9 (v := .pointer (some ⟨sp, 3, none⟩)) rfl (by kernel_rfl) (by kernel_rfl) (by kernel_rfl) rfl (fun _ _ _ h => h) (by rfl) (fun w hSw => ?_) hHeld ?_
  · (try dsimp only at hSw); go_simp
  simp only [Act.put, List.setIfInBounds_toArray, List.set_cons_zero, List.set_cons_succ]
  refine take_at (i := 7) 10 (v := .pointer (some ⟨sp, 3, none⟩)) rfl (by kernel_rfl) (by kernel_rfl) (by kernel_rfl) rfl (fun _ _ _ h => h) (by rfl) (fun w hSw => ?_) hHeld ?_
  · (try dsimp only at hSw); go_simp
  simp only [Act.put, List.setIfInBounds_toArray, List.set_cons_zero, List.set_cons_succ]
  refine take_at (i := 8) 11 (v := .int .i64 (lg : Int)) rfl (by kernel_rfl) (by kernel_rfl) (by kernel_rfl) rfl (fun _ _ _ h => h) (by rfl) (fun w hSw => ?_) hHeld ?_
  · (try dsimp only at hSw); obtain ⟨-, -, -, q3, -⟩ := stc_of hSw.2.2; go_simp
  simp only [Act.put, List.setIfInBounds_toArray, List.set_cons_zero, List.set_cons_succ]
  refine take_at (i := 10) 13 (v := .slice (some ⟨g, 0, none⟩) m c) rfl (by kernel_rfl) (by kernel_rfl) (by kernel_rfl) rfl (fun _ _ _ h => h) (by rfl) (fun w hSw => ?_) hHeld ?_
  · (try dsimp only at hSw); have q0 := box1 hSw.2.1; go_simp
  simp only [Act.put, List.setIfInBounds_toArray, List.set_cons_zero, List.set_cons_succ]
  refine wpAnyH_ready (rs := [9]) (by kernel_rfl) (by simp) ?_
  refine node_c1 67 3 12 11 (.int .i64 (lg : Int)) enters67 rfl (by rfl) rfl rfl rfl ((logFile_any lg u0 hlg HGu0.out).mono ?_) AllReadyH.nil
  rintro e u1 ⟨rfl, hb⟩
  have HDu1 := hid (HDu0.out.below hb)
  have HCu1 := hid (HCu0.out.trans0 (chg_below hb))
  have HBu1 : Hid (BytesAt u1 ⟨g, 0, none⟩ bs) := hid (fun j u hj => by
    have hc := HBu0.out j u hj
    rw [add0] at hc ⊢
    exact (cell_same (hb.block g HGSu0.out)).trans hc)
  have hH2 : u1.heap[b1]? = some (.cells #[.pointer (some ⟨sp, 0, none⟩)] 33) ∧ u1.heap[b7]? = some (.cells #[.slice (some ⟨g, 0, none⟩) m c] 59) ∧ u1.heap[sp]? = some (.cells (stc dp tn bk (.int .i64 (lg : Int)) a4 a5 a6 a7 a8 a9) 109) := ⟨(hb.block b1 (heap_lt hHeld.1)).trans hHeld.1, (hb.block b7 (heap_lt hHeld.2.1)).trans hHeld.2.1, (hb.block sp (heap_lt hHeld.2.2)).trans hHeld.2.2⟩
  clear hHeld hb
  have hHeld := hH2
  clear hH2
  refine ⟨_, rfl, hHeld, ?_⟩
  simp only [Act.put, List.setIfInBounds_toArray, List.set_cons_zero, List.set_cons_succ]
  have HNM : (nLog lg).length ≤ 1000 := by
    have := itoa_len hlg
    unfold nLog
    simp
    omega
  have HAP := append_any dp mb L d (str (nLog lg)) ⟨g, 0, none⟩ m c bs u1 HDu1.out HOK.out HM.out HBu1.out HBL.out (str_le HNM)
  rw [str_list, ← HA.out] at HAP
  clear HNM
  refine wpAnyH_ready (rs := [11]) (by kernel_rfl) (by simp) ?_
  refine node_t3 38 31 9 59 14 6 12 13 (.pointer (some ⟨dp, 0, none⟩)) (.string (str (nLog lg))) (.slice (some ⟨g, 0, none⟩) m c) enters38 rfl (by rfl) rfl rfl rfl rfl rfl (HAP.mono ?_) AllReadyH.nil
  rintro e u2 ⟨rfl, L2, hd2, hc2, hn2⟩
  have HC2 := hid (HCu1.out.trans0 hc2)
  have HR2 := hid (show ∃ L'', DiskM u2 dp mb L'' A.2 ∧ Chg (fpD dp mb L) w u2 ∧ New w (fpD dp mb L) (fpD dp mb L'') from ⟨L2, hd2, HC2.out, fun k hk => (hn2 k hk).imp id fun h => Nat.le_trans HCu1.out.size h⟩)
  have hH2 : u2.heap[b1]? = some (.cells #[.pointer (some ⟨sp, 0, none⟩)] 33) ∧ u2.heap[b7]? = some (.cells #[.slice (some ⟨g, 0, none⟩) m c] 59) ∧ u2.heap[sp]? = some (.cells (stc dp tn bk (.int .i64 (lg : Int)) a4 a5 a6 a7 a8 a9) 109) := ⟨(hc2.block b1 (heap_lt hHeld.1) HN.out.1).trans hHeld.1, (hc2.block b7 (heap_lt hHeld.2.1) HN.out.2.1).trans hHeld.2.1, (hc2.block sp (heap_lt hHeld.2.2) HN.out.2.2).trans hHeld.2.2⟩
  clear hHeld hd2 hc2 hn2
  have hHeld := hH2
  clear hH2
  refine ⟨_, rfl, hHeld, ?_⟩
  simp only [Act.put, List.setIfInBounds_toArray, List.set_cons_zero, List.set_cons_succ]
  refine take_at (i := 12) 2 (v := .int .i64 (A.1 : Int)) rfl (by kernel_rfl) (by kernel_rfl) (by kernel_rfl) rfl (fun _ _ _ h => h) (by rfl) (fun w hSw => ?_) hHeld ?_
  · (try dsimp only at hSw); go_simp
  simp only [Act.put, List.setIfInBounds_toArray, List.set_cons_zero, List.set_cons_succ]
  refine wpAnyH_done (by kernel_rfl) ?_ _
  go_wp2_with fail
  go_ret
  exact ⟨rfl, HR2.out⟩
end
end Go.Proofs.YtpenleogafdbhaaGreatDoor

namespace Go.Proofs.YtpenleogafdbhaaGreatDoor
open Go.RowKit Go.Maps Go.ChangeMaps Go.WideElems Go.WideShapes Go.WideAt Go.WideMaps
section
variable {w w' : World} {sp dp mb tb vb : Nat} {L : Mp FileR} {rv qv : Value} {R : List (Nat × Tab)} {V : Mi (Nat × Tab)} {s : St} {d : Dk}
/-- the table in memory is turned -/
theorem Env.setMem (E : Env w sp dp mb tb vb L rv qv R V s d) {t : Tab} (hm : MapM Tryz.prog 9 w' tb (tabV t)) (hc : Chg (fun k => k = tb) w w') (ht : t.length ≤ 2000) : Env w' sp dp mb tb vb L rv qv R V { s with mem := t } d := by
  have hne : ∀ k, (∃ cs t', w.heap[k]? = some (.cells cs t')) → k ≠ tb := fun k h e => by
    obtain ⟨cs, t', h⟩ := h
    obtain ⟨es, c, hm⟩ := E.st.mem.kind
    rw [e, hm] at h
    cases h
  have hk : ∀ k, k < w.heap.size → k ≠ tb → w'.heap[k]? = w.heap[k]? := fun k h1 h2 => hc.block k h1 h2
  have hst : StM w' sp dp tb vb rv qv R V { s with mem := t } :=
    ⟨(hk sp (heap_lt E.st.cells) (hne sp ⟨_, _, E.st.cells⟩)).trans E.st.cells, hm, isV_keep E.st.hruns fun k a b => hk k b (hne k (by obtain ⟨cs, h⟩ := E.st.hrt k a; exact ⟨cs, _, h⟩)), isV_keep E.st.runs fun k a b => hk k b (hne k (by obtain ⟨cs, h⟩ := E.st.qrt k a; exact ⟨cs, _, h⟩)),
      fun p hp => (E.st.run p hp).block (hk _ (E.st.run p hp).lt (E.st.rb p hp).1), E.st.eqR, E.st.views.block (hk _ E.st.views.lt E.st.tv.symm), fun p hp => (E.st.view p hp).block (hk _ (E.st.view p hp).lt (E.st.wb p hp).1), E.st.eqV, E.st.tv, E.st.rb, E.st.wb,
      fun k a => (E.st.hrt k a).imp fun cs h => (hk k (heap_lt h) (hne k ⟨_, _, h⟩)).trans h, fun k a => (E.st.qrt k a).imp fun cs h => (hk k (heap_lt h) (hne k ⟨_, _, h⟩)).trans h⟩
  have hlo := E.lo tb (.inl (.inr (.inl rfl)))
  exact ⟨hst, E.dk.keep fun k h => hk k (E.dk.lt k h) fun e => E.sep tb (.inl (.inr (.inl rfl))) (e ▸ h), E.sd, E.ok, E.g.chg hc fun k e => by rw [e]; exact hlo, E.lo, ⟨ht, E.sm.run, E.sm.runs⟩, ⟨E.num.log, E.num.next, E.num.runs⟩⟩
set_option maxRecDepth 100000 in
set_option maxHeartbeats 8000000 in
theorem apply64_any (E : Env w sp dp mb tb vb L rv qv R V s d) (v : Value) (l : List Ch) (hv : IsCh w v l) (hvb : ∀ k, v.ownBlock = some k → k < w.heap.size ∧ ¬ foot sp dp mb tb vb L k) (h64 : s.mem.length + l.length ≤ 64) :
    Calls Tryz.prog 19 #[.pointer (some ⟨sp, 0, none⟩), v] w fun e w' => e = .returned (.int .i64 ((s.apply d l).1 : Int)) ∧ Does w w' sp dp mb tb vb L rv qv R V (s.apply d l).2.1 (s.apply d l).2.2 := by
  obtain ⟨g, hg⟩ : ∃ g, g = s.apply d l := ⟨_, rfl⟩
  rw [← hg]
  unfold St.apply at hg
  have HE1 := hid (E.below (ba w (.cells #[.pointer (some ⟨sp, 0, none⟩)] 33)))
  have HBX := hid (heap_alloc_new w (.cells #[.pointer (some ⟨sp, 0, none⟩)] 33))
  have HR := hid (readyS_stm HE1.out.st HE1.out.dk)
  have HB1 := hid (ba w (.cells #[.pointer (some ⟨sp, 0, none⟩)] 33))
  have HE := hid E
  have HV := hid hv
  have HVB := hid hvb
  obtain ⟨p, c, rfl, hl0, HS, -⟩ := hv
  obtain ⟨n, hn⟩ : ∃ n, n = l.length := ⟨_, rfl⟩
  rw [← hn] at HV HVB ⊢
  have HN := hid hn
  have hn64 : n ≤ 64 := by omega
  have HSS := hid HS
  cases hr : s.ready d with
  | false =>
    rw [if_pos hr] at hg
    rw [hr] at HR
    have HG := hid hg
    clear hg hr E hvb HS hl0 hn h64
    go_enter Tryz.func19, Tryz.ntmps19
    go_wp2_with (first | (go_at_call 76; refine HR.out.mono ?_; rintro e w2 ⟨rfl, hb⟩; have HB := hid (below_step HB1.out hb); clear hb) | fail)
    go_ret
    rw [HG.out]
    exact ⟨rfl, HE.out.does HB.out⟩
  | true =>
    rw [if_neg (by rw [hr]; decide)] at hg
    rw [hr] at HR
    have HVX := hid (fun W (hb : Below w.heap.size w W) => containsC_any _ l W (HV.out.below hb))
    obtain ⟨bd, hbd⟩ : ∃ b, b = l.any Ch.bad := ⟨_, rfl⟩
    rw [← hbd] at HVX
    by_cases hA : l.length = 0 ∨ l.any Ch.bad = true
    · rw [if_pos hA] at hg
      have HG := hid hg
      by_cases h0 : n = 0
      · have hz : ((n : Int) == 0) = true := by rw [h0]; rfl
        clear hg hr E hvb HS hl0 hn h64 hA hbd h0
        go_enter Tryz.func19, Tryz.ntmps19
        go_wp2_with (first | (go_at_call 76; refine HR.out.mono ?_; rintro e w2 ⟨rfl, hb⟩; have HB := hid (below_step HB1.out hb); clear hb) | fail)
        go_ret
        rw [HG.out]
        exact ⟨rfl, HE.out.does HB.out⟩
      · have hz : ((n : Int) == 0) = false := by simp; omega
        have hb1 : bd = true := by
          rcases hA with h | h
          · exact absurd (hn.trans h) h0
          · rw [hbd, h]
        subst hb1
        clear hg hr E hvb HS hl0 hn h64 hA hbd h0
        go_enter Tryz.func19, Tryz.ntmps19
        go_wp2_with (first
          | (go_at_call 76; refine HR.out.mono ?_; rintro e w2 ⟨rfl, hb⟩; have HB := hid (below_step HB1.out hb); clear hb)
          | (go_at_call 77; refine (HVX.out _ HB.out).mono ?_; rintro e w3 ⟨rfl, hb⟩; have HB3 := hid (below_step HB.out hb); clear hb)
          | fail)
        go_ret
        rw [HG.out]
        exact ⟨rfl, HE.out.does HB3.out⟩
    · rw [if_neg hA] at hg
      have h0 : n ≠ 0 := fun h => hA (.inl (hn.symm.trans h))
      have hz : ((n : Int) == 0) = false := by simp; omega
      have hb1 : bd = false := by
        rw [hbd]
        cases h : l.any Ch.bad with
        | false => rfl
        | true => exact absurd (.inr h) hA
      subst hb1
      by_cases h20 : 20 < l.length
      · rw [if_pos h20] at hg
        have HG := hid hg
        have hn20 : 20 < n := by omega
        clear hg hr E hvb HS hl0 hn h64 hA hbd h0 h20
        go_enter Tryz.func19, Tryz.ntmps19
        go_wp2_with (first
          | (go_at_call 76; refine HR.out.mono ?_; rintro e w2 ⟨rfl, hb⟩; have HB := hid (below_step HB1.out hb); clear hb)
          | (go_at_call 77; refine (HVX.out _ HB.out).mono ?_; rintro e w3 ⟨rfl, hb⟩; have HB3 := hid (below_step HB.out hb); clear hb)
          | fail)
        go_ret
        rw [HG.out]
        exact ⟨rfl, HE.out.does HB3.out⟩
      · rw [if_neg h20] at hg
        rw [if_neg (by omega : ¬ 64 < s.mem.length + l.length), if_neg (by simp)] at hg
        obtain ⟨q, hq⟩ : ∃ q, q = d.append (nLog s.head.log) (blk (chBytes l)) := ⟨_, rfl⟩
        have hg2 : g = (q.1, if q.1 ≠ 0 then s.fail q.1 else { s.fail q.1 with mem := s.mem.apply l }, q.2) := by rw [hg, hq]
        have HG := hid hg2
        have HQ := hid hq
        have hn20 : n ≤ 20 := by omega
        obtain ⟨ml, hml⟩ : ∃ m, m = s.mem.length := ⟨_, rfl⟩
        have hmn : ml + n ≤ 64 := by omega
        have HML := hid hml
        have HLEN : Hid ((blk (chBytes l)).length ≤ 800000 ∧ (chBytes l).length ≤ 800000 ∧ 0 < (chBytes l).length) := hid (by
          have h1 := chBytes_len l HS
          rw [blk_len]
          refine ⟨by omega, by omega, ?_⟩
          cases l with
          | nil => exact absurd hn h0
          | cons x r => unfold chBytes Ch.bytes; simp)
        have hlg := E.num.log
        have HGO := hid hg
        clear hg hr hvb HS hl0 hn h64 hA hbd h0 h20 hg2 hq hml HGO
        obtain ⟨b1, hb1⟩ : ∃ b1, b1 = w.heap.size := ⟨_, rfl⟩
        go_enter Tryz.func19, Tryz.ntmps19
        go_upto_region 2 with fail
        clear E
        generalize w.alloc (.cells #[.pointer (some ⟨sp, 0, none⟩)] 33) = w1 at *
        rw [← hb1] at HBX ⊢
        have HB1E := hid hb1
        clear hb1
        have c1 := box1 HBX.out
        have hlen : ∀ W, MapM Tryz.prog 9 W tb (tabV s.mem) → (Builtin.len_ #[105] 3 #[.map (some tb)]).run Tryz.prog W = .ok (.int .i64 (ml : Int)) W := fun W h => by
          have := h.len (t := 105) Tryz.underlying105 3
          rw [HML.out, ← mmap_length cellV]
          exact this
        have HLN := hid hlen
        clear hlen
        go_upto_region 13 with (first
          | (go_at_call 76; refine HR.out.mono ?_; rintro e w2 ⟨rfl, hb⟩; have HB2 := hid (below_step HB1.out hb); have HBX2 := hid ((hb.block b1 (heap_lt HBX.out)).trans HBX.out); have HE2 := hid (HE1.out.below hb); clear hb c1; have c1 := box1 HBX2.out)
          | (go_at_call 77; refine (HVX.out _ HB2.out).mono ?_; rintro e w3 ⟨rfl, hb⟩; have HB3 := hid (below_step HB2.out hb); have HBX3 := hid ((hb.block b1 (heap_lt HBX2.out)).trans HBX2.out); have HE3 := hid (HE2.out.below hb); clear hb c1; have c1 := box1 HBX3.out; obtain ⟨-, -, -, -, -, -, e6, -⟩ := stc_of HE3.out.st.cells; have hln := HE3.out.st.mem.len (t := 105) Tryz.underlying105 3; rw [show (tabV s.mem).length = ml from (mmap_length _ _).trans HML.out.symm] at hln)
          | (go_at_call 79; refine (chBytes_any _ l w3 (HV.out.below HB3.out) (by rw [← HN.out]; omega)).mono ?_; rintro e w4 ⟨v4, rfl, ho4, hb4⟩; obtain ⟨g4, k4, rfl, -, -⟩ := ownV_some ho4 (by rw [List.length_map]; exact HLEN.out.2.2); rw [List.length_map] at *; have HO4 := hid ho4; have HB4 := hid (below_step HB3.out hb4); have HBX4 := hid ((hb4.block b1 (heap_lt HBX3.out)).trans HBX3.out); have HE4 := hid (HE3.out.below hb4); clear hb4 ho4 c1 e6 hln; have HBK := hid (block_any ⟨g4, 0, none⟩ _ k4 (chBytes l) w4 rfl (IsB.own HO4.out) (own_bytesAt HO4.out) HLEN.out.2.1); generalize (chBytes l).length = N4 at *)
          | (go_at_call 78; refine HBK.out.mono ?_; rintro e w5 ⟨v5, rfl, ho5, hb5⟩; obtain ⟨g5, k5, rfl, -, hg5⟩ := ownV_some ho5 (by rw [List.length_map, blk_len]; omega); rw [List.length_map] at *; have HO5 := hid ho5; have HG5 := hid hg5; have HB5 := hid (below_step HB4.out hb5); have HBX5 := hid ((hb5.block b1 (heap_lt HBX4.out)).trans HBX4.out); have HE5 := hid (HE4.out.below hb5); clear hb5 ho5 hg5; have c1 := box1 HBX5.out; obtain ⟨N5, hN5⟩ : ∃ N, N = (blk (chBytes l)).length := ⟨_, rfl⟩; rw [← hN5] at HO5 ⊢; have HN5 := hid hN5; clear hN5)
          | fail)
        have hA6 := ba w5 (.cells #[.slice (some ⟨g5, 0, none⟩) N5 k5] 59)
        have HB6 := hid (below_step HB5.out hA6)
        have HE6 := hid (HE5.out.below hA6)
        have HBX6 := hid ((hA6.block b1 (heap_lt HBX5.out)).trans HBX5.out)
        have HBY6 := hid (heap_alloc_new w5 (.cells #[.slice (some ⟨g5, 0, none⟩) N5 k5] 59))
        have HO6 := hid (ownV_below HO5.out hA6)
        have HG6 : Hid (g5 < (w5.alloc (.cells #[.slice (some ⟨g5, 0, none⟩) N5 k5] 59)).heap.size) := hid (Nat.lt_of_lt_of_le HG5.out hA6.size)
        obtain ⟨b7, hb7⟩ : ∃ b, b = w5.heap.size := ⟨_, rfl⟩
        have HB7L : Hid (w.heap.size ≤ b7) := hid (by rw [hb7]; exact HB5.out.size)
        clear hA6 c1
        rw [← hb7] at HBY6 ⊢
        generalize w5.alloc (.cells #[.slice (some ⟨g5, 0, none⟩) N5 k5] 59) = w6 at *
        clear hb7
        have c1 := box1 HBX6.out
        have hA7 := ba w6 (.cells #[.func (.func 81) #[] #[.pointer (some ⟨b1, 0, none⟩), .pointer (some ⟨b7, 0, none⟩)]] 42)
        have HB7 := hid (below_step HB6.out hA7)
        have HE7 := hid (HE6.out.below hA7)
        have HBX7 := hid ((hA7.block b1 (heap_lt HBX6.out)).trans HBX6.out)
        have HBY7 := hid ((hA7.block b7 (heap_lt HBY6.out)).trans HBY6.out)
        have HO7 := hid (ownV_below HO6.out hA7)
        have HG7 := hid (Nat.lt_of_lt_of_le HG6.out hA7.size)
        have HF7 := hid (box1 (heap_alloc_new w6 (.cells #[.func (.func 81) #[] #[.pointer (some ⟨b1, 0, none⟩), .pointer (some ⟨b7, 0, none⟩)]] 42)))
        have HNF : Hid (¬ fpD dp mb L b1 ∧ ¬ fpD dp mb L b7) := hid (by
          constructor
          · intro h
            have := HE.out.dk.lt b1 h
            have := HB1E.out
            omega
          · intro h
            have := HE.out.dk.lt b7 h
            have := HB7L.out
            omega)
        have HCALL := act81 b1 b7 sp s.head.log g5 N5 k5 (blk (chBytes l)) _ HBX7.out HBY7.out HE7.out.st.cells HE7.out.dk HE7.out.ok HN5.out (own_bytesAt HO7.out) HG7.out (Nat.le_trans HLEN.out.1 (by decide)) hlg HE7.out.g HNF.out.1 HNF.out.2 HE7.out.sp_nd
        rw [← HQ.out] at HCALL
        obtain ⟨er, d'⟩ := q
        have HOK : Hid d'.Ok := hid (by
          have h1 := append_ok8 HE.out.ok (nLog s.head.log) (blk (chBytes l))
          rw [← HQ.out] at h1
          exact h1)
        dsimp only at HG
        have HA := hid (acts1_any 81 #[.pointer (some ⟨b1, 0, none⟩), .pointer (some ⟨b7, 0, none⟩)] w6.heap.size 1 er _ enters81 HF7.out HE7.out.st.cells HE7.out.sp_nd HCALL)
        clear HCALL hA7 hlg
        have hmf : ∀ (fn : Fn) (first cap : Array Value) (w : World), (Instr.makeFunc fn first cap).run Tryz.prog w = .ok (.func fn first cap) w := fun _ _ _ _ => rfl
        by_cases he0 : er = 0
        · subst he0
          have HG2 : Hid (g = (0, { s.fail 0 with mem := s.mem.apply l }, d')) := hid (by rw [HG.out]; rfl)
          clear HG
          go_wp2_with (first
            | (go_at_call 80; refine HA.out.mono ?_; rintro e w8 ⟨rfl, hc8, ha8⟩
               have HD8 := hid (Does.after HB7.out (HE7.out.acted (s' := s.fail 0) ha8 HOK.out rfl rfl rfl rfl hc8) HE.out.lt)
               have HBX8 : Hid (w8.heap[b1]? = some (.cells #[.pointer (some ⟨sp, 0, none⟩)] 33)) := hid (by
                 obtain ⟨L8, -, hch8, -⟩ := ha8
                 refine (hch8.block b1 (heap_lt HBX7.out) ?_).trans HBX7.out
                 rintro (e | e)
                 · have h1 := heap_lt HE.out.st.cells
                   have h2 := HB1E.out
                   omega
                 · exact HNF.out.1 e)
               obtain ⟨tb8, L8, rv8, qv8, R8, hD8⟩ := HD8.out
               have HDD := hid hD8
               have HV8 : Hid (IsCh w8 (.slice p n c) l) := hid (HV.out.keep fun k hk hlt => hD8.chg.block k hlt (HVB.out k hk).2)
               have HAP := hid (apply_any tb8 s.mem (.slice p n c) l w8 hD8.env.st.mem HV8.out (Nat.le_trans hD8.env.sm.mem (by decide)))
               obtain ⟨-, -, -, -, -, -, e6, -⟩ := stc_of hD8.env.st.cells
               clear hc8 ha8 hD8 c1
               have c1 := box1 HBX8.out)
            | (go_at_call 71; refine HAP.out.mono ?_; rintro e w9 ⟨rfl, hm9, hc9⟩; have HM9 := hid hm9; have HC9 := hid hc9; clear hm9 hc9)
            | fail)
          go_ret
          rw [HG2.out]
          refine ⟨rfl, HDD.out.trans ⟨tb8, L8, rv8, qv8, R8, HDD.out.env.setMem HM9.out HC9.out ?_, HC9.out.mono fun k e => .inl (.inr (.inl e)), New.refl, fun k hk => .inl hk⟩⟩
          have h1 := tab_apply_len l s.mem
          have h2 := HML.out
          have h3 := HN.out
          omega
        · have hz2 : ((er : Int) == 0) = false := by simp; omega
          have HG2 : Hid (g = (er, s.fail er, d')) := hid (by rw [HG.out, if_pos he0])
          clear HG he0
          go_wp2_with (first
            | (go_at_call 80; refine HA.out.mono ?_; rintro e w8 ⟨rfl, hc8, ha8⟩
               have HD8 := hid (Does.after HB7.out (HE7.out.acted (s' := s.fail er) ha8 HOK.out rfl rfl rfl rfl hc8) HE.out.lt)
               clear hc8 ha8)
            | fail)
          go_ret
          rw [HG2.out]
          exact ⟨rfl, HD8.out⟩
end
end Go.Proofs.YtpenleogafdbhaaGreatDoor

namespace Go.Proofs.YtpenleogafdbhaaGreatDoor
open Go.RowKit Go.Maps Go.ChangeMaps Go.WideElems Go.WideShapes Go.WideAt Go.WideMaps
theorem logOf_drop {gs : List (List Ch)} {k : Nat} {g : List Ch} (h : gs[k]? = some g) : logOf (gs.drop k) = blk (chBytes g) ++ logOf (gs.drop (k + 1)) := by
  obtain ⟨hk, he⟩ := List.getElem?_eq_some_iff.1 h
  unfold logOf
  rw [List.drop_eq_getElem_cons hk, List.flatMap_cons, he]
theorem fold_len : ∀ (gs : List (List Ch)) (t : Tab), (gs.foldl Tab.apply t).length ≤ t.length + gs.flatten.length
  | [], t => by simp
  | g :: r, t => by
    have h1 := fold_len r (t.apply g)
    have h2 := tab_apply_len g t
    rw [List.foldl_cons, List.flatten_cons, List.length_append]
    omega
theorem fold_take {gs : List (List Ch)} {k : Nat} {g : List Ch} (h : gs[k]? = some g) : (gs.take (k + 1)).foldl Tab.apply [] = ((gs.take k).foldl Tab.apply []).apply g := by
  rw [List.take_add_one, h]
  simp [List.foldl_append]
theorem take_flat (gs : List (List Ch)) (k : Nat) : (gs.take k).flatten.length ≤ gs.flatten.length := by
  conv => rhs; rw [← List.take_append_drop k gs]
  rw [List.flatten_append, List.length_append]
  omega
theorem log_drop_len (gs : List (List Ch)) (k : Nat) : (logOf (gs.drop k)).length ≤ (logOf gs).length := by
  unfold logOf
  conv => rhs; rw [← List.take_append_drop k gs]
  rw [List.flatMap_append, List.length_append]
  omega
theorem enters20 : ∀ args w, (callFunc 20 args).run Tryz.prog w = .ok (.enter 20 args) w := enters_of Tryz.func20 (by kernel_rfl) rfl
theorem enters64 : ∀ args w, (callFunc 64 args).run Tryz.prog w = .ok (.enter 64 args) w := enters_of Tryz.func64 (by kernel_rfl) rfl
def s00 : St := ⟨0, false, ⟨0, [], 1⟩, [], [], [], 0⟩
def opn0 (d : Dk) (gs : List (List Ch)) : St := ⟨d.opened + 1, false, ⟨0, [], 1⟩, gs.foldl Tab.apply [], [], [], 0⟩
def Dk.op (d : Dk) : Dk := { d with opened := d.opened + 1 }
theorem isV_none (w : World) : IsV w (.slice none 0 0) [] := ⟨none, 0, rfl, Nat.zero_le _, fun i hi => absurd hi (Nat.not_lt_zero i)⟩
section
variable {w : World} {dp mb : Nat} {L : Mp FileR} {d : Dk}
theorem env_fresh (h : DiskM w dp mb L d) (ok : d.Ok) (hG : Glb w) (lo : ∀ k, fpD dp mb L k → 4 ≤ k) (w3 : World)
    (hw : w3 = ((w.alloc (.map #[] 0)).alloc (.map #[] 0)).alloc (.cells (stc dp 0 false (.int .i64 0) (.slice none 0 0) (.int .i64 1) (.map (some w.heap.size)) (.slice none 0 0) (.map (some (w.heap.size + 1))) (.int .i64 0)) 109)) :
    Env w3 (w.heap.size + 2) dp mb w.heap.size (w.heap.size + 1) L (.slice none 0 0) (.slice none 0 0) [] [] s00 d ∧ Below w.heap.size w w3 := by
  have z1 : (w.alloc (.map #[] 0)).heap.size = w.heap.size + 1 := alloc_sz _ _
  have z2 : ((w.alloc (.map #[] 0)).alloc (.map #[] 0)).heap.size = w.heap.size + 2 := by rw [alloc_sz, z1]
  have b1 : Below w.heap.size w (w.alloc (.map #[] 0)) := ba _ _
  have b2 : Below (w.heap.size + 1) (w.alloc (.map #[] 0)) ((w.alloc (.map #[] 0)).alloc (.map #[] 0)) := z1 ▸ ba (w.alloc (.map #[] 0)) (.map #[] 0)
  have b3 : Below (w.heap.size + 2) ((w.alloc (.map #[] 0)).alloc (.map #[] 0)) w3 := by rw [hw, ← z2]; exact ba _ _
  have hb : Below w.heap.size w w3 := b1.trans ((b2.trans (b3.mono (by omega))).mono (by omega))
  have hsp : w3.heap[w.heap.size + 2]? = some (.cells (stc dp 0 false (.int .i64 0) (.slice none 0 0) (.int .i64 1) (.map (some w.heap.size)) (.slice none 0 0) (.map (some (w.heap.size + 1))) (.int .i64 0)) 109) := by rw [hw, ← z2]; exact heap_alloc_new _ _
  have hm : MapM Tryz.prog 9 w3 w.heap.size [] := ((mapM_made w Tryz.prog 9).block (b2.block _ (by omega))).block (b3.block _ (by omega))
  have hv : MapI Tryz.prog 3 w3 (w.heap.size + 1) [] := by
    have := mapI_made (w.alloc (.map #[] 0)) Tryz.prog 3
    rw [z1] at this
    exact this.block (b3.block _ (by omega))
  have hlt := h.lt
  have hg3 := hG.size
  refine ⟨⟨⟨hsp, hm, isV_none _, isV_none _, fun p hp => (by cases hp), rfl, hv, fun p hp => (by cases hp), rfl, by omega, fun p hp => (by cases hp), fun p hp => (by cases hp), fun k hk => (by cases hk), fun k hk => (by cases hk)⟩, h.below hb, ⟨?_, ?_, fun p hp => (by cases hp), fun p hp => (by cases hp)⟩, ok, hG.below hb, ?_, ⟨Nat.zero_le _, fun p hp => (by cases hp), Nat.zero_le _⟩, ⟨by decide, by decide, fun r hr => (by cases hr)⟩⟩, hb⟩
  · have := hlt mb (.inr (.inl rfl)); omega
  · have := hlt mb (.inr (.inl rfl)); omega
  · rintro k ((rfl | rfl | rfl) | hk)
    · omega
    · omega
    · omega
    · exact lo k hk
/-- the disk is opened once more -/
theorem env_op {sp tb vb : Nat} {rv qv : Value} {R : List (Nat × Tab)} {V : Mi (Nat × Tab)} {s : St} (E : Env w sp dp mb tb vb L rv qv R V s d) (ho : d.opened + 1 < 1000000000) (w' w'' : World)
    (h1 : w' = w.setCell ⟨dp, 4, none⟩ (.int .i64 ((d.opened + 1 : Nat) : Int))) (h2 : w'' = w'.setCell ⟨sp, 1, none⟩ (.int .i64 ((d.opened + 1 : Nat) : Int))) :
    Env w'' sp dp mb tb vb L rv qv R V { s with turn := d.opened + 1 } d.op ∧ Chg (foot sp dp mb tb vb L) w w'' := by
  have c1 : Chg (fun k => k = dp) w w' := by rw [h1]; exact chg_set rfl
  have hd1 : w'.heap[dp]? = some (.cells #[.bool true, .map (some mb), .bool d.down, .int .i64 (d.left : Int), .int .i64 ((d.opened + 1 : Nat) : Int)] 51) := by
    rw [h1, modify_at E.dk.cells]
    rfl
  have hdk : DiskM w' dp mb L d.op := E.dk.scal (d' := d.op) rfl hd1 fun k hk hne => c1.block k hk hne
  have hst : StM w' sp dp tb vb rv qv R V s := E.st.disk E.dk E.sd (c1.mono fun k e => .inl e)
  have c2 : Chg (fun k => k = sp) w' w'' := by rw [h2]; exact chg_set rfl
  have hs1 : w''.heap[sp]? = some (.cells (stc dp ((d.opened + 1 : Nat) : Int) s.broken (.int .i64 (s.head.log : Int)) rv (.int .i64 (s.head.next : Int)) (.map (some tb)) qv (.map (some vb)) (.int .i64 (s.next : Int))) 109) := by
    rw [h2, modify_at hst.cells]
    rfl
  have hst2 : StM w'' sp dp tb vb rv qv R V { s with turn := d.opened + 1 } := hst.scal rfl rfl rfl rfl hs1 fun k hk hne _ => c2.block k hk hne
  have hdk2 : DiskM w'' dp mb L d.op := hdk.store hst E.sd (c2.mono fun k e => .inl e)
  have hc : Chg (foot sp dp mb tb vb L) w w'' := (c1.mono fun k e => .inr (.inl e)).trans0 (c2.mono fun k e => .inl (.inl e))
  exact ⟨⟨hst2, hdk2, E.sd, ⟨E.ok.srt, E.ok.few, E.ok.size, E.ok.left, ho, E.ok.safe, E.ok.name⟩, E.g.chg hc E.lo, E.lo, ⟨E.sm.mem, E.sm.run, E.sm.runs⟩, ⟨E.num.log, E.num.next, E.num.runs⟩⟩, hc⟩
end
set_option maxRecDepth 100000 in
set_option maxHeartbeats 1000000 in
/-- the first log is a file of the store -/
theorem open1_any (w : World) (hG : Glb w) : Calls Tryz.prog 64 #[.string (str (nLog 0))] w fun e w' => e = .returned (.bool false) ∧ Below w.heap.size w w' := by
  have HK := hid (known_num (nLog 0) 0 (by decide) (.inl rfl) w hG)
  generalize str (nLog 0) = sx at *
  go_enter Tryz.func64, Tryz.ntmps64
  go_wp2_with (first | (go_at_call 65; refine HK.out.mono ?_; rintro e w1 ⟨rfl, hb⟩; have HB := hid hb; clear hb) | fail)
  go_ret
  exact ⟨rfl, HB.out⟩
end Go.Proofs.YtpenleogafdbhaaGreatDoor

namespace Go.Proofs.YtpenleogafdbhaaGreatDoor
open Go.RowKit Go.Maps Go.ChangeMaps Go.WideElems Go.WideShapes Go.WideAt Go.WideMaps
/-- bytes stand where a map is turned -/
theorem IsB.turned {w w' : World} {v : Value} {bs : Bs} {b : Nat} (h : IsB w v bs) (hm : ∃ es c, w.heap[b]? = some (.map es c)) (hc : Chg (fun k => k = b) w w') : IsB w' v bs := by
  obtain ⟨p, c, rfl, hle, h⟩ := h
  refine ⟨p, c, rfl, hle, fun hne => ?_⟩
  obtain ⟨g, off, rfl, hcell⟩ := h hne
  have h0 := hcell 0 (List.length_pos_iff.2 hne)
  have hg : g ≠ b := fun e => by
    obtain ⟨es, cl, hm⟩ := hm
    rw [e] at h0
    simp only [World.cell?, hm] at h0
    cases h0
  exact ⟨g, off, rfl, fun j hj => (cell_same (hc.block g (World.block_lt_of_cell? w _ h0) hg)).trans (hcell j hj)⟩
theorem nLog0_len : (nLog 0).length ≤ 1000 := by
  have := itoa_len (n := 0) (by decide)
  unfold nLog
  simp
  omega
theorem bytes_size {d : Dk} (ok : d.Ok) (s : Bs) : (d.bytes s).length ≤ 262144 := by
  unfold Dk.bytes
  cases hq : mget s d.files with
  | none => exact Nat.zero_le _
  | some f =>
    have h1 : f.data.length ∈ d.files.map (fun p => p.2.data.length) := List.mem_map.2 ⟨(s, f), mget_mem hq, rfl⟩
    have h2 : ∀ (l : List Nat) (x : Nat), x ∈ l → x ≤ l.sum := fun l => by
      induction l with
      | nil => intro x hx; cases hx
      | cons a r ih =>
        intro x hx
        rw [List.sum_cons]
        rcases List.mem_cons.1 hx with rfl | hx
        · omega
        · have := ih x hx; omega
    exact Nat.le_trans (h2 _ _ h1) ok.size
section
variable {w : World} {dp mb : Nat} {L : Mp FileR} {d : Dk}
theorem chg_down {w7 w9 : World} {sp tb vb : Nat} (hb : Below w.heap.size w w7) (c : Chg (foot sp dp mb tb vb L) w7 w9) (hn : w.heap.size ≤ sp ∧ w.heap.size ≤ tb ∧ w.heap.size ≤ vb) : Chg (fpD dp mb L) w w9 :=
  ⟨c.os.trans hb.os, c.tape.trans hb.tape, c.output.trans hb.output, Nat.le_trans hb.size c.size, fun k hk hf => (c.block k (Nat.lt_of_lt_of_le hk hb.size) (by
    rintro ((rfl | rfl | rfl) | h)
    · omega
    · omega
    · omega
    · exact hf h)).trans (hb.block k hk)⟩
set_option maxRecDepth 100000 in
set_option maxHeartbeats 8000000 in
theorem open0_any (h : DiskM w dp mb L d) (ok : d.Ok) (hG : Glb w) (lo : ∀ k, fpD dp mb L k → 4 ≤ k) (up : d.down = false) (ho : d.opened + 1 < 1000000000) (gs : List (List Ch)) (hn : ∀ x ∈ d.names, x = nLog 0) (hlog : d.bytes (nLog 0) = logOf gs)
    (hg : ∀ g ∈ gs, g ≠ [] ∧ g.length ≤ 1000 ∧ ∀ c ∈ g, okCh c) (hgn : gs.flatten.length ≤ 2000) :
    Calls Tryz.prog 16 #[.pointer (some ⟨dp, 0, none⟩)] w fun e w' => ∃ sp, e = .returned (.tuple #[if ((opn0 d gs).sync d.op).1 = 0 then .pointer (some ⟨sp, 0, none⟩) else .pointer none, .int .i64 (((opn0 d gs).sync d.op).1 : Int)]) ∧
      ∃ tb vb L' rv qv R, Env w' sp dp mb tb vb L' rv qv R [] ((opn0 d gs).sync d.op).2.1 ((opn0 d gs).sync d.op).2.2 ∧ Chg (fpD dp mb L) w w' ∧ (∀ k, foot sp dp mb tb vb L' k → fpD dp mb L k ∨ w.heap.size ≤ k) ∧ ∀ k, rdS rv qv R [] k → fpD dp mb L k ∨ w.heap.size ≤ k := by
  obtain ⟨r, hr⟩ : ∃ r, r = (opn0 d gs).sync d.op := ⟨_, rfl⟩
  rw [← hr]
  have HRR := hid hr
  have HI := hid (is_any h)
  obtain ⟨e0, e1, e2, e3, e4⟩ := cells5_of h.cells
  rw [up] at e2
  have HH := hid h
  have HEF := hid (env_fresh h ok hG lo)
  have HN := hid hn
  have HLOG := hid hlog
  have HGG := hid hg
  have HGN := hid hgn
  have HOP := hid ho
  have hmm := @run_makeMap Tryz.prog
  have HLT := hid h.lt
  clear hr h ok hG lo up hn hlog hg hgn
  go_enter Tryz.func16, Tryz.ntmps16
  go_upto_region 6 with (first | (go_at_call 62; refine HI.out.mono ?_; rintro e w1 ⟨rfl, hw⟩; obtain rfl := hw.symm; clear hw) | fail)
  generalize hw3 : ((w.alloc (.map #[] 0)).alloc (.map #[] 0)).alloc (.cells #[.pointer (some ⟨dp, 0, none⟩), .int .i64 0, .bool false, .int .i64 0, .slice none 0 0, .int .i64 1, .map (some w.heap.size), .slice none 0 0, .map (some (w.heap.size + 1)), .int .i64 0] 109) = w3
  have HE3 := hid (HEF.out w3 hw3.symm).1
  have HB3 := hid (HEF.out w3 hw3.symm).2
  clear hw3 HEF e0 e1 e2 e3 e4
  obtain ⟨sp, hsp⟩ : ∃ sp, sp = w.heap.size + 1 + 1 := ⟨_, rfl⟩
  obtain ⟨vb, hvb⟩ : ∃ vb, vb = w.heap.size + 1 := ⟨_, rfl⟩
  obtain ⟨tb, htb⟩ : ∃ tb, tb = w.heap.size := ⟨_, rfl⟩
  have HNEW : Hid (w.heap.size ≤ sp ∧ w.heap.size ≤ tb ∧ w.heap.size ≤ vb) := hid (by omega)
  rw [show w.heap.size + 2 = sp from hsp.symm, ← hvb, ← htb] at HE3
  rw [← hsp, ← hvb, ← htb]
  clear hsp hvb htb
  have HFI := hid (files_any dp mb L d w3 HE3.out.dk HE3.out.ok)
  have HNMS : Hid (∀ W : World, Glb W → PredS 64 #[] (fun _ => false) (d.names.map str) W) := hid fun W hW W2 sx hb hx => by
    obtain ⟨x, hx1, rfl⟩ := List.mem_map.1 hx
    rw [HN.out x hx1]
    refine (open1_any W2 (hW.below hb)).mono ?_
    rintro e w' ⟨rfl, h2⟩
    exact ⟨rfl, below_step hb h2⟩
  have hany : (d.names.map str).any (fun _ => false) = false := by simp
  have HANY := hid hany
  clear hany
  have HNH : Hid (mget nHead (mmap FileR.ptr L) = none) := hid (by
    rw [mget_mmap]
    cases hq : mget nHead L with
    | none => rfl
    | some r =>
      exfalso
      have h1 : nHead ∈ d.names := by
        unfold Dk.names
        rw [HE3.out.dk.files]
        exact List.mem_map.2 ⟨(nHead, r.f), List.mem_map.2 ⟨(nHead, r), mget_mem hq, rfl⟩, rfl⟩
      exact absurd (HN.out _ h1) (by decide))
  have HNL : Hid (d.names.length ≤ 60) := hid (by
    unfold Dk.names
    rw [List.length_map]
    exact HE3.out.ok.few)
  go_upto_region 15 with (first
    | (go_at_call 58; refine HFI.out.mono ?_; rintro e w4 ⟨v4, rfl, ho4, hb4⟩
       have HO4 := hid ho4
       have HE4 := hid (HE3.out.below hb4)
       have HB4 := hid (below_step HB3.out hb4)
       have HCT := hid (containsS_any 64 #[] (fun _ => false) v4 (d.names.map str) w4 enters64 (by rw [List.map_map]; exact ownV_isV ho4 (by rw [List.length_map]; exact Nat.le_trans HNL.out (by decide))) (HNMS.out w4 HE4.out.g) (by rw [List.length_map]; exact Nat.le_trans HNL.out (by decide)))
       rw [HANY.out] at HCT
       clear ho4 hb4)
    | (go_at_call 63; refine HCT.out.mono ?_; rintro e w5 ⟨rfl, hb5⟩
       have HO5 := hid (ownV_below HO4.out hb5)
       have HE5 := hid (HE4.out.below hb5)
       have HB5 := hid (below_step HB4.out hb5)
       obtain ⟨-, d1, -⟩ := cells5_of HE5.out.dk.cells
       have hlk : (Instr.lookup 49 (.map (some mb)) (.string ⟨#[104, 101, 97, 100]⟩) true).run Tryz.prog w5 = .ok (.tuple #[.pointer none, .bool false]) w5 := by
         have h := HE5.out.dk.map.look_ok (t := 49) (e := 118) Tryz.underlying9 Tryz.underlying49 (zero118 w5) (s := ⟨#[104, 101, 97, 100]⟩) (by decide)
         rw [show (⟨#[104, 101, 97, 100]⟩ : ByteArray).data.toList = nHead from rfl, HNH.out] at h
         exact h
       clear hb5)
    | fail)
  obtain ⟨va, vc, rfl⟩ := ownV_slice HO5.out
  obtain ⟨nn, hnn⟩ : ∃ n, n = (d.names.map fun s => Value.string (str s)).length := ⟨_, rfl⟩
  have HNN := hid hnn
  rw [← hnn] at HO5 ⊢
  clear HO4 HCT HFI hnn
  have hz3 : w5.cell? ⟨sp, 3, none⟩ = some (.int .i64 0) := (stc_of HE5.out.st.cells).2.2.2.1
  have LG0 : Calls Tryz.prog 67 #[.int .i64 0] w5 fun e w' => e = .returned (.string (str (nLog 0))) ∧ Below w5.heap.size w5 w' := logFile_any 0 w5 (by decide) HE5.out.g
  have HLG := hid LG0
  clear LG0 d1 hlk
  go_upto_region 16 with (first
    | (go_at_call 67; refine HLG.out.mono ?_; rintro e w6 ⟨rfl, hb6⟩
       have HO6 := hid (ownV_below HO5.out hb6)
       have HE6 := hid (HE5.out.below hb6)
       have HB6 := hid (below_step HB5.out hb6)
       clear hb6)
    | fail)
  have hA7 := ba w6 (.cells #[.string ⟨#[104, 101, 97, 100]⟩, .string (str (nLog 0))] 9)
  have HK7 : Hid (OwnV (w6.alloc (.cells #[.string ⟨#[104, 101, 97, 100]⟩, .string (str (nLog 0))] 9)) w6.heap.size 9 (.slice (some ⟨w6.heap.size, 0, none⟩) 2 2) ([nHead, nLog 0].map sv)) := hid (ownV_built w6 9 ([nHead, nLog 0].map sv) (by intro x hx; simp [sv] at hx; rcases hx with rfl | rfl <;> rfl) (by decide) _ (Nat.le_refl _))
  have HO7 := hid (ownV_below HO6.out hA7)
  have HE7 := hid (HE6.out.below hA7)
  have HB7 := hid (below_step HB6.out hA7)
  obtain ⟨kb, hkb⟩ : ∃ b, b = w6.heap.size := ⟨_, rfl⟩
  rw [← hkb] at HK7 ⊢
  have HKE := hid hkb
  have HKB : Hid (w.heap.size ≤ kb) := hid (by rw [hkb]; exact HB6.out.size)
  clear hkb hA7 hz3
  generalize w6.alloc (.cells #[.string ⟨#[104, 101, 97, 100]⟩, .string (str (nLog 0))] 9) = w7 at *
  have hz4 : w7.cell? ⟨sp, 4, none⟩ = some (.slice none 0 0) := (stc_of HE7.out.st.cells).2.2.2.2.1
  go_wp2_with fail
  go_loop [10, 85] (fun k10 kv => k10 = .slice (some ⟨kb, 0, none⟩) 2 2 ∧ kv = .int .i64 0) (fun _ _ => 0)
  case atStart => exact ⟨rfl, rfl⟩
  case round =>
    obtain ⟨rfl, rfl⟩ := hrel
    obtain ⟨op, hop⟩ : ∃ n, n = d.opened := ⟨_, rfl⟩
    have HOPE := hid hop
    obtain ⟨-, -, -, -, d4⟩ := cells5_of HE7.out.dk.cells
    rw [← hop] at d4
    have hop9 : op + 1 < 1000000000 := by rw [hop]; exact HOP.out
    have hf4 := free_of HE7.out.dk.cells 4
    clear hop hz4
    go_upto_region 29 with fail
    generalize hw8 : w7.setCell ⟨dp, 4, none⟩ (.int .i64 ((op : Int) + 1)) = w8
    have HW8 : Hid (w8 = w7.setCell ⟨dp, 4, none⟩ (.int .i64 ((d.opened + 1 : Nat) : Int))) := hid (by rw [← hw8, ← HOPE.out]; rfl)
    have hd8 : w8.heap[dp]? = some (.cells #[.bool true, .map (some mb), .bool d.down, .int .i64 (d.left : Int), .int .i64 ((op : Int) + 1)] 51) := by
      rw [← hw8, modify_at HE7.out.dk.cells]
      rfl
    have hs8 : w8.heap[sp]? = w7.heap[sp]? := by
      rw [← hw8]
      exact set_other fun e => HE7.out.sp_nd (.inl e)
    have d4' := (cells5_of hd8).2.2.2.2
    have hs1 := (stc_of (hs8.trans HE7.out.st.cells)).2.1
    have hf1 : w8.frozen? ⟨sp, 1, none⟩ = false := free_of (hs8.trans HE7.out.st.cells) 1
    clear hw8 hd8 hs8 d4 hf4
    go_upto_region 30 with fail
    generalize hw9 : w8.setCell ⟨sp, 1, none⟩ (.int .i64 ((op : Int) + 1)) = w9
    have HE9 := env_op HE7.out HOP.out w8 w9 HW8.out (by rw [← hw9, ← HOPE.out]; rfl)
    have HC9 := hid HE9.2
    replace HE9 := hid HE9.1
    have HCW := hid (chg_down HB7.out HC9.out HNEW.out)
    have HO9 : Hid (OwnV w9 w3.heap.size 9 (.slice va nn vc) (d.names.map fun s => .string (str s))) := hid (ownV_keep HO7.out fun k hk => HC9.out.block k (ownV_lt HO7.out k hk).2 fun hf => Nat.not_le.2 (HE3.out.lt k hf) (ownV_lt HO7.out k hk).1)
    have HK9 : Hid (OwnV w9 kb 9 (.slice (some ⟨kb, 0, none⟩) 2 2) ([nHead, nLog 0].map sv)) := hid (ownV_keep HK7.out fun k hk => HC9.out.block k (ownV_lt HK7.out k hk).2 fun hf => Nat.not_le.2 (HE6.out.lt k hf) (HKE.out ▸ (ownV_lt HK7.out k hk).1))
    clear hw9 HW8 d4' hf1 hs1 hop9
    have HIV := hid (ownV_isV HO9.out (by rw [List.length_map]; exact Nat.le_trans HNL.out (by decide)))
    have hnn60 : nn ≤ 60 := by rw [HNN.out, List.length_map]; exact HNL.out
    go_wp2_with fail
    go_loopw [150] (fun kv wr => ∃ k : Nat, kv = .int .i64 (k : Int) ∧ k ≤ nn ∧ Hid (Below w9.heap.size w9 wr)) (fun kv _ => nn - (intOf kv).toNat)
    case atStart => exact ⟨0, rfl, Nat.zero_le _, Below.refl _ _⟩
    case round =>
      obtain ⟨k, rfl, hk, HBR⟩ := hrel
      rename World => wr
      by_cases hlt : k < nn
      · obtain ⟨G, hG0, -, e0⟩ := isV_at (isV_below HIV.out HBR.out) k (by rw [← HNN.out]; exact hlt)
        subst hG0
        have e1 : wr.cell? ⟨G, k, none⟩ = some (.string (str (nLog 0))) := by
          rw [e0, List.getD_eq_getElem?_getD, List.getElem?_map]
          have hk2 : k < d.names.length := by have := HNN.out; rw [List.length_map] at this; omega
          rw [List.getElem?_eq_getElem hk2, HN.out _ (List.getElem_mem hk2)]
          rfl
        have CT := contains_any (.slice (some ⟨kb, 0, none⟩) 2 2) [nHead, nLog 0] (nLog 0) _ wr (ownV_below HK9.out HBR.out) (by decide)
        rw [show [nHead, nLog 0].contains (nLog 0) = true from List.contains_iff_mem.2 (by simp)] at CT
        unfold sv at CT
        have HCT := hid CT
        clear CT e0
        go_wp2_with (first | (go_at_call 72; refine HCT.out.mono ?_; rintro e w10 ⟨rfl, hw⟩; obtain rfl := hw.symm; clear hw) | fail)
        go_roundw
        case rel => exact ⟨k + 1, by go_num, by omega, HBR⟩
        case measure => simp [intOf]; omega
      · obtain rfl : k = nn := by omega
        clear hk hlt HIV HK9 HO9 HK7 HO7 HNN hnn60
        have HE10 : Hid (Env wr sp dp mb tb vb L (.slice none 0 0) (.slice none 0 0) [] [] (opn0 d []) d.op) := hid (HE9.out.below HBR.out)
        have HC10 := hid (HCW.out.trans0 (chg_below HBR.out))
        have hz3 : wr.cell? ⟨sp, 3, none⟩ = some (.int .i64 0) := (stc_of HE10.out.st.cells).2.2.2.1
        have LG0 : Calls Tryz.prog 67 #[.int .i64 0] wr fun e w' => e = .returned (.string (str (nLog 0))) ∧ Below wr.heap.size wr w' := logFile_any 0 wr (by decide) HE10.out.g
        have HLG := hid LG0
        clear LG0 HBR
        go_upto_region 39 with (first
          | (go_at_call 67; refine HLG.out.mono ?_; rintro e w11 ⟨rfl, hb11⟩
             have HE11 := hid (HE10.out.below hb11)
             have HC11 := hid (HC10.out.trans0 (chg_below hb11))
             have HBY := bytes_any dp mb L d.op (str (nLog 0)) w11 HE11.out.dk HE11.out.ok (str_le nLog0_len)
             rw [str_list, show d.op.bytes (nLog 0) = logOf gs from HLOG.out] at HBY
             replace HBY := hid HBY
             clear hb11)
          | (go_at_call 59; refine HBY.out.mono ?_; rintro e w12 ⟨v12, rfl, ho12, hb12⟩
             have HE12 := hid (HE11.out.below hb12)
             have HC12 := hid (HC11.out.trans0 (chg_below hb12))
             have HIB := hid (IsB.own ho12)
             clear ho12 hb12)
          | fail)
        have HLL : Hid ((logOf gs).length ≤ 262144) := hid (by
          rw [← HLOG.out]
          exact bytes_size HE3.out.ok _)
        obtain ⟨pa, pc, rfl, -⟩ := HIB.out.sh
        obtain ⟨ng, hng⟩ : ∃ n, n = gs.length := ⟨_, rfl⟩
        have HNG := hid hng
        obtain ⟨nl, hnl⟩ : ∃ n, n = (logOf gs).length := ⟨_, rfl⟩
        have HNL2 := hid hnl
        rw [← hnl] at HIB ⊢
        clear hng hnl
        go_loopw [22] (fun v wz => ∃ (k : Nat) (p : Option Addr) (m c : Nat), v = .slice p m c ∧ k ≤ ng ∧ Hid (m = (logOf (gs.drop k)).length) ∧ Hid (IsB wz (.slice p m c) (logOf (gs.drop k))) ∧ Hid (Env wz sp dp mb tb vb L (.slice none 0 0) (.slice none 0 0) [] [] (opn0 d (gs.take k)) d.op) ∧ Hid (Chg (fpD dp mb L) w wz)) (fun v _ => lenOf v)
        case atStart => exact ⟨0, pa, nl, pc, rfl, Nat.zero_le _, HNL2, HIB, HE12, HC12⟩
        case round =>
          obtain ⟨k, p, m, c, rfl, hk, HM, HB, HEk, HCk⟩ := hrel
          rename World => wz
          by_cases hlt : k < ng
          · have hkl : k < gs.length := by rw [← HNG.out]; exact hlt
            obtain ⟨g, hgk⟩ : ∃ g, gs[k]? = some g := ⟨_, List.getElem?_eq_getElem hkl⟩
            have HX := hid hgk
            have HGk := hid (HGG.out g (List.mem_of_getElem? hgk))
            have hdr := logOf_drop hgk
            have hdl := log_drop_len gs k
            rw [hdr, List.length_append, blk_len] at hdl
            have hll := HLL.out
            have hcg : 0 < (chBytes g).length := by
              cases g with
              | nil => exact absurd rfl HGk.out.1
              | cons x r => unfold chBytes Ch.bytes; simp
            have HU := hid (unblock_ok (.slice p m c) (chBytes g) (logOf (gs.drop (k + 1))) wz (hdr ▸ HB.out) hcg (by omega) (by omega))
            have HLN : Hid ((chBytes g).length ≤ 262144 ∧ 0 < (chBytes g).length ∧ (logOf (gs.drop (k + 1))).length < m) := hid (by
              refine ⟨by omega, hcg, ?_⟩
              rw [HM.out, hdr, List.length_append, blk_len]
              omega)
            have HT : Hid ((opn0 d (gs.take k)).mem.apply g = (opn0 d (gs.take (k + 1))).mem ∧ (opn0 d (gs.take (k + 1))).mem.length ≤ 2000) := hid (by
              have h1 := fold_len (gs.take (k + 1)) []
              have h2 := take_flat gs (k + 1)
              have h3 := HGN.out
              exact ⟨(fold_take hgk).symm, by show (List.foldl Tab.apply [] (gs.take (k + 1))).length ≤ 2000; rw [List.length_nil] at h1; omega⟩)
            clear hkl hgk hdr hdl hll hcg
            go_wp2_with (first
              | (go_at_call 68; refine HU.out.mono ?_; rintro e w2 ⟨v1, v2, rfl, h1, h2, hb2⟩
                 have HE2 := hid (HEk.out.below hb2)
                 have HC2 := hid (HCk.out.trans0 (chg_below hb2))
                 have HV2 := hid h2
                 have HCO := hid (changesOf_any letters_ok v1 g w2 h1 (fun j hj => by
                   obtain ⟨p1, c1, rfl, -⟩ := h1.sh
                   obtain ⟨g1, o1, rfl, hc1⟩ := h1.at 0 HLN.out.2.1
                   cases hj
                   exact World.block_lt_of_cell? w2 _ hc1) (Nat.le_trans HLN.out.1 (by decide)) (Nat.le_trans HGk.out.2.1 (by decide)) HGk.out.2.2)
                 obtain ⟨p2, c2, rfl, -⟩ := h2.sh
                 clear h1 h2 hb2)
              | (go_at_call 70; refine HCO.out.mono ?_; rintro e w3 ⟨ov, rfl, hch, hb3⟩
                 have HE3' := hid (HE2.out.below hb3)
                 have HC3 := hid (HC2.out.trans0 (chg_below hb3))
                 have HV3 := hid (HV2.out.below hb3)
                 have HAP := hid (apply_any tb (opn0 d (gs.take k)).mem ov g w3 HE3'.out.st.mem hch (Nat.le_trans HE3'.out.sm.mem (by decide)))
                 obtain ⟨p3, c3, rfl, -⟩ := hch
                 obtain ⟨-, -, -, -, -, -, e6, -⟩ := stc_of HE3'.out.st.cells
                 clear hb3)
              | (go_at_call 71; refine HAP.out.mono ?_; rintro e w4 ⟨rfl, hm4, hc4⟩
                 rw [HT.out.1] at hm4
                 have HE4' := hid (HE3'.out.setMem hm4 hc4 HT.out.2)
                 have HV4 := hid (HV3.out.turned HE3'.out.st.mem.kind hc4)
                 have HC4 : Hid (Chg (fpD dp mb L) w w4) := hid (HC3.out.trans (hc4.mono (G := fun k => k = tb) fun k e => e) fun k hk => .inr (by have := HNEW.out; omega))
                 clear hm4 hc4)
              | fail)
            go_roundw
            case rel => exact ⟨k + 1, _, _, _, rfl, by omega, rfl, HV4, HE4', HC4⟩
            case measure => have := HLN.out; simp [lenOf]; omega
          · obtain rfl : k = ng := by omega
            have hdn : gs.drop k = [] := by rw [HNG.out]; exact List.drop_length
            have htk : gs.take k = gs := by rw [HNG.out]; exact List.take_length
            have hm0 := HM.out
            rw [hdn] at hm0 HB
            obtain rfl : m = 0 := hm0
            rw [htk] at HEk
            have HUN := hid (unblock_no (.slice p 0 c) [] wz HB.out (.inl (by decide)) (Nat.zero_le _))
            have HCN := hid (changesOf_any letters_ok (.slice none 0 0) [] wz (isB_nil wz none 0) (fun j hj => by cases hj) (by decide) (by decide) (fun x hx => by cases hx))
            have hmf : ∀ (fn : Fn) (first cap : Array Value) (w : World), (Instr.makeFunc fn first cap).run Tryz.prog w = .ok (.func fn first cap) w := fun _ _ _ _ => rfl
            clear hlt hk hdn htk
            go_upto_region 47 with (first
              | (go_at_call 68; refine HUN.out.mono ?_; rintro e w2 ⟨rfl, hw⟩; obtain rfl := hw.symm; clear hw)
              | (go_at_call 70; refine HCN.out.mono ?_; rintro e w3 ⟨ov, rfl, hch, hb3⟩
                 have HE3' := hid (HEk.out.below hb3)
                 have HC3 := hid (HCk.out.trans0 (chg_below hb3))
                 obtain ⟨p3, c3, rfl, -⟩ := hch
                 clear hb3)
              | fail)
            have HSY := syncS_any HE3'.out
            rw [← HRR.out] at HSY
            replace HSY := hid HSY
            clear HRR
            obtain ⟨er, s', d'⟩ := r
            dsimp only at HSY
            have HFT : Hid (∀ k, foot sp dp mb tb vb L k → fpD dp mb L k ∨ w.heap.size ≤ k) := hid (by
              have hn := HNEW.out
              rintro k ((rfl | rfl | rfl) | h)
              · exact .inr hn.1
              · exact .inr hn.2.1
              · exact .inr hn.2.2
              · exact .inl h)
            have eg := enters20
            have HEND : Hid (∀ w5, Does w3 w5 sp dp mb tb vb L (.slice none 0 0) (.slice none 0 0) [] [] s' d' → ∃ tb vb L' rv qv R, Env w5 sp dp mb tb vb L' rv qv R [] s' d' ∧ Chg (fpD dp mb L) w w5 ∧ (∀ k, foot sp dp mb tb vb L' k → fpD dp mb L k ∨ w.heap.size ≤ k) ∧ ∀ k, rdS rv qv R [] k → fpD dp mb L k ∨ w.heap.size ≤ k) := hid (by
              rintro w5 ⟨tb', L', rv', qv', R', D⟩
              refine ⟨tb', vb, L', rv', qv', R', D.env, HC3.out.trans D.chg HFT.out, fun k hk => ?_, fun k hk => ?_⟩
              · rcases D.new k hk with h | h
                · exact HFT.out k h
                · exact .inr (Nat.le_trans HC3.out.size h)
              · rcases D.rd k hk with h | h | h
                · rcases h with h | h | ⟨p, hp, -⟩ | ⟨p, hp, -⟩
                  · cases h
                  · cases h
                  · cases hp
                  · cases hp
                · exact HFT.out k h
                · exact .inr (Nat.le_trans HC3.out.size h))
            by_cases he0 : er = 0
            · subst he0
              go_wp2_with (first | (go_at_fn 20; refine HSY.out.mono ?_; rintro e w5 ⟨rfl, hdo⟩; have HDO := hid hdo; clear hdo) | fail)
              go_ret2
              exact ⟨sp, rfl, HEND.out _ HDO.out⟩
            · have hz2 : ((er : Int) == 0) = false := by simp; omega
              have HNE := hid he0
              clear he0
              go_wp2_with (first | (go_at_fn 20; refine HSY.out.mono ?_; rintro e w5 ⟨rfl, hdo⟩; have HDO := hid hdo; clear hdo) | fail)
              go_ret2
              exact ⟨rfl, sp, HEND.out _ HDO.out⟩
end
end Go.Proofs.YtpenleogafdbhaaGreatDoor
