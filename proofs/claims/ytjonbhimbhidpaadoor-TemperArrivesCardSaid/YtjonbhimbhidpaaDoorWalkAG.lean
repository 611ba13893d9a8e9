/-
  Walks over chapter 6: the reference's Reach.
-/
import Derived.Test.YtjonbhimbhidpaaDoorBaseX
import Derived.Test.YtjonbhimbhidpaaDoorPlainK
namespace Go.Proofs.YtjonbhimbhidpaaDoor
open Go.RowKit
section
variable {md : Region.Mode} {ops : Array Oper} {Q : Exit → Act → World → Prop} {S : World → Prop} {fuel : Nat} {listed : Array Bool} {a : Act} {w : World} {i : Nat} {o : Oper} {rs : List Nat}
theorem node_f22 (d : Nat) (k1 k2 k3 : Nat) (v1 v2 v3 : Value) (hi : ops[i]? = some o) (hgd : Region.wanted o (yielded ops a.tmps) = true) (ho : o.op = .call { callee := .value (.func 22), args := #[.tmp k1, .tmp k2, .tmp k3], argTypes := #[26, 22, 28] }) (hd : o.dst = some d)
    (hp1 : a.tmps[k1]?.getD undef = v1)    (hp2 : a.tmps[k2]?.getD undef = v2)    (hp3 : a.tmps[k3]?.getD undef = v3)
    (h : Calls Tryd.prog 22 #[v1, v2, v3] w fun e w' => ∃ u, e = .returned u ∧ S w' ∧ wpAnyH Tryd.prog md ops Q S fuel (listed.setIfInBounds i true) (a.put (some d) u) w')
    (hs : AllReadyH Tryd.prog md ops Q S fuel listed a w rs) : AllReadyH Tryd.prog md ops Q S fuel listed a w (i :: rs) := by
  refine AllReadyH.cons hi (fun K hK => ?_) hs
  rw [if_pos hgd]
  unfold Oper.wp execOp
  simp [ho, go_sem, hp1, hp2, hp3]
  refine h.mono ?_
  rintro e w' ⟨u, rfl, h1, h2⟩
  have hk := hK.out _ _ h1 (fun _ => h2)
  rw [hd]
  exact hk
end
theorem near_range (o : Ov) (g : Grid) (k : Nat) (c : Sp) (hN : k ≤ 100000) : -1000000 ≤ o.nearF g k c ∧ o.nearF g k c ≤ 1000000 := by
  unfold Ov.nearF
  cases e : o.near g k c with
  | none => show (-1000000 : Int) ≤ -1000000 ∧ (-1000000 : Int) ≤ 1000000; omega
  | some j =>
    have := ((near_some o g k c j).1 e).1
    show (-1000000 : Int) ≤ (j : Int) ∧ (j : Int) ≤ 1000000
    omega
set_option maxHeartbeats 8000000 in
set_option maxRecDepth 100000 in
/-- the reference's Reach -/
theorem rReach_any (vs vm vj u : Value) (o : Ov) (gg : Grid) (w : World) (ho : IsOv w vs vm vj o) (hok : o.Ok) (hg : IsGrid w u gg) (hf : formB o.P o.R o.C gg = true) :
    Calls Tryd.prog 41 #[.agg #[vs, vm, vj], u] w fun e w' => ∃ v, e = .returned v ∧ OwnI w' w.heap.size v (o.listOf fun c => nearN (o.NN gg c)) ∧ Below w.heap.size w w' := by
  have HO0 := hid ho
  have HOK := hid hok
  have HGU := hid hg
  have HFG := hid hf
  obtain ⟨N, hN⟩ : ∃ N, N = o.N := ⟨_, rfl⟩
  have hN1 := N_pos hok
  have hN2 := N_small hok
  rw [← hN] at hN1 hN2
  have HN := hid hN
  have hbx := heap_alloc_new w (.cells #[vs, vm, vj] 26)
  have hbW : Below w.heap.size w (w.alloc (.cells #[vs, vm, vj] 26)) := (Below.refl _ _).alloc (Nat.le_refl _) _
  obtain ⟨X, hX⟩ : ∃ X, X = w.heap.size := ⟨_, rfl⟩
  obtain ⟨W, hW⟩ : ∃ W, W = (w.alloc (.cells #[vs, vm, vj] 26)) := ⟨_, rfl⟩
  have HXE := hid hX
  have HWE := hid hW
  rw [← hW] at hbW hbx
  rw [← hX] at hbx
  have HBW := hid hbW
  have HBX := hid hbx
  clear hN hbW hX hW hbx ho hok hg hf
  go_enter Tryd.func41, Tryd.ntmps41
  go_upto_region 1 with fail
  rw [← HXE.out, ← HWE.out]
  obtain ⟨x0, x1, x2⟩ := cells3_of HBX.out
  go_upto_region 2 with (first | (go_at_call 28; refine (rCells_any vs vm vj o _ (isOv_below HO0.out HBW.out) HOK.out).mono ?_; rintro e w5 ⟨v5, rfl, hcs, hb5⟩; obtain ⟨gc, cc, rfl, _⟩ := ownS_some hcs (by intro h; have := cells_len o; rw [h] at this; have h2 := HN.out; simp at this; omega); have HCS0 := hid hcs; have HBW5 := hid hb5; clear hcs hb5) | fail)
  clear x0 x1 x2
  rw [cells_len, ← HN.out] at HCS0 ⊢
  have KP : Hid (∀ w', Below w5.heap.size w5 w' → w'.cell? ⟨X, 0, none⟩ = some vs ∧ w'.cell? ⟨X, 1, none⟩ = some vm ∧ w'.cell? ⟨X, 2, none⟩ = some vj) := fun w' hb => by
    have h := HBW5.out.trans (hb.mono HBW5.out.size)
    exact cells3_of ((h.block X (heap_lt HBX.out)).trans HBX.out)
  have HCS : Hid (∀ w', Below w5.heap.size w5 w' → OwnS w' W.heap.size 28 (.slice (some ⟨gc, 0, none⟩) N cc) o.cells) := fun w' hb => ownS_below HCS0.out hb
  have HUPW : Hid (∀ w', Below w5.heap.size w5 w' → Below w.heap.size w w') := fun w' hb => HBW.out.trans ((HBW5.out.trans (hb.mono HBW5.out.size)).mono HBW.out.size)
  have HO : Hid (∀ w', Below w5.heap.size w5 w' → IsOv w' vs vm vj o) := fun w' hb => isOv_below HO0.out (HUPW.out w' hb)
  have HG0 : Hid (∀ w', Below w5.heap.size w5 w' → IsGrid w' u gg) := fun w' hb => isGrid_below HGU.out (HUPW.out w' hb)
  have HM : Hid (OwnI (w5.alloc (.cells #[] 3)) w5.heap.size (.slice (some ⟨w5.heap.size, 0, none⟩) 0 0) []) := ownI_made w5 _ (Nat.le_refl _)
  have HM0 : Hid (Below w5.heap.size w5 (w5.alloc (.cells #[] 3))) := (Below.refl _ _).alloc (Nat.le_refl _) _
  clear HCS0
  go_wp2_with fail
  go_loopw [6, 7] (fun v iv wr => ∃ (i : Nat) (a : Option Addr) (n c : Nat), iv = .int .i64 i ∧ v = .slice a n c ∧ i ≤ N ∧ Hid (OwnI wr w5.heap.size (.slice a n c) ((o.listOf (o.nearF gg 0)).take i)) ∧ Hid (Below w5.heap.size w5 wr)) (fun _ iv _ => N - (intOf iv).toNat)
  case atStart => exact ⟨0, _, 0, 0, rfl, rfl, Nat.zero_le _, by rw [List.take_zero]; exact HM, HM0⟩
  case round =>
    obtain ⟨i, a, n, c, rfl, rfl, hi, HI, HB⟩ := hrel
    by_cases hlt : i < N
    · have hlo : i < o.N := by rw [← HN.out]; exact hlt
      have hsA := sAt_cells o i hlo
      have hex := cellAt_ex o i hlo
      have HTK := hid (listOf_take o (o.nearF gg 0) i hlo)
      have HL0 := near_zero o gg (o.cellAt i) hex
      rw [HL0] at HTK
      have UP : Hid (∀ w', Below wr.heap.size wr w' → Below w5.heap.size w5 w') := fun w' hb => HB.out.trans (hb.mono HB.out.size)
      obtain ⟨d, hd⟩ : ∃ d, d = o.cellAt i := ⟨_, rfl⟩
      rw [← hd] at hsA hex HTK
      obtain ⟨p, x, y⟩ := d
      have KEEP : Hid (∀ w', Below wr.heap.size wr w' → w'.cell? ⟨X, 0, none⟩ = some vs ∧ w'.cell? ⟨X, 1, none⟩ = some vm ∧ w'.cell? ⟨X, 2, none⟩ = some vj ∧ w'.cell? ⟨gc, i * 3, none⟩ = some (.int .i64 p) ∧ w'.cell? ⟨gc, i * 3 + 1, none⟩ = some (.int .i64 x) ∧ w'.cell? ⟨gc, i * 3 + 2, none⟩ = some (.int .i64 y) ∧ Hid (Below wr.heap.size wr w')) := fun w' hb => by
        obtain ⟨e0, e1, e2⟩ := KP.out w' (UP.out w' hb)
        obtain ⟨f0, f1, f2⟩ := sp_all (HCS.out w' (UP.out w' hb)) (by rw [cells_len]; exact hlo) hsA
        exact ⟨e0, e1, e2, f0, f1, f2, hb⟩
      obtain ⟨bg, hbg⟩ : ∃ bg, bg = inG gg (p, x, y) := ⟨_, rfl⟩
      obtain ⟨bs, hbs⟩ : ∃ bs, bs = inG o.safe (p, x, y) := ⟨_, rfl⟩
      have CG : Hid (∀ w', Below wr.heap.size wr w' → Calls Tryd.prog 29 #[u, .agg #[.int .i64 p, .int .i64 x, .int .i64 y]] w' fun e w'' => e = .returned (.bool bg) ∧ Below wr.heap.size wr w'') := fun w' hb => (rIn_any u gg o (p, x, y) w' (HG0.out w' (UP.out w' hb)) HOK.out HFG.out hex).mono (by rw [← hbg]; rintro e w'' ⟨rfl, h⟩; exact ⟨rfl, below_step hb h⟩)
      have CS : Hid (∀ w', Below wr.heap.size wr w' → Calls Tryd.prog 29 #[vs, .agg #[.int .i64 p, .int .i64 x, .int .i64 y]] w' fun e w'' => e = .returned (.bool bs) ∧ Below wr.heap.size wr w'') := fun w' hb => (rIn_any vs o.safe o (p, x, y) w' (HO.out w' (UP.out w' hb)).safe HOK.out HOK.out.form hex).mono (by rw [← hbs]; rintro e w'' ⟨rfl, h⟩; exact ⟨rfl, below_step hb h⟩)
      have hln : ((o.listOf (o.nearF gg 0)).take i).length < 100000000 := by rw [List.length_take, listOf_len]; have := HN.out; omega
      have HLN := hid hln
      rw [← hbg, ← hbs] at HTK
      obtain ⟨x0, x1, x2, x3, x4, x5, -⟩ := KEEP.out wr (Below.refl _ _)
      clear hlo hex HL0 hln hsA hd hbg hbs
      go_upto_region 5 with fail
      clear x0 x1 x2 x3 x4 x5
      cases bg
      · change Hid (_ = _ ++ [-1000000]) at HTK
        refine wp_region_held_drew (S := fun w' => w'.cell? ⟨X, 0, none⟩ = some vs ∧ w'.cell? ⟨X, 1, none⟩ = some vm ∧ w'.cell? ⟨X, 2, none⟩ = some vj ∧ w'.cell? ⟨gc, i * 3, none⟩ = some (.int .i64 p) ∧ w'.cell? ⟨gc, i * 3 + 1, none⟩ = some (.int .i64 x) ∧ w'.cell? ⟨gc, i * 3 + 2, none⟩ = some (.int .i64 y) ∧ Hid (Below wr.heap.size wr w')) (by kernel_rfl) (KEEP.out _ ((Below.refl _ _).drew)) (fun hHeld => ?_)
        refine take_at (i := 0) 21 (v := u) rfl (by kernel_rfl) (by kernel_rfl) (by kernel_rfl) rfl (fun _ _ _ h => h) (by rfl) (fun w hSw => ?_) hHeld ?_
        · (try dsimp only at hSw); go_simp
        simp only [Act.put, List.setIfInBounds_toArray, List.set_cons_zero, List.set_cons_succ]
        refine take_at (i := 1) 22 (v := .slice (some ⟨gc, 0, none⟩) N cc) rfl (by kernel_rfl) (by kernel_rfl) (by kernel_rfl) rfl (fun _ _ _ h => h) (by rfl) (fun w hSw => ?_) hHeld ?_
        · (try dsimp only at hSw); go_simp
        simp only [Act.put, List.setIfInBounds_toArray, List.set_cons_zero, List.set_cons_succ]
        refine take_at (i := 2) 23 (v := .int .i64 i) rfl (by kernel_rfl) (by kernel_rfl) (by kernel_rfl) rfl (fun _ _ _ h => h) (by rfl) (fun w hSw => ?_) hHeld ?_
        · (try dsimp only at hSw); go_simp
        simp only [Act.put, List.setIfInBounds_toArray, List.set_cons_zero, List.set_cons_succ]
        refine take_at (i := 3) 24 (v := .pointer (some ⟨gc, i * 3, none⟩)) rfl (by kernel_rfl) (by kernel_rfl) (by kernel_rfl) rfl (fun _ _ _ h => h) (by rfl) (fun w hSw => ?_) hHeld ?_
        · (try dsimp only at hSw); go_simp
        simp only [Act.put, List.setIfInBounds_toArray, List.set_cons_zero, List.set_cons_succ]
        refine take_at (i := 4) 25 (v := .agg #[.int .i64 p, .int .i64 x, .int .i64 y]) rfl (by kernel_rfl) (by kernel_rfl) (by kernel_rfl) rfl (fun _ _ _ h => h) (by rfl) (fun w hSw => ?_) hHeld ?_
        · (try dsimp only at hSw); go_simp
        simp only [Act.put, List.setIfInBounds_toArray, List.set_cons_zero, List.set_cons_succ]
        refine wpAnyH_ready (rs := [5]) (by kernel_rfl) (by simp) ?_
        refine node_f29 26 21 25 _ _ rfl (by rfl) rfl rfl rfl rfl ((CG.out _ ((Below.refl _ _).drew)).mono ?_) AllReadyH.nil
        · rintro e w10 ⟨rfl, hb10⟩
          have hHeld := KEEP.out _ hb10
          refine ⟨_, rfl, hHeld, ?_⟩
          have HB10 := hid hb10
          clear hb10
          simp only [Act.put, List.setIfInBounds_toArray, List.set_cons_zero, List.set_cons_succ]
          refine take_at (i := 6) 27 (v := .bool false) rfl (by kernel_rfl) (by kernel_rfl) (by kernel_rfl) rfl (fun _ _ _ h => h) (by rfl) (fun w hSw => ?_) hHeld ?_
          · (try dsimp only at hSw); go_simp
          simp only [Act.put, List.setIfInBounds_toArray, List.set_cons_zero, List.set_cons_succ]
          refine skip_at (i := 7) 28 rfl (by kernel_rfl) (by kernel_rfl) (by kernel_rfl) rfl (fun _ _ _ h => h) (by rfl) hHeld ?_
          simp only [Act.put, List.setIfInBounds_toArray, List.set_cons_zero, List.set_cons_succ]
          refine skip_at (i := 8) 29 rfl (by kernel_rfl) (by kernel_rfl) (by kernel_rfl) rfl (fun _ _ _ h => h) (by rfl) hHeld ?_
          simp only [Act.put, List.setIfInBounds_toArray, List.set_cons_zero, List.set_cons_succ]
          refine skip_at (i := 9) 30 rfl (by kernel_rfl) (by kernel_rfl) (by kernel_rfl) rfl (fun _ _ _ h => h) (by rfl) hHeld ?_
          simp only [Act.put, List.setIfInBounds_toArray, List.set_cons_zero, List.set_cons_succ]
          refine skip_at (i := 10) 31 rfl (by kernel_rfl) (by kernel_rfl) (by kernel_rfl) rfl (fun _ _ _ h => h) (by rfl) hHeld ?_
          simp only [Act.put, List.setIfInBounds_toArray, List.set_cons_zero, List.set_cons_succ]
          refine skip_at (i := 11) 32 rfl (by kernel_rfl) (by kernel_rfl) (by kernel_rfl) rfl (fun _ _ _ h => h) (by rfl) hHeld ?_
          simp only [Act.put, List.setIfInBounds_toArray, List.set_cons_zero, List.set_cons_succ]
          refine skip_at (i := 12) 33 rfl (by kernel_rfl) (by kernel_rfl) (by kernel_rfl) rfl (fun _ _ _ h => h) (by rfl) hHeld ?_
          simp only [Act.put, List.setIfInBounds_toArray, List.set_cons_zero, List.set_cons_succ]
          refine skip_at (i := 13) 34 rfl (by kernel_rfl) (by kernel_rfl) (by kernel_rfl) rfl (fun _ _ _ h => h) (by rfl) hHeld ?_
          simp only [Act.put, List.setIfInBounds_toArray, List.set_cons_zero, List.set_cons_succ]
          refine take_at (i := 14) 35 (v := .bool false) rfl (by kernel_rfl) (by kernel_rfl) (by kernel_rfl) rfl (fun _ _ _ h => h) (by rfl) (fun w hSw => ?_) hHeld ?_
          · (try dsimp only at hSw); go_simp
          simp only [Act.put, List.setIfInBounds_toArray, List.set_cons_zero, List.set_cons_succ]
          refine wpAnyH_done (by kernel_rfl) ?_ _
          clear hHeld
          have HI6 := hid (ownI_below HI.out HB10.out)
          have HBZ := hid (UP.out _ HB10.out)
          obtain ⟨x0, x1, x2, -⟩ := KEEP.out _ HB10.out
          clear KEEP CG CS
          go_wp2_with (first | (at_builtin; refine wpl_app_int (-1000000) _ _ (.slice a n c) w5.heap.size _ (by rfl) (by rfl) (by rfl) (by rfl) HI6.out HLN.out HBZ.out.size ?_; intro v' w7 ho7 hb7 _; rw [← HTK.out] at ho7; obtain ⟨sa, sn, sc, rfl⟩ := ownI_slice ho7; have HO7 := hid ho7; have HB7 := hid (HBZ.out.trans hb7); clear ho7 hb7) | fail)
          go_roundw
          case rel => exact ⟨i + 1, _, _, _, by go_num, rfl, by omega, HO7, HB7⟩
          case measure => simp [intOf]; omega
      · cases bs
        · change Hid (_ = _ ++ [-1000000]) at HTK
          refine wp_region_held_drew (S := fun w' => w'.cell? ⟨X, 0, none⟩ = some vs ∧ w'.cell? ⟨X, 1, none⟩ = some vm ∧ w'.cell? ⟨X, 2, none⟩ = some vj ∧ w'.cell? ⟨gc, i * 3, none⟩ = some (.int .i64 p) ∧ w'.cell? ⟨gc, i * 3 + 1, none⟩ = some (.int .i64 x) ∧ w'.cell? ⟨gc, i * 3 + 2, none⟩ = some (.int .i64 y) ∧ Hid (Below wr.heap.size wr w')) (by kernel_rfl) (KEEP.out _ ((Below.refl _ _).drew)) (fun hHeld => ?_)
          refine take_at (i := 0) 21 (v := u) rfl (by kernel_rfl) (by kernel_rfl) (by kernel_rfl) rfl (fun _ _ _ h => h) (by rfl) (fun w hSw => ?_) hHeld ?_
          · (try dsimp only at hSw); go_simp
          simp only [Act.put, List.setIfInBounds_toArray, List.set_cons_zero, List.set_cons_succ]
          refine take_at (i := 1) 22 (v := .slice (some ⟨gc, 0, none⟩) N cc) rfl (by kernel_rfl) (by kernel_rfl) (by kernel_rfl) rfl (fun _ _ _ h => h) (by rfl) (fun w hSw => ?_) hHeld ?_
          · (try dsimp only at hSw); go_simp
          simp only [Act.put, List.setIfInBounds_toArray, List.set_cons_zero, List.set_cons_succ]
          refine take_at (i := 2) 23 (v := .int .i64 i) rfl (by kernel_rfl) (by kernel_rfl) (by kernel_rfl) rfl (fun _ _ _ h => h) (by rfl) (fun w hSw => ?_) hHeld ?_
          · (try dsimp only at hSw); go_simp
          simp only [Act.put, List.setIfInBounds_toArray, List.set_cons_zero, List.set_cons_succ]
          refine take_at (i := 3) 24 (v := .pointer (some ⟨gc, i * 3, none⟩)) rfl (by kernel_rfl) (by kernel_rfl) (by kernel_rfl) rfl (fun _ _ _ h => h) (by rfl) (fun w hSw => ?_) hHeld ?_
          · (try dsimp only at hSw); go_simp
          simp only [Act.put, List.setIfInBounds_toArray, List.set_cons_zero, List.set_cons_succ]
          refine take_at (i := 4) 25 (v := .agg #[.int .i64 p, .int .i64 x, .int .i64 y]) rfl (by kernel_rfl) (by kernel_rfl) (by kernel_rfl) rfl (fun _ _ _ h => h) (by rfl) (fun w hSw => ?_) hHeld ?_
          · (try dsimp only at hSw); go_simp
          simp only [Act.put, List.setIfInBounds_toArray, List.set_cons_zero, List.set_cons_succ]
          refine wpAnyH_ready (rs := [5]) (by kernel_rfl) (by simp) ?_
          refine node_f29 26 21 25 _ _ rfl (by rfl) rfl rfl rfl rfl ((CG.out _ ((Below.refl _ _).drew)).mono ?_) AllReadyH.nil
          · rintro e w10 ⟨rfl, hb10⟩
            have hHeld := KEEP.out _ hb10
            refine ⟨_, rfl, hHeld, ?_⟩
            have HB10 := hid hb10
            clear hb10
            simp only [Act.put, List.setIfInBounds_toArray, List.set_cons_zero, List.set_cons_succ]
            refine take_at (i := 6) 27 (v := .bool true) rfl (by kernel_rfl) (by kernel_rfl) (by kernel_rfl) rfl (fun _ _ _ h => h) (by rfl) (fun w hSw => ?_) hHeld ?_
            · (try dsimp only at hSw); go_simp
            simp only [Act.put, List.setIfInBounds_toArray, List.set_cons_zero, List.set_cons_succ]
            refine take_at (i := 7) 28 (v := .pointer (some ⟨X, 0, none⟩)) rfl (by kernel_rfl) (by kernel_rfl) (by kernel_rfl) rfl (fun _ _ _ h => h) (by rfl) (fun w hSw => ?_) hHeld ?_
            · (try dsimp only at hSw); go_simp
            simp only [Act.put, List.setIfInBounds_toArray, List.set_cons_zero, List.set_cons_succ]
            refine take_at (i := 8) 29 (v := vs) rfl (by kernel_rfl) (by kernel_rfl) (by kernel_rfl) rfl (fun _ _ _ h => h) (by rfl) (fun w hSw => ?_) hHeld ?_
            · (try dsimp only at hSw); go_simp
            simp only [Act.put, List.setIfInBounds_toArray, List.set_cons_zero, List.set_cons_succ]
            refine take_at (i := 9) 30 (v := .slice (some ⟨gc, 0, none⟩) N cc) rfl (by kernel_rfl) (by kernel_rfl) (by kernel_rfl) rfl (fun _ _ _ h => h) (by rfl) (fun w hSw => ?_) hHeld ?_
            · (try dsimp only at hSw); go_simp
            simp only [Act.put, List.setIfInBounds_toArray, List.set_cons_zero, List.set_cons_succ]
            refine take_at (i := 10) 31 (v := .int .i64 i) rfl (by kernel_rfl) (by kernel_rfl) (by kernel_rfl) rfl (fun _ _ _ h => h) (by rfl) (fun w hSw => ?_) hHeld ?_
            · (try dsimp only at hSw); go_simp
            simp only [Act.put, List.setIfInBounds_toArray, List.set_cons_zero, List.set_cons_succ]
            refine take_at (i := 11) 32 (v := .pointer (some ⟨gc, i * 3, none⟩)) rfl (by kernel_rfl) (by kernel_rfl) (by kernel_rfl) rfl (fun _ _ _ h => h) (by rfl) (fun w hSw => ?_) hHeld ?_
            · (try dsimp only at hSw); go_simp
            simp only [Act.put, List.setIfInBounds_toArray, List.set_cons_zero, List.set_cons_succ]
            refine take_at (i := 12) 33 (v := .agg #[.int .i64 p, .int .i64 x, .int .i64 y]) rfl (by kernel_rfl) (by kernel_rfl) (by kernel_rfl) rfl (fun _ _ _ h => h) (by rfl) (fun w hSw => ?_) hHeld ?_
            · (try dsimp only at hSw); go_simp
            simp only [Act.put, List.setIfInBounds_toArray, List.set_cons_zero, List.set_cons_succ]
            refine wpAnyH_ready (rs := [13]) (by kernel_rfl) (by simp) ?_
            refine node_f29 34 29 33 _ _ rfl (by rfl) rfl rfl rfl rfl ((CS.out _ HB10.out).mono ?_) AllReadyH.nil
            · rintro e w11 ⟨rfl, hb11⟩
              have hHeld := KEEP.out _ hb11
              refine ⟨_, rfl, hHeld, ?_⟩
              have HB11 := hid hb11
              clear hb11
              simp only [Act.put, List.setIfInBounds_toArray, List.set_cons_zero, List.set_cons_succ]
              refine take_at (i := 14) 35 (v := .bool false) rfl (by kernel_rfl) (by kernel_rfl) (by kernel_rfl) rfl (fun _ _ _ h => h) (by rfl) (fun w hSw => ?_) hHeld ?_
              · (try dsimp only at hSw); go_simp
              simp only [Act.put, List.setIfInBounds_toArray, List.set_cons_zero, List.set_cons_succ]
              refine wpAnyH_done (by kernel_rfl) ?_ _
              clear hHeld
              have HI6 := hid (ownI_below HI.out HB11.out)
              have HBZ := hid (UP.out _ HB11.out)
              obtain ⟨x0, x1, x2, -⟩ := KEEP.out _ HB11.out
              clear KEEP CG CS
              go_wp2_with (first | (at_builtin; refine wpl_app_int (-1000000) _ _ (.slice a n c) w5.heap.size _ (by rfl) (by rfl) (by rfl) (by rfl) HI6.out HLN.out HBZ.out.size ?_; intro v' w7 ho7 hb7 _; rw [← HTK.out] at ho7; obtain ⟨sa, sn, sc, rfl⟩ := ownI_slice ho7; have HO7 := hid ho7; have HB7 := hid (HBZ.out.trans hb7); clear ho7 hb7) | fail)
              go_roundw
              case rel => exact ⟨i + 1, _, _, _, by go_num, rfl, by omega, HO7, HB7⟩
              case measure => simp [intOf]; omega
        · change Hid (_ = _ ++ [0]) at HTK
          refine wp_region_held_drew (S := fun w' => w'.cell? ⟨X, 0, none⟩ = some vs ∧ w'.cell? ⟨X, 1, none⟩ = some vm ∧ w'.cell? ⟨X, 2, none⟩ = some vj ∧ w'.cell? ⟨gc, i * 3, none⟩ = some (.int .i64 p) ∧ w'.cell? ⟨gc, i * 3 + 1, none⟩ = some (.int .i64 x) ∧ w'.cell? ⟨gc, i * 3 + 2, none⟩ = some (.int .i64 y) ∧ Hid (Below wr.heap.size wr w')) (by kernel_rfl) (KEEP.out _ ((Below.refl _ _).drew)) (fun hHeld => ?_)
          refine take_at (i := 0) 21 (v := u) rfl (by kernel_rfl) (by kernel_rfl) (by kernel_rfl) rfl (fun _ _ _ h => h) (by rfl) (fun w hSw => ?_) hHeld ?_
          · (try dsimp only at hSw); go_simp
          simp only [Act.put, List.setIfInBounds_toArray, List.set_cons_zero, List.set_cons_succ]
          refine take_at (i := 1) 22 (v := .slice (some ⟨gc, 0, none⟩) N cc) rfl (by kernel_rfl) (by kernel_rfl) (by kernel_rfl) rfl (fun _ _ _ h => h) (by rfl) (fun w hSw => ?_) hHeld ?_
          · (try dsimp only at hSw); go_simp
          simp only [Act.put, List.setIfInBounds_toArray, List.set_cons_zero, List.set_cons_succ]
          refine take_at (i := 2) 23 (v := .int .i64 i) rfl (by kernel_rfl) (by kernel_rfl) (by kernel_rfl) rfl (fun _ _ _ h => h) (by rfl) (fun w hSw => ?_) hHeld ?_
          · (try dsimp only at hSw); go_simp
          simp only [Act.put, List.setIfInBounds_toArray, List.set_cons_zero, List.set_cons_succ]
          refine take_at (i := 3) 24 (v := .pointer (some ⟨gc, i * 3, none⟩)) rfl (by kernel_rfl) (by kernel_rfl) (by kernel_rfl) rfl (fun _ _ _ h => h) (by rfl) (fun w hSw => ?_) hHeld ?_
          · (try dsimp only at hSw); go_simp
          simp only [Act.put, List.setIfInBounds_toArray, List.set_cons_zero, List.set_cons_succ]
          refine take_at (i := 4) 25 (v := .agg #[.int .i64 p, .int .i64 x, .int .i64 y]) rfl (by kernel_rfl) (by kernel_rfl) (by kernel_rfl) rfl (fun _ _ _ h => h) (by rfl) (fun w hSw => ?_) hHeld ?_
          · (try dsimp only at hSw); go_simp
          simp only [Act.put, List.setIfInBounds_toArray, List.set_cons_zero, List.set_cons_succ]
          refine wpAnyH_ready (rs := [5]) (by kernel_rfl) (by simp) ?_
          refine node_f29 26 21 25 _ _ rfl (by rfl) rfl rfl rfl rfl ((CG.out _ ((Below.refl _ _).drew)).mono ?_) AllReadyH.nil
          · rintro e w10 ⟨rfl, hb10⟩
            have hHeld := KEEP.out _ hb10
            refine ⟨_, rfl, hHeld, ?_⟩
            have HB10 := hid hb10
            clear hb10
            simp only [Act.put, List.setIfInBounds_toArray, List.set_cons_zero, List.set_cons_succ]
            refine take_at (i := 6) 27 (v := .bool true) rfl (by kernel_rfl) (by kernel_rfl) (by kernel_rfl) rfl (fun _ _ _ h => h) (by rfl) (fun w hSw => ?_) hHeld ?_
            · (try dsimp only at hSw); go_simp
            simp only [Act.put, List.setIfInBounds_toArray, List.set_cons_zero, List.set_cons_succ]
            refine take_at (i := 7) 28 (v := .pointer (some ⟨X, 0, none⟩)) rfl (by kernel_rfl) (by kernel_rfl) (by kernel_rfl) rfl (fun _ _ _ h => h) (by rfl) (fun w hSw => ?_) hHeld ?_
            · (try dsimp only at hSw); go_simp
            simp only [Act.put, List.setIfInBounds_toArray, List.set_cons_zero, List.set_cons_succ]
            refine take_at (i := 8) 29 (v := vs) rfl (by kernel_rfl) (by kernel_rfl) (by kernel_rfl) rfl (fun _ _ _ h => h) (by rfl) (fun w hSw => ?_) hHeld ?_
            · (try dsimp only at hSw); go_simp
            simp only [Act.put, List.setIfInBounds_toArray, List.set_cons_zero, List.set_cons_succ]
            refine take_at (i := 9) 30 (v := .slice (some ⟨gc, 0, none⟩) N cc) rfl (by kernel_rfl) (by kernel_rfl) (by kernel_rfl) rfl (fun _ _ _ h => h) (by rfl) (fun w hSw => ?_) hHeld ?_
            · (try dsimp only at hSw); go_simp
            simp only [Act.put, List.setIfInBounds_toArray, List.set_cons_zero, List.set_cons_succ]
            refine take_at (i := 10) 31 (v := .int .i64 i) rfl (by kernel_rfl) (by kernel_rfl) (by kernel_rfl) rfl (fun _ _ _ h => h) (by rfl) (fun w hSw => ?_) hHeld ?_
            · (try dsimp only at hSw); go_simp
            simp only [Act.put, List.setIfInBounds_toArray, List.set_cons_zero, List.set_cons_succ]
            refine take_at (i := 11) 32 (v := .pointer (some ⟨gc, i * 3, none⟩)) rfl (by kernel_rfl) (by kernel_rfl) (by kernel_rfl) rfl (fun _ _ _ h => h) (by rfl) (fun w hSw => ?_) hHeld ?_
            · (try dsimp only at hSw); go_simp
            simp only [Act.put, List.setIfInBounds_toArray, List.set_cons_zero, List.set_cons_succ]
            refine take_at (i := 12) 33 (v := .agg #[.int .i64 p, .int .i64 x, .int .i64 y]) rfl (by kernel_rfl) (by kernel_rfl) (by kernel_rfl) rfl (fun _ _ _ h => h) (by rfl) (fun w hSw => ?_) hHeld ?_
            · (try dsimp only at hSw); go_simp
            simp only [Act.put, List.setIfInBounds_toArray, List.set_cons_zero, List.set_cons_succ]
            refine wpAnyH_ready (rs := [13]) (by kernel_rfl) (by simp) ?_
            refine node_f29 34 29 33 _ _ rfl (by rfl) rfl rfl rfl rfl ((CS.out _ HB10.out).mono ?_) AllReadyH.nil
            · rintro e w11 ⟨rfl, hb11⟩
              have hHeld := KEEP.out _ hb11
              refine ⟨_, rfl, hHeld, ?_⟩
              have HB11 := hid hb11
              clear hb11
              simp only [Act.put, List.setIfInBounds_toArray, List.set_cons_zero, List.set_cons_succ]
              refine take_at (i := 14) 35 (v := .bool true) rfl (by kernel_rfl) (by kernel_rfl) (by kernel_rfl) rfl (fun _ _ _ h => h) (by rfl) (fun w hSw => ?_) hHeld ?_
              · (try dsimp only at hSw); go_simp
              simp only [Act.put, List.setIfInBounds_toArray, List.set_cons_zero, List.set_cons_succ]
              refine wpAnyH_done (by kernel_rfl) ?_ _
              clear hHeld
              have HI6 := hid (ownI_below HI.out HB11.out)
              have HBZ := hid (UP.out _ HB11.out)
              obtain ⟨x0, x1, x2, -⟩ := KEEP.out _ HB11.out
              clear KEEP CG CS
              go_wp2_with (first | (at_builtin; refine wpl_app_int (0) _ _ (.slice a n c) w5.heap.size _ (by rfl) (by rfl) (by rfl) (by rfl) HI6.out HLN.out HBZ.out.size ?_; intro v' w7 ho7 hb7 _; rw [← HTK.out] at ho7; obtain ⟨sa, sn, sc, rfl⟩ := ownI_slice ho7; have HO7 := hid ho7; have HB7 := hid (HBZ.out.trans hb7); clear ho7 hb7) | fail)
              go_roundw
              case rel => exact ⟨i + 1, _, _, _, by go_num, rfl, by omega, HO7, HB7⟩
              case measure => simp [intOf]; omega
    · obtain rfl : N = i := by omega
      have hI : OwnI wr w5.heap.size (.slice a n c) (o.listOf (o.nearF gg 0)) := by
        have := HI.out
        rwa [List.take_of_length_le (by rw [listOf_len, HN.out]; exact Nat.le_refl _)] at this
      obtain ⟨gl, cl, hv, hBl, hgl⟩ := ownI_some hI (by rw [listOf_len, ← HN.out]; exact hN1)
      rw [listOf_len, ← HN.out] at hv
      rw [hv] at hI ⊢
      have HI0 := hid hI
      clear hv HI hI hBl hgl
      go_wp2_with fail
      go_loopw [8] (fun kv wr => ∃ k : Nat, kv = .int .i64 k ∧ k + (o.restL gg k).length ≤ N ∧ Hid (OwnI wr w5.heap.size (.slice (some ⟨gl, 0, none⟩) N cl) (o.listOf (o.nearF gg k))) ∧ Hid (Below w5.heap.size w5 wr)) (fun kv _ => (o.restL gg (intOf kv).toNat).length)
      case atStart => exact ⟨0, rfl, by have := rest_le o gg 0; have := HN.out; omega, HI0, HB⟩
      case round =>
        clear HI0 HB
        obtain ⟨k, rfl, hk, HI, HB⟩ := hrel
        rename World => wk
        obtain ⟨x0, x1, x2⟩ := KP.out _ HB.out
        have cw := hid (rWhere_any vs vm vj (.slice (some ⟨gl, 0, none⟩) N cl) o (o.listOf (o.nearF gg k)) 0 wk (HO.out wk HB.out) HOK.out (ownI_ints HI.out (by rw [listOf_len, ← HN.out]; omega)) (listOf_len o _))
        rw [grid_near o gg k] at cw
        go_upto_region 11 with (first | (go_at_call 50; refine (cw.out).mono ?_; rintro e w6 ⟨v8, rfl, hg6, hb6⟩; have HI6 := hid (ownI_below HI.out hb6); have HBZ := hid (HB.out.trans (hb6.mono HB.out.size)); have HG6 : Hid (OwnG w6 w5.heap.size v8 (o.gridOf (o.G gg k))) := hid (ownG_mono hg6 HB.out.size); obtain ⟨ag, cg, rfl⟩ := ownG_slice hg6; clear hb6 hg6) | fail)
        clear x0 x1 x2 cw
        obtain ⟨PG, hPG⟩ : ∃ PG, PG = (o.gridOf (o.G gg k)).length := ⟨_, rfl⟩
        rw [← hPG] at HG6 ⊢
        clear hPG
        go_wp2_with fail
        go_loopw [10, 11] (fun mv iv wx => ∃ (b : Bool) (j : Nat), mv = .bool b ∧ iv = .int .i64 j ∧ j ≤ N ∧ Hid (b = (o.cells.take j).any (o.newF gg k)) ∧ Hid (OwnI wx w5.heap.size (.slice (some ⟨gl, 0, none⟩) N cl) (o.listOf (o.nearI gg k j))) ∧ Hid (OwnG wx w5.heap.size (.slice ag PG cg) (o.gridOf (o.G gg k))) ∧ Hid (Below w5.heap.size w5 wx)) (fun _ iv _ => N - (intOf iv).toNat)
        case atStart => exact ⟨false, 0, rfl, rfl, Nat.zero_le _, by rw [List.take_zero]; exact rfl, by rw [nearI_zero]; exact HI6, HG6, HBZ⟩
        case round =>
          clear HI HB HI6 HG6 HBZ
          obtain ⟨b, j, rfl, rfl, hj, HBB, HI, HG, HB⟩ := hrel
          rename World => wx
          by_cases hlt : j < N
          · have hlo : j < o.N := by rw [← HN.out]; exact hlt
            obtain ⟨r0, r1⟩ := ownI_read HI.out (by rw [listOf_len, ← HN.out]; omega) j (by rw [listOf_len]; exact hlo)
            rw [listOf_getD o _ j hlo, nearI_at o gg k j hlo] at r0
            have hsA := sAt_cells o j hlo
            have hex := cellAt_ex o j hlo
            have hsg := near_sign o gg k (o.cellAt j)
            have hxr := near_range o gg k (o.cellAt j) (by have := HN.out; omega)
            have HANY : Hid (∀ b', o.newF gg k (o.cellAt j) = b' → (b || b') = (o.cells.take (j + 1)).any (o.newF gg k)) := by
              intro b' hb'
              rw [take_cells o j hlo, List.any_append, ← HBB.out]
              simp [hb']
            have HLin := hid (nearI_in o gg k j hlo)
            have HLout : Hid (o.newF gg k (o.cellAt j) = true → (o.listOf (o.nearI gg k j)).set j ((k : Int) + 1) = o.listOf (o.nearI gg k (j + 1))) := fun h => by rw [listOf_set o _ j hlo, nearI_out o gg k j hlo h]
            have HOF : Hid (o.newF gg k (o.cellAt j) = (!o.G gg k (o.cellAt j) && (inG o.safe (o.cellAt j) && o.canM (o.G gg k) (o.cellAt j)))) := rfl
            have UP : Hid (∀ w', Below wx.heap.size wx w' → Below w5.heap.size w5 w') := fun w' hb => HB.out.trans (hb.mono HB.out.size)
            have hmn := move_neg o (o.G gg k) (o.cellAt j)
            obtain ⟨lv, hlv⟩ : ∃ lv, lv = o.nearF gg k (o.cellAt j) := ⟨_, rfl⟩
            rw [← hlv] at r0 hsg hxr
            obtain ⟨d, hd⟩ : ∃ d, d = o.cellAt j := ⟨_, rfl⟩
            rw [← hd] at hsA hex hsg HANY HLin HLout HOF hmn
            clear hlv hd
            obtain ⟨p, x, y⟩ := d
            have KEEP : Hid (∀ w', Below wx.heap.size wx w' → w'.cell? ⟨X, 0, none⟩ = some vs ∧ w'.cell? ⟨X, 1, none⟩ = some vm ∧ w'.cell? ⟨X, 2, none⟩ = some vj ∧ w'.cell? ⟨gc, j * 3, none⟩ = some (.int .i64 p) ∧ w'.cell? ⟨gc, j * 3 + 1, none⟩ = some (.int .i64 x) ∧ w'.cell? ⟨gc, j * 3 + 2, none⟩ = some (.int .i64 y) ∧ w'.cell? ⟨gl, j, none⟩ = some (.int .i64 lv) ∧ Hid (Below wx.heap.size wx w')) := fun w' hb => by
              obtain ⟨e0, e1, e2⟩ := KP.out w' (UP.out w' hb)
              obtain ⟨f0, f1, f2⟩ := sp_all (HCS.out w' (UP.out w' hb)) (by rw [cells_len]; exact hlo) hsA
              exact ⟨e0, e1, e2, f0, f1, f2, (hb.cell (p := ⟨gl, j, none⟩) r1).trans r0, hb⟩
            obtain ⟨bs, hbs⟩ : ∃ bs, bs = inG o.safe (p, x, y) := ⟨_, rfl⟩
            have CS : Hid (∀ w', Below wx.heap.size wx w' → Calls Tryd.prog 29 #[vs, .agg #[.int .i64 p, .int .i64 x, .int .i64 y]] w' fun e w'' => e = .returned (.bool bs) ∧ Below wx.heap.size wx w'') := fun w' hb => (rIn_any vs o.safe o (p, x, y) w' (HO.out w' (UP.out w' hb)).safe HOK.out HOK.out.form hex).mono (by rw [← hbs]; rintro e w'' ⟨rfl, h⟩; exact ⟨rfl, below_step hb h⟩)
            obtain ⟨mv, hmv⟩ : ∃ mv, mv = o.move (o.G gg k) (p, x, y) := ⟨_, rfl⟩
            have CM : Hid (∀ w', Below wx.heap.size wx w' → Calls Tryd.prog 22 #[.agg #[vs, vm, vj], .slice ag PG cg, .agg #[.int .i64 p, .int .i64 x, .int .i64 y]] w' fun e w'' => e = .returned (.int .i64 mv) ∧ Below wx.heap.size wx w'') := fun w' hb => by
              have h := rMove_any vs vm vj (.slice ag PG cg) o (o.gridOf (o.G gg k)) (p, x, y) w' (HO.out w' (UP.out w' hb)) HOK.out (gridOf_isGrid HOK.out (ownG_below HG.out hb)) (form_gridOf o _) hex
              rw [exIn_gridOf o (o.G gg k) (fun c hc => (G_ex o gg k c hc).1), ← hmv] at h
              exact h.mono (by rintro e w'' ⟨rfl, h1⟩; exact ⟨rfl, below_step hb h1⟩)
            rw [← hbs] at HOF
            rw [← hmv] at hmn
            generalize o.G gg k (p, x, y) = gv at *
            generalize o.canM (o.G gg k) (p, x, y) = cmv at *
            generalize o.newF gg k (p, x, y) = nv at *
            obtain ⟨y0, y1, y2, z0, z1, z2, z3, -⟩ := KEEP.out wx (Below.refl _ _)
            go_upto_region 14 with fail
            clear y0 y1 y2 z0 z1 z2 z3 hlo hsA hex hbs hmv r0 r1
            obtain ⟨hx0, hx1⟩ := hxr
            cases gv
            · have hneg : lv < 0 := of_decide_eq_true hsg
              have hdn : decide (lv < 0) = true := hsg
              cases bs
              · have hnv : nv = false := by have := HOF.out; simpa using this
                have HL2 := hid (HLin.out hnv)
                have HA2 := hid (HANY.out false hnv)
                clear HLout HLin HANY HOF hmn
                refine wp_region_held_drew (S := fun w' => w'.cell? ⟨X, 0, none⟩ = some vs ∧ w'.cell? ⟨X, 1, none⟩ = some vm ∧ w'.cell? ⟨X, 2, none⟩ = some vj ∧ w'.cell? ⟨gc, j * 3, none⟩ = some (.int .i64 p) ∧ w'.cell? ⟨gc, j * 3 + 1, none⟩ = some (.int .i64 x) ∧ w'.cell? ⟨gc, j * 3 + 2, none⟩ = some (.int .i64 y) ∧ w'.cell? ⟨gl, j, none⟩ = some (.int .i64 lv) ∧ Hid (Below wx.heap.size wx w')) (by kernel_rfl) (KEEP.out _ ((Below.refl _ _).drew)) (fun hHeld => ?_)
                refine take_at (i := 0) 53 (v := .slice (some ⟨gl, 0, none⟩) N cl) rfl (by kernel_rfl) (by kernel_rfl) (by kernel_rfl) rfl (fun _ _ _ h => h) (by rfl) (fun w hSw => ?_) hHeld ?_
                · (try dsimp only at hSw); go_simp
                simp only [Act.put, List.setIfInBounds_toArray, List.set_cons_zero, List.set_cons_succ]
                refine take_at (i := 1) 54 (v := .int .i64 j) rfl (by kernel_rfl) (by kernel_rfl) (by kernel_rfl) rfl (fun _ _ _ h => h) (by rfl) (fun w hSw => ?_) hHeld ?_
                · (try dsimp only at hSw); go_simp
                simp only [Act.put, List.setIfInBounds_toArray, List.set_cons_zero, List.set_cons_succ]
                refine take_at (i := 2) 55 (v := .pointer (some ⟨gl, j, none⟩)) rfl (by kernel_rfl) (by kernel_rfl) (by kernel_rfl) rfl (fun _ _ _ h => h) (by rfl) (fun w hSw => ?_) hHeld ?_
                · (try dsimp only at hSw); go_simp
                simp only [Act.put, List.setIfInBounds_toArray, List.set_cons_zero, List.set_cons_succ]
                refine take_at (i := 3) 56 (v := .int .i64 lv) rfl (by kernel_rfl) (by kernel_rfl) (by kernel_rfl) rfl (fun _ _ _ h => h) (by rfl) (fun w hSw => ?_) hHeld ?_
                · (try dsimp only at hSw); go_simp
                simp only [Act.put, List.setIfInBounds_toArray, List.set_cons_zero, List.set_cons_succ]
                refine take_at (i := 4) 57 (v := .bool true) rfl (by kernel_rfl) (by kernel_rfl) (by kernel_rfl) rfl (fun _ _ _ h => h) (by rfl) (fun w hSw => ?_) hHeld ?_
                · (try dsimp only at hSw); go_simp
                simp only [Act.put, List.setIfInBounds_toArray, List.set_cons_zero, List.set_cons_succ]
                refine take_at (i := 5) 58 (v := .bool true) rfl (by kernel_rfl) (by kernel_rfl) (by kernel_rfl) rfl (fun _ _ _ h => h) (by rfl) (fun w hSw => ?_) hHeld ?_
                · (try dsimp only at hSw); go_simp
                simp only [Act.put, List.setIfInBounds_toArray, List.set_cons_zero, List.set_cons_succ]
                refine take_at (i := 6) 59 (v := .pointer (some ⟨X, 0, none⟩)) rfl (by kernel_rfl) (by kernel_rfl) (by kernel_rfl) rfl (fun _ _ _ h => h) (by rfl) (fun w hSw => ?_) hHeld ?_
                · (try dsimp only at hSw); go_simp
                simp only [Act.put, List.setIfInBounds_toArray, List.set_cons_zero, List.set_cons_succ]
                refine take_at (i := 7) 60 (v := vs) rfl (by kernel_rfl) (by kernel_rfl) (by kernel_rfl) rfl (fun _ _ _ h => h) (by rfl) (fun w hSw => ?_) hHeld ?_
                · (try dsimp only at hSw); go_simp
                simp only [Act.put, List.setIfInBounds_toArray, List.set_cons_zero, List.set_cons_succ]
                refine take_at (i := 8) 61 (v := .slice (some ⟨gc, 0, none⟩) N cc) rfl (by kernel_rfl) (by kernel_rfl) (by kernel_rfl) rfl (fun _ _ _ h => h) (by rfl) (fun w hSw => ?_) hHeld ?_
                · (try dsimp only at hSw); go_simp
                simp only [Act.put, List.setIfInBounds_toArray, List.set_cons_zero, List.set_cons_succ]
                refine take_at (i := 9) 62 (v := .int .i64 j) rfl (by kernel_rfl) (by kernel_rfl) (by kernel_rfl) rfl (fun _ _ _ h => h) (by rfl) (fun w hSw => ?_) hHeld ?_
                · (try dsimp only at hSw); go_simp
                simp only [Act.put, List.setIfInBounds_toArray, List.set_cons_zero, List.set_cons_succ]
                refine take_at (i := 10) 63 (v := .pointer (some ⟨gc, j * 3, none⟩)) rfl (by kernel_rfl) (by kernel_rfl) (by kernel_rfl) rfl (fun _ _ _ h => h) (by rfl) (fun w hSw => ?_) hHeld ?_
                · (try dsimp only at hSw); go_simp
                simp only [Act.put, List.setIfInBounds_toArray, List.set_cons_zero, List.set_cons_succ]
                refine take_at (i := 11) 64 (v := .agg #[.int .i64 p, .int .i64 x, .int .i64 y]) rfl (by kernel_rfl) (by kernel_rfl) (by kernel_rfl) rfl (fun _ _ _ h => h) (by rfl) (fun w hSw => ?_) hHeld ?_
                · (try dsimp only at hSw); go_simp
                simp only [Act.put, List.setIfInBounds_toArray, List.set_cons_zero, List.set_cons_succ]
                refine wpAnyH_ready (rs := [12]) (by kernel_rfl) (by simp) ?_
                refine node_f29 65 60 64 _ _ rfl (by rfl) rfl rfl rfl rfl ((CS.out _ ((Below.refl _ _).drew)).mono ?_) AllReadyH.nil
                · rintro e w10 ⟨rfl, hb10⟩
                  have hHeld := KEEP.out _ hb10
                  refine ⟨_, rfl, hHeld, ?_⟩
                  have HB10 := hid hb10
                  clear hb10
                  simp only [Act.put, List.setIfInBounds_toArray, List.set_cons_zero, List.set_cons_succ]
                  refine take_at (i := 13) 66 (v := .bool false) rfl (by kernel_rfl) (by kernel_rfl) (by kernel_rfl) rfl (fun _ _ _ h => h) (by rfl) (fun w hSw => ?_) hHeld ?_
                  · (try dsimp only at hSw); go_simp
                  simp only [Act.put, List.setIfInBounds_toArray, List.set_cons_zero, List.set_cons_succ]
                  refine take_at (i := 14) 67 (v := .bool false) rfl (by kernel_rfl) (by kernel_rfl) (by kernel_rfl) rfl (fun _ _ _ h => h) (by rfl) (fun w hSw => ?_) hHeld ?_
                  · (try dsimp only at hSw); go_simp
                  simp only [Act.put, List.setIfInBounds_toArray, List.set_cons_zero, List.set_cons_succ]
                  refine skip_at (i := 15) 68 rfl (by kernel_rfl) (by kernel_rfl) (by kernel_rfl) rfl (fun _ _ _ h => h) (by rfl) hHeld ?_
                  simp only [Act.put, List.setIfInBounds_toArray, List.set_cons_zero, List.set_cons_succ]
                  refine skip_at (i := 16) 69 rfl (by kernel_rfl) (by kernel_rfl) (by kernel_rfl) rfl (fun _ _ _ h => h) (by rfl) hHeld ?_
                  simp only [Act.put, List.setIfInBounds_toArray, List.set_cons_zero, List.set_cons_succ]
                  refine skip_at (i := 17) 70 rfl (by kernel_rfl) (by kernel_rfl) (by kernel_rfl) rfl (fun _ _ _ h => h) (by rfl) hHeld ?_
                  simp only [Act.put, List.setIfInBounds_toArray, List.set_cons_zero, List.set_cons_succ]
                  refine skip_at (i := 18) 71 rfl (by kernel_rfl) (by kernel_rfl) (by kernel_rfl) rfl (fun _ _ _ h => h) (by rfl) hHeld ?_
                  simp only [Act.put, List.setIfInBounds_toArray, List.set_cons_zero, List.set_cons_succ]
                  refine skip_at (i := 19) 72 rfl (by kernel_rfl) (by kernel_rfl) (by kernel_rfl) rfl (fun _ _ _ h => h) (by rfl) hHeld ?_
                  simp only [Act.put, List.setIfInBounds_toArray, List.set_cons_zero, List.set_cons_succ]
                  refine skip_at (i := 20) 73 rfl (by kernel_rfl) (by kernel_rfl) (by kernel_rfl) rfl (fun _ _ _ h => h) (by rfl) hHeld ?_
                  simp only [Act.put, List.setIfInBounds_toArray, List.set_cons_zero, List.set_cons_succ]
                  refine skip_at (i := 21) 74 rfl (by kernel_rfl) (by kernel_rfl) (by kernel_rfl) rfl (fun _ _ _ h => h) (by rfl) hHeld ?_
                  simp only [Act.put, List.setIfInBounds_toArray, List.set_cons_zero, List.set_cons_succ]
                  refine skip_at (i := 22) 75 rfl (by kernel_rfl) (by kernel_rfl) (by kernel_rfl) rfl (fun _ _ _ h => h) (by rfl) hHeld ?_
                  simp only [Act.put, List.setIfInBounds_toArray, List.set_cons_zero, List.set_cons_succ]
                  refine take_at (i := 23) 76 (v := .bool false) rfl (by kernel_rfl) (by kernel_rfl) (by kernel_rfl) rfl (fun _ _ _ h => h) (by rfl) (fun w hSw => ?_) hHeld ?_
                  · (try dsimp only at hSw); go_simp
                  simp only [Act.put, List.setIfInBounds_toArray, List.set_cons_zero, List.set_cons_succ]
                  refine wpAnyH_done (by kernel_rfl) ?_ _
                  clear hHeld
                  have HR := hid HB10.out
                  go_wp2_with fail
                  go_roundw
                  case rel => exact ⟨b, j + 1, rfl, by go_num, by omega, by rw [← HA2.out, Bool.or_false]; exact rfl, by rw [← HL2.out]; exact ownI_below HI.out HR.out, ownG_below HG.out HR.out, UP.out _ HR.out⟩
                  case measure => simp [intOf]; omega
              · cases cmv
                · have hnv : nv = false := by have := HOF.out; simpa using this
                  have HL2 := hid (HLin.out hnv)
                  have HA2 := hid (HANY.out false hnv)
                  have hm : mv < 0 := hmn.2 rfl
                  have hm2 : ¬ 0 ≤ mv := by omega
                  clear HLout HLin HANY HOF hmn
                  refine wp_region_held_drew (S := fun w' => w'.cell? ⟨X, 0, none⟩ = some vs ∧ w'.cell? ⟨X, 1, none⟩ = some vm ∧ w'.cell? ⟨X, 2, none⟩ = some vj ∧ w'.cell? ⟨gc, j * 3, none⟩ = some (.int .i64 p) ∧ w'.cell? ⟨gc, j * 3 + 1, none⟩ = some (.int .i64 x) ∧ w'.cell? ⟨gc, j * 3 + 2, none⟩ = some (.int .i64 y) ∧ w'.cell? ⟨gl, j, none⟩ = some (.int .i64 lv) ∧ Hid (Below wx.heap.size wx w')) (by kernel_rfl) (KEEP.out _ ((Below.refl _ _).drew)) (fun hHeld => ?_)
                  refine take_at (i := 0) 53 (v := .slice (some ⟨gl, 0, none⟩) N cl) rfl (by kernel_rfl) (by kernel_rfl) (by kernel_rfl) rfl (fun _ _ _ h => h) (by rfl) (fun w hSw => ?_) hHeld ?_
                  · (try dsimp only at hSw); go_simp
                  simp only [Act.put, List.setIfInBounds_toArray, List.set_cons_zero, List.set_cons_succ]
                  refine take_at (i := 1) 54 (v := .int .i64 j) rfl (by kernel_rfl) (by kernel_rfl) (by kernel_rfl) rfl (fun _ _ _ h => h) (by rfl) (fun w hSw => ?_) hHeld ?_
                  · (try dsimp only at hSw); go_simp
                  simp only [Act.put, List.setIfInBounds_toArray, List.set_cons_zero, List.set_cons_succ]
                  refine take_at (i := 2) 55 (v := .pointer (some ⟨gl, j, none⟩)) rfl (by kernel_rfl) (by kernel_rfl) (by kernel_rfl) rfl (fun _ _ _ h => h) (by rfl) (fun w hSw => ?_) hHeld ?_
                  · (try dsimp only at hSw); go_simp
                  simp only [Act.put, List.setIfInBounds_toArray, List.set_cons_zero, List.set_cons_succ]
                  refine take_at (i := 3) 56 (v := .int .i64 lv) rfl (by kernel_rfl) (by kernel_rfl) (by kernel_rfl) rfl (fun _ _ _ h => h) (by rfl) (fun w hSw => ?_) hHeld ?_
                  · (try dsimp only at hSw); go_simp
                  simp only [Act.put, List.setIfInBounds_toArray, List.set_cons_zero, List.set_cons_succ]
                  refine take_at (i := 4) 57 (v := .bool true) rfl (by kernel_rfl) (by kernel_rfl) (by kernel_rfl) rfl (fun _ _ _ h => h) (by rfl) (fun w hSw => ?_) hHeld ?_
                  · (try dsimp only at hSw); go_simp
                  simp only [Act.put, List.setIfInBounds_toArray, List.set_cons_zero, List.set_cons_succ]
                  refine take_at (i := 5) 58 (v := .bool true) rfl (by kernel_rfl) (by kernel_rfl) (by kernel_rfl) rfl (fun _ _ _ h => h) (by rfl) (fun w hSw => ?_) hHeld ?_
                  · (try dsimp only at hSw); go_simp
                  simp only [Act.put, List.setIfInBounds_toArray, List.set_cons_zero, List.set_cons_succ]
                  refine take_at (i := 6) 59 (v := .pointer (some ⟨X, 0, none⟩)) rfl (by kernel_rfl) (by kernel_rfl) (by kernel_rfl) rfl (fun _ _ _ h => h) (by rfl) (fun w hSw => ?_) hHeld ?_
                  · (try dsimp only at hSw); go_simp
                  simp only [Act.put, List.setIfInBounds_toArray, List.set_cons_zero, List.set_cons_succ]
                  refine take_at (i := 7) 60 (v := vs) rfl (by kernel_rfl) (by kernel_rfl) (by kernel_rfl) rfl (fun _ _ _ h => h) (by rfl) (fun w hSw => ?_) hHeld ?_
                  · (try dsimp only at hSw); go_simp
                  simp only [Act.put, List.setIfInBounds_toArray, List.set_cons_zero, List.set_cons_succ]
                  refine take_at (i := 8) 61 (v := .slice (some ⟨gc, 0, none⟩) N cc) rfl (by kernel_rfl) (by kernel_rfl) (by kernel_rfl) rfl (fun _ _ _ h => h) (by rfl) (fun w hSw => ?_) hHeld ?_
                  · (try dsimp only at hSw); go_simp
                  simp only [Act.put, List.setIfInBounds_toArray, List.set_cons_zero, List.set_cons_succ]
                  refine take_at (i := 9) 62 (v := .int .i64 j) rfl (by kernel_rfl) (by kernel_rfl) (by kernel_rfl) rfl (fun _ _ _ h => h) (by rfl) (fun w hSw => ?_) hHeld ?_
                  · (try dsimp only at hSw); go_simp
                  simp only [Act.put, List.setIfInBounds_toArray, List.set_cons_zero, List.set_cons_succ]
                  refine take_at (i := 10) 63 (v := .pointer (some ⟨gc, j * 3, none⟩)) rfl (by kernel_rfl) (by kernel_rfl) (by kernel_rfl) rfl (fun _ _ _ h => h) (by rfl) (fun w hSw => ?_) hHeld ?_
                  · (try dsimp only at hSw); go_simp
                  simp only [Act.put, List.setIfInBounds_toArray, List.set_cons_zero, List.set_cons_succ]
                  refine take_at (i := 11) 64 (v := .agg #[.int .i64 p, .int .i64 x, .int .i64 y]) rfl (by kernel_rfl) (by kernel_rfl) (by kernel_rfl) rfl (fun _ _ _ h => h) (by rfl) (fun w hSw => ?_) hHeld ?_
                  · (try dsimp only at hSw); go_simp
                  simp only [Act.put, List.setIfInBounds_toArray, List.set_cons_zero, List.set_cons_succ]
                  refine wpAnyH_ready (rs := [12]) (by kernel_rfl) (by simp) ?_
                  refine node_f29 65 60 64 _ _ rfl (by rfl) rfl rfl rfl rfl ((CS.out _ ((Below.refl _ _).drew)).mono ?_) AllReadyH.nil
                  · rintro e w10 ⟨rfl, hb10⟩
                    have hHeld := KEEP.out _ hb10
                    refine ⟨_, rfl, hHeld, ?_⟩
                    have HB10 := hid hb10
                    clear hb10
                    simp only [Act.put, List.setIfInBounds_toArray, List.set_cons_zero, List.set_cons_succ]
                    refine take_at (i := 13) 66 (v := .bool true) rfl (by kernel_rfl) (by kernel_rfl) (by kernel_rfl) rfl (fun _ _ _ h => h) (by rfl) (fun w hSw => ?_) hHeld ?_
                    · (try dsimp only at hSw); go_simp
                    simp only [Act.put, List.setIfInBounds_toArray, List.set_cons_zero, List.set_cons_succ]
                    refine take_at (i := 14) 67 (v := .bool true) rfl (by kernel_rfl) (by kernel_rfl) (by kernel_rfl) rfl (fun _ _ _ h => h) (by rfl) (fun w hSw => ?_) hHeld ?_
                    · (try dsimp only at hSw); go_simp
                    simp only [Act.put, List.setIfInBounds_toArray, List.set_cons_zero, List.set_cons_succ]
                    refine take_at (i := 15) 68 (v := .agg #[vs, vm, vj]) rfl (by kernel_rfl) (by kernel_rfl) (by kernel_rfl) rfl (fun _ _ _ h => h) (by rfl) (fun w hSw => ?_) hHeld ?_
                    · (try dsimp only at hSw); go_simp
                    simp only [Act.put, List.setIfInBounds_toArray, List.set_cons_zero, List.set_cons_succ]
                    refine take_at (i := 16) 69 (v := .slice ag PG cg) rfl (by kernel_rfl) (by kernel_rfl) (by kernel_rfl) rfl (fun _ _ _ h => h) (by rfl) (fun w hSw => ?_) hHeld ?_
                    · (try dsimp only at hSw); go_simp
                    simp only [Act.put, List.setIfInBounds_toArray, List.set_cons_zero, List.set_cons_succ]
                    refine take_at (i := 17) 70 (v := .slice (some ⟨gc, 0, none⟩) N cc) rfl (by kernel_rfl) (by kernel_rfl) (by kernel_rfl) rfl (fun _ _ _ h => h) (by rfl) (fun w hSw => ?_) hHeld ?_
                    · (try dsimp only at hSw); go_simp
                    simp only [Act.put, List.setIfInBounds_toArray, List.set_cons_zero, List.set_cons_succ]
                    refine take_at (i := 18) 71 (v := .int .i64 j) rfl (by kernel_rfl) (by kernel_rfl) (by kernel_rfl) rfl (fun _ _ _ h => h) (by rfl) (fun w hSw => ?_) hHeld ?_
                    · (try dsimp only at hSw); go_simp
                    simp only [Act.put, List.setIfInBounds_toArray, List.set_cons_zero, List.set_cons_succ]
                    refine take_at (i := 19) 72 (v := .pointer (some ⟨gc, j * 3, none⟩)) rfl (by kernel_rfl) (by kernel_rfl) (by kernel_rfl) rfl (fun _ _ _ h => h) (by rfl) (fun w hSw => ?_) hHeld ?_
                    · (try dsimp only at hSw); go_simp
                    simp only [Act.put, List.setIfInBounds_toArray, List.set_cons_zero, List.set_cons_succ]
                    refine take_at (i := 20) 73 (v := .agg #[.int .i64 p, .int .i64 x, .int .i64 y]) rfl (by kernel_rfl) (by kernel_rfl) (by kernel_rfl) rfl (fun _ _ _ h => h) (by rfl) (fun w hSw => ?_) hHeld ?_
                    · (try dsimp only at hSw); go_simp
                    simp only [Act.put, List.setIfInBounds_toArray, List.set_cons_zero, List.set_cons_succ]
                    refine wpAnyH_ready (rs := [21]) (by kernel_rfl) (by simp) ?_
                    refine node_f22 74 68 69 73 _ _ _ rfl (by rfl) rfl rfl rfl rfl rfl ((CM.out _ HB10.out).mono ?_) AllReadyH.nil
                    · rintro e w11 ⟨rfl, hb11⟩
                      have hHeld := KEEP.out _ hb11
                      refine ⟨_, rfl, hHeld, ?_⟩
                      have HB11 := hid hb11
                      clear hb11
                      simp only [Act.put, List.setIfInBounds_toArray, List.set_cons_zero, List.set_cons_succ]
                      refine take_at (i := 22) 75 (v := .bool false) rfl (by kernel_rfl) (by kernel_rfl) (by kernel_rfl) rfl (fun _ _ _ h => h) (by rfl) (fun w hSw => ?_) hHeld ?_
                      · (try dsimp only at hSw); go_simp
                      simp only [Act.put, List.setIfInBounds_toArray, List.set_cons_zero, List.set_cons_succ]
                      refine take_at (i := 23) 76 (v := .bool false) rfl (by kernel_rfl) (by kernel_rfl) (by kernel_rfl) rfl (fun _ _ _ h => h) (by rfl) (fun w hSw => ?_) hHeld ?_
                      · (try dsimp only at hSw); go_simp
                      simp only [Act.put, List.setIfInBounds_toArray, List.set_cons_zero, List.set_cons_succ]
                      refine wpAnyH_done (by kernel_rfl) ?_ _
                      clear hHeld
                      have HR := hid HB11.out
                      go_wp2_with fail
                      go_roundw
                      case rel => exact ⟨b, j + 1, rfl, by go_num, by omega, by rw [← HA2.out, Bool.or_false]; exact rfl, by rw [← HL2.out]; exact ownI_below HI.out HR.out, ownG_below HG.out HR.out, UP.out _ HR.out⟩
                      case measure => simp [intOf]; omega
                · have hnv : nv = true := by have := HOF.out; simpa using this
                  have HL2 := hid (HLout.out hnv)
                  have HA2 := hid (HANY.out true hnv)
                  have hm : ¬ mv < 0 := fun h => by have := hmn.1 h; cases this
                  have hm2 : 0 ≤ mv := by omega
                  clear HLout HLin HANY HOF hmn
                  refine wp_region_held_drew (S := fun w' => w'.cell? ⟨X, 0, none⟩ = some vs ∧ w'.cell? ⟨X, 1, none⟩ = some vm ∧ w'.cell? ⟨X, 2, none⟩ = some vj ∧ w'.cell? ⟨gc, j * 3, none⟩ = some (.int .i64 p) ∧ w'.cell? ⟨gc, j * 3 + 1, none⟩ = some (.int .i64 x) ∧ w'.cell? ⟨gc, j * 3 + 2, none⟩ = some (.int .i64 y) ∧ w'.cell? ⟨gl, j, none⟩ = some (.int .i64 lv) ∧ Hid (Below wx.heap.size wx w')) (by kernel_rfl) (KEEP.out _ ((Below.refl _ _).drew)) (fun hHeld => ?_)
                  refine take_at (i := 0) 53 (v := .slice (some ⟨gl, 0, none⟩) N cl) rfl (by kernel_rfl) (by kernel_rfl) (by kernel_rfl) rfl (fun _ _ _ h => h) (by rfl) (fun w hSw => ?_) hHeld ?_
                  · (try dsimp only at hSw); go_simp
                  simp only [Act.put, List.setIfInBounds_toArray, List.set_cons_zero, List.set_cons_succ]
                  refine take_at (i := 1) 54 (v := .int .i64 j) rfl (by kernel_rfl) (by kernel_rfl) (by kernel_rfl) rfl (fun _ _ _ h => h) (by rfl) (fun w hSw => ?_) hHeld ?_
                  · (try dsimp only at hSw); go_simp
                  simp only [Act.put, List.setIfInBounds_toArray, List.set_cons_zero, List.set_cons_succ]
                  refine take_at (i := 2) 55 (v := .pointer (some ⟨gl, j, none⟩)) rfl (by kernel_rfl) (by kernel_rfl) (by kernel_rfl) rfl (fun _ _ _ h => h) (by rfl) (fun w hSw => ?_) hHeld ?_
                  · (try dsimp only at hSw); go_simp
                  simp only [Act.put, List.setIfInBounds_toArray, List.set_cons_zero, List.set_cons_succ]
                  refine take_at (i := 3) 56 (v := .int .i64 lv) rfl (by kernel_rfl) (by kernel_rfl) (by kernel_rfl) rfl (fun _ _ _ h => h) (by rfl) (fun w hSw => ?_) hHeld ?_
                  · (try dsimp only at hSw); go_simp
                  simp only [Act.put, List.setIfInBounds_toArray, List.set_cons_zero, List.set_cons_succ]
                  refine take_at (i := 4) 57 (v := .bool true) rfl (by kernel_rfl) (by kernel_rfl) (by kernel_rfl) rfl (fun _ _ _ h => h) (by rfl) (fun w hSw => ?_) hHeld ?_
                  · (try dsimp only at hSw); go_simp
                  simp only [Act.put, List.setIfInBounds_toArray, List.set_cons_zero, List.set_cons_succ]
                  refine take_at (i := 5) 58 (v := .bool true) rfl (by kernel_rfl) (by kernel_rfl) (by kernel_rfl) rfl (fun _ _ _ h => h) (by rfl) (fun w hSw => ?_) hHeld ?_
                  · (try dsimp only at hSw); go_simp
                  simp only [Act.put, List.setIfInBounds_toArray, List.set_cons_zero, List.set_cons_succ]
                  refine take_at (i := 6) 59 (v := .pointer (some ⟨X, 0, none⟩)) rfl (by kernel_rfl) (by kernel_rfl) (by kernel_rfl) rfl (fun _ _ _ h => h) (by rfl) (fun w hSw => ?_) hHeld ?_
                  · (try dsimp only at hSw); go_simp
                  simp only [Act.put, List.setIfInBounds_toArray, List.set_cons_zero, List.set_cons_succ]
                  refine take_at (i := 7) 60 (v := vs) rfl (by kernel_rfl) (by kernel_rfl) (by kernel_rfl) rfl (fun _ _ _ h => h) (by rfl) (fun w hSw => ?_) hHeld ?_
                  · (try dsimp only at hSw); go_simp
                  simp only [Act.put, List.setIfInBounds_toArray, List.set_cons_zero, List.set_cons_succ]
                  refine take_at (i := 8) 61 (v := .slice (some ⟨gc, 0, none⟩) N cc) rfl (by kernel_rfl) (by kernel_rfl) (by kernel_rfl) rfl (fun _ _ _ h => h) (by rfl) (fun w hSw => ?_) hHeld ?_
                  · (try dsimp only at hSw); go_simp
                  simp only [Act.put, List.setIfInBounds_toArray, List.set_cons_zero, List.set_cons_succ]
                  refine take_at (i := 9) 62 (v := .int .i64 j) rfl (by kernel_rfl) (by kernel_rfl) (by kernel_rfl) rfl (fun _ _ _ h => h) (by rfl) (fun w hSw => ?_) hHeld ?_
                  · (try dsimp only at hSw); go_simp
                  simp only [Act.put, List.setIfInBounds_toArray, List.set_cons_zero, List.set_cons_succ]
                  refine take_at (i := 10) 63 (v := .pointer (some ⟨gc, j * 3, none⟩)) rfl (by kernel_rfl) (by kernel_rfl) (by kernel_rfl) rfl (fun _ _ _ h => h) (by rfl) (fun w hSw => ?_) hHeld ?_
                  · (try dsimp only at hSw); go_simp
                  simp only [Act.put, List.setIfInBounds_toArray, List.set_cons_zero, List.set_cons_succ]
                  refine take_at (i := 11) 64 (v := .agg #[.int .i64 p, .int .i64 x, .int .i64 y]) rfl (by kernel_rfl) (by kernel_rfl) (by kernel_rfl) rfl (fun _ _ _ h => h) (by rfl) (fun w hSw => ?_) hHeld ?_
                  · (try dsimp only at hSw); go_simp
                  simp only [Act.put, List.setIfInBounds_toArray, List.set_cons_zero, List.set_cons_succ]
                  refine wpAnyH_ready (rs := [12]) (by kernel_rfl) (by simp) ?_
                  refine node_f29 65 60 64 _ _ rfl (by rfl) rfl rfl rfl rfl ((CS.out _ ((Below.refl _ _).drew)).mono ?_) AllReadyH.nil
                  · rintro e w10 ⟨rfl, hb10⟩
                    have hHeld := KEEP.out _ hb10
                    refine ⟨_, rfl, hHeld, ?_⟩
                    have HB10 := hid hb10
                    clear hb10
                    simp only [Act.put, List.setIfInBounds_toArray, List.set_cons_zero, List.set_cons_succ]
                    refine take_at (i := 13) 66 (v := .bool true) rfl (by kernel_rfl) (by kernel_rfl) (by kernel_rfl) rfl (fun _ _ _ h => h) (by rfl) (fun w hSw => ?_) hHeld ?_
                    · (try dsimp only at hSw); go_simp
                    simp only [Act.put, List.setIfInBounds_toArray, List.set_cons_zero, List.set_cons_succ]
                    refine take_at (i := 14) 67 (v := .bool true) rfl (by kernel_rfl) (by kernel_rfl) (by kernel_rfl) rfl (fun _ _ _ h => h) (by rfl) (fun w hSw => ?_) hHeld ?_
                    · (try dsimp only at hSw); go_simp
                    simp only [Act.put, List.setIfInBounds_toArray, List.set_cons_zero, List.set_cons_succ]
                    refine take_at (i := 15) 68 (v := .agg #[vs, vm, vj]) rfl (by kernel_rfl) (by kernel_rfl) (by kernel_rfl) rfl (fun _ _ _ h => h) (by rfl) (fun w hSw => ?_) hHeld ?_
                    · (try dsimp only at hSw); go_simp
                    simp only [Act.put, List.setIfInBounds_toArray, List.set_cons_zero, List.set_cons_succ]
                    refine take_at (i := 16) 69 (v := .slice ag PG cg) rfl (by kernel_rfl) (by kernel_rfl) (by kernel_rfl) rfl (fun _ _ _ h => h) (by rfl) (fun w hSw => ?_) hHeld ?_
                    · (try dsimp only at hSw); go_simp
                    simp only [Act.put, List.setIfInBounds_toArray, List.set_cons_zero, List.set_cons_succ]
                    refine take_at (i := 17) 70 (v := .slice (some ⟨gc, 0, none⟩) N cc) rfl (by kernel_rfl) (by kernel_rfl) (by kernel_rfl) rfl (fun _ _ _ h => h) (by rfl) (fun w hSw => ?_) hHeld ?_
                    · (try dsimp only at hSw); go_simp
                    simp only [Act.put, List.setIfInBounds_toArray, List.set_cons_zero, List.set_cons_succ]
                    refine take_at (i := 18) 71 (v := .int .i64 j) rfl (by kernel_rfl) (by kernel_rfl) (by kernel_rfl) rfl (fun _ _ _ h => h) (by rfl) (fun w hSw => ?_) hHeld ?_
                    · (try dsimp only at hSw); go_simp
                    simp only [Act.put, List.setIfInBounds_toArray, List.set_cons_zero, List.set_cons_succ]
                    refine take_at (i := 19) 72 (v := .pointer (some ⟨gc, j * 3, none⟩)) rfl (by kernel_rfl) (by kernel_rfl) (by kernel_rfl) rfl (fun _ _ _ h => h) (by rfl) (fun w hSw => ?_) hHeld ?_
                    · (try dsimp only at hSw); go_simp
                    simp only [Act.put, List.setIfInBounds_toArray, List.set_cons_zero, List.set_cons_succ]
                    refine take_at (i := 20) 73 (v := .agg #[.int .i64 p, .int .i64 x, .int .i64 y]) rfl (by kernel_rfl) (by kernel_rfl) (by kernel_rfl) rfl (fun _ _ _ h => h) (by rfl) (fun w hSw => ?_) hHeld ?_
                    · (try dsimp only at hSw); go_simp
                    simp only [Act.put, List.setIfInBounds_toArray, List.set_cons_zero, List.set_cons_succ]
                    refine wpAnyH_ready (rs := [21]) (by kernel_rfl) (by simp) ?_
                    refine node_f22 74 68 69 73 _ _ _ rfl (by rfl) rfl rfl rfl rfl rfl ((CM.out _ HB10.out).mono ?_) AllReadyH.nil
                    · rintro e w11 ⟨rfl, hb11⟩
                      have hHeld := KEEP.out _ hb11
                      refine ⟨_, rfl, hHeld, ?_⟩
                      have HB11 := hid hb11
                      clear hb11
                      simp only [Act.put, List.setIfInBounds_toArray, List.set_cons_zero, List.set_cons_succ]
                      refine take_at (i := 22) 75 (v := .bool true) rfl (by kernel_rfl) (by kernel_rfl) (by kernel_rfl) rfl (fun _ _ _ h => h) (by rfl) (fun w hSw => ?_) hHeld ?_
                      · (try dsimp only at hSw); go_simp
                      simp only [Act.put, List.setIfInBounds_toArray, List.set_cons_zero, List.set_cons_succ]
                      refine take_at (i := 23) 76 (v := .bool true) rfl (by kernel_rfl) (by kernel_rfl) (by kernel_rfl) rfl (fun _ _ _ h => h) (by rfl) (fun w hSw => ?_) hHeld ?_
                      · (try dsimp only at hSw); go_simp
                      simp only [Act.put, List.setIfInBounds_toArray, List.set_cons_zero, List.set_cons_succ]
                      refine wpAnyH_done (by kernel_rfl) ?_ _
                      clear hHeld
                      have HI6 := hid (ownI_below HI.out HB11.out)
                      have HG6 := hid (ownG_below HG.out HB11.out)
                      have HBZ := hid (UP.out _ HB11.out)
                      obtain ⟨y0, y1, y2, z0, z1, z2, z3, -⟩ := KEEP.out _ HB11.out
                      have hfz := ownI_frozen HI6.out j
                      go_wp2_with fail
                      go_roundw
                      case rel =>
                        obtain ⟨s1, s2, s3, s4⟩ := ownI_set HI6.out j ((k : Int) + 1)
                        rw [HL2.out] at s1
                        exact ⟨true, j + 1, rfl, by go_num, by omega, by rw [← HA2.out, Bool.or_true]; exact rfl, s1, ownG_other HG6.out s2 (fun k hk => by injection hk with hk; subst hk; exact s3), HBZ.out.grown s2 HBZ.out.size (fun k hk => by injection hk with hk; subst hk; exact s4)⟩
                      case measure => simp [intOf]; omega
            · have hneg : ¬ lv < 0 := of_decide_eq_false hsg
              have hdn : decide (lv < 0) = false := hsg
              have hnv : nv = false := by have := HOF.out; simpa using this
              have HL2 := hid (HLin.out hnv)
              have HA2 := hid (HANY.out false hnv)
              clear HLout HLin HANY HOF hmn
              refine wp_region_held_drew (S := fun w' => w'.cell? ⟨X, 0, none⟩ = some vs ∧ w'.cell? ⟨X, 1, none⟩ = some vm ∧ w'.cell? ⟨X, 2, none⟩ = some vj ∧ w'.cell? ⟨gc, j * 3, none⟩ = some (.int .i64 p) ∧ w'.cell? ⟨gc, j * 3 + 1, none⟩ = some (.int .i64 x) ∧ w'.cell? ⟨gc, j * 3 + 2, none⟩ = some (.int .i64 y) ∧ w'.cell? ⟨gl, j, none⟩ = some (.int .i64 lv) ∧ Hid (Below wx.heap.size wx w')) (by kernel_rfl) (KEEP.out _ ((Below.refl _ _).drew)) (fun hHeld => ?_)
              refine take_at (i := 0) 53 (v := .slice (some ⟨gl, 0, none⟩) N cl) rfl (by kernel_rfl) (by kernel_rfl) (by kernel_rfl) rfl (fun _ _ _ h => h) (by rfl) (fun w hSw => ?_) hHeld ?_
              · (try dsimp only at hSw); go_simp
              simp only [Act.put, List.setIfInBounds_toArray, List.set_cons_zero, List.set_cons_succ]
              refine take_at (i := 1) 54 (v := .int .i64 j) rfl (by kernel_rfl) (by kernel_rfl) (by kernel_rfl) rfl (fun _ _ _ h => h) (by rfl) (fun w hSw => ?_) hHeld ?_
              · (try dsimp only at hSw); go_simp
              simp only [Act.put, List.setIfInBounds_toArray, List.set_cons_zero, List.set_cons_succ]
              refine take_at (i := 2) 55 (v := .pointer (some ⟨gl, j, none⟩)) rfl (by kernel_rfl) (by kernel_rfl) (by kernel_rfl) rfl (fun _ _ _ h => h) (by rfl) (fun w hSw => ?_) hHeld ?_
              · (try dsimp only at hSw); go_simp
              simp only [Act.put, List.setIfInBounds_toArray, List.set_cons_zero, List.set_cons_succ]
              refine take_at (i := 3) 56 (v := .int .i64 lv) rfl (by kernel_rfl) (by kernel_rfl) (by kernel_rfl) rfl (fun _ _ _ h => h) (by rfl) (fun w hSw => ?_) hHeld ?_
              · (try dsimp only at hSw); go_simp
              simp only [Act.put, List.setIfInBounds_toArray, List.set_cons_zero, List.set_cons_succ]
              refine take_at (i := 4) 57 (v := .bool false) rfl (by kernel_rfl) (by kernel_rfl) (by kernel_rfl) rfl (fun _ _ _ h => h) (by rfl) (fun w hSw => ?_) hHeld ?_
              · (try dsimp only at hSw); go_simp
              simp only [Act.put, List.setIfInBounds_toArray, List.set_cons_zero, List.set_cons_succ]
              refine take_at (i := 5) 58 (v := .bool false) rfl (by kernel_rfl) (by kernel_rfl) (by kernel_rfl) rfl (fun _ _ _ h => h) (by rfl) (fun w hSw => ?_) hHeld ?_
              · (try dsimp only at hSw); go_simp
              simp only [Act.put, List.setIfInBounds_toArray, List.set_cons_zero, List.set_cons_succ]
              refine skip_at (i := 6) 59 rfl (by kernel_rfl) (by kernel_rfl) (by kernel_rfl) rfl (fun _ _ _ h => h) (by rfl) hHeld ?_
              simp only [Act.put, List.setIfInBounds_toArray, List.set_cons_zero, List.set_cons_succ]
              refine skip_at (i := 7) 60 rfl (by kernel_rfl) (by kernel_rfl) (by kernel_rfl) rfl (fun _ _ _ h => h) (by rfl) hHeld ?_
              simp only [Act.put, List.setIfInBounds_toArray, List.set_cons_zero, List.set_cons_succ]
              refine skip_at (i := 8) 61 rfl (by kernel_rfl) (by kernel_rfl) (by kernel_rfl) rfl (fun _ _ _ h => h) (by rfl) hHeld ?_
              simp only [Act.put, List.setIfInBounds_toArray, List.set_cons_zero, List.set_cons_succ]
              refine skip_at (i := 9) 62 rfl (by kernel_rfl) (by kernel_rfl) (by kernel_rfl) rfl (fun _ _ _ h => h) (by rfl) hHeld ?_
              simp only [Act.put, List.setIfInBounds_toArray, List.set_cons_zero, List.set_cons_succ]
              refine skip_at (i := 10) 63 rfl (by kernel_rfl) (by kernel_rfl) (by kernel_rfl) rfl (fun _ _ _ h => h) (by rfl) hHeld ?_
              simp only [Act.put, List.setIfInBounds_toArray, List.set_cons_zero, List.set_cons_succ]
              refine skip_at (i := 11) 64 rfl (by kernel_rfl) (by kernel_rfl) (by kernel_rfl) rfl (fun _ _ _ h => h) (by rfl) hHeld ?_
              simp only [Act.put, List.setIfInBounds_toArray, List.set_cons_zero, List.set_cons_succ]
              refine skip_at (i := 12) 65 rfl (by kernel_rfl) (by kernel_rfl) (by kernel_rfl) rfl (fun _ _ _ h => h) (by rfl) hHeld ?_
              simp only [Act.put, List.setIfInBounds_toArray, List.set_cons_zero, List.set_cons_succ]
              refine take_at (i := 13) 66 (v := .bool false) rfl (by kernel_rfl) (by kernel_rfl) (by kernel_rfl) rfl (fun _ _ _ h => h) (by rfl) (fun w hSw => ?_) hHeld ?_
              · (try dsimp only at hSw); go_simp
              simp only [Act.put, List.setIfInBounds_toArray, List.set_cons_zero, List.set_cons_succ]
              refine take_at (i := 14) 67 (v := .bool false) rfl (by kernel_rfl) (by kernel_rfl) (by kernel_rfl) rfl (fun _ _ _ h => h) (by rfl) (fun w hSw => ?_) hHeld ?_
              · (try dsimp only at hSw); go_simp
              simp only [Act.put, List.setIfInBounds_toArray, List.set_cons_zero, List.set_cons_succ]
              refine skip_at (i := 15) 68 rfl (by kernel_rfl) (by kernel_rfl) (by kernel_rfl) rfl (fun _ _ _ h => h) (by rfl) hHeld ?_
              simp only [Act.put, List.setIfInBounds_toArray, List.set_cons_zero, List.set_cons_succ]
              refine skip_at (i := 16) 69 rfl (by kernel_rfl) (by kernel_rfl) (by kernel_rfl) rfl (fun _ _ _ h => h) (by rfl) hHeld ?_
              simp only [Act.put, List.setIfInBounds_toArray, List.set_cons_zero, List.set_cons_succ]
              refine skip_at (i := 17) 70 rfl (by kernel_rfl) (by kernel_rfl) (by kernel_rfl) rfl (fun _ _ _ h => h) (by rfl) hHeld ?_
              simp only [Act.put, List.setIfInBounds_toArray, List.set_cons_zero, List.set_cons_succ]
              refine skip_at (i := 18) 71 rfl (by kernel_rfl) (by kernel_rfl) (by kernel_rfl) rfl (fun _ _ _ h => h) (by rfl) hHeld ?_
              simp only [Act.put, List.setIfInBounds_toArray, List.set_cons_zero, List.set_cons_succ]
              refine skip_at (i := 19) 72 rfl (by kernel_rfl) (by kernel_rfl) (by kernel_rfl) rfl (fun _ _ _ h => h) (by rfl) hHeld ?_
              simp only [Act.put, List.setIfInBounds_toArray, List.set_cons_zero, List.set_cons_succ]
              refine skip_at (i := 20) 73 rfl (by kernel_rfl) (by kernel_rfl) (by kernel_rfl) rfl (fun _ _ _ h => h) (by rfl) hHeld ?_
              simp only [Act.put, List.setIfInBounds_toArray, List.set_cons_zero, List.set_cons_succ]
              refine skip_at (i := 21) 74 rfl (by kernel_rfl) (by kernel_rfl) (by kernel_rfl) rfl (fun _ _ _ h => h) (by rfl) hHeld ?_
              simp only [Act.put, List.setIfInBounds_toArray, List.set_cons_zero, List.set_cons_succ]
              refine skip_at (i := 22) 75 rfl (by kernel_rfl) (by kernel_rfl) (by kernel_rfl) rfl (fun _ _ _ h => h) (by rfl) hHeld ?_
              simp only [Act.put, List.setIfInBounds_toArray, List.set_cons_zero, List.set_cons_succ]
              refine take_at (i := 23) 76 (v := .bool false) rfl (by kernel_rfl) (by kernel_rfl) (by kernel_rfl) rfl (fun _ _ _ h => h) (by rfl) (fun w hSw => ?_) hHeld ?_
              · (try dsimp only at hSw); go_simp
              simp only [Act.put, List.setIfInBounds_toArray, List.set_cons_zero, List.set_cons_succ]
              refine wpAnyH_done (by kernel_rfl) ?_ _
              clear hHeld
              have HR := hid ((Below.refl wx.heap.size wx).drew)
              go_wp2_with fail
              go_roundw
              case rel => exact ⟨b, j + 1, rfl, by go_num, by omega, by rw [← HA2.out, Bool.or_false]; exact rfl, by rw [← HL2.out]; exact ownI_below HI.out HR.out, ownG_below HG.out HR.out, UP.out _ HR.out⟩
              case measure => simp [intOf]; omega
          · obtain rfl : N = j := by omega
            have HIE : Hid (OwnI wx w5.heap.size (.slice (some ⟨gl, 0, none⟩) N cl) (o.listOf (o.nearF gg (k + 1)))) := by
              have := HI.out
              rw [HN.out, nearI_end, ← HN.out] at this
              exact this
            have HBE : Hid (b = o.cells.any (o.newF gg k)) := by
              have := HBB.out
              rwa [HN.out, List.take_of_length_le (by rw [cells_len]; exact Nat.le_refl _)] at this
            have hcnt := count_new o gg k
            cases b
            · have hst := stillG_of o gg k HBE.out.symm
              have HLL : Hid (o.listOf (o.nearF gg (k + 1)) = o.listOf (fun c => nearN (o.NN gg c))) := by
                show _ = _
                unfold Ov.nearF
                rw [NN_of o gg (stillG_succ o gg k hst)]
              clear hst hcnt
              go_wp2_with fail
              go_ret
              refine ⟨_, rfl, ?_, HUPW.out _ HB.out⟩
              have := HIE.out
              rw [HLL.out] at this
              exact row_mono this (Nat.le_trans HBW.out.size HBW5.out.size)
            · have hne := new_pos o gg k HBE.out.symm
              go_wp2_with fail
              go_roundw
              case rel => exact ⟨k + 1, by go_num, by omega, HIE, HB⟩
              case measure => simp [intOf]; omega
end Go.Proofs.YtjonbhimbhidpaaDoor
