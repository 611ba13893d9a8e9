/-
  The ratio (9).
-/
import Derived.Test.YtlhmidecjiihcaaDoorGearF
namespace Go.Proofs.YtlhmidecjiihcaaDoor
open Go.RowKit
section
variable {md : Region.Mode} {ops : Array Oper} {Q : Exit → Act → World → Prop} {S : World → Prop} {fuel : Nat} {listed : Array Bool} {a : Act} {w : World} {i : Nat} {o : Oper} {rs : List Nat}
theorem node_f24c (d k1 : Nat) (v1 : Value) (hi : ops[i]? = some o) (hgd : Region.wanted o (yielded ops a.tmps) = true) (ho : o.op = .call { callee := .value (.func 24), args := #[.tmp k1, .func 25], argTypes := #[65, 69] }) (hd : o.dst = some d)
    (hv1 : a.tmps[k1]?.getD undef = v1)
    (h : Calls Tryd.prog 24 #[v1, .func (.func 25) #[] #[]] w fun e w' => ∃ u, e = .returned u ∧ S w' ∧ wpAnyH Tryd.prog md ops Q S fuel (listed.setIfInBounds i true) (a.put (some d) u) w')
    (hs : AllReadyH Tryd.prog md ops Q S fuel listed a w rs) : AllReadyH Tryd.prog md ops Q S fuel listed a w (i :: rs) := by
  refine AllReadyH.cons hi (fun K hK => ?_) hs
  rw [if_pos hgd]
  unfold Oper.wp execOp
  simp [ho, go_sem, hv1]
  refine h.mono ?_
  rintro e w' ⟨u, rfl, h1, h2⟩
  have hk := hK.out _ _ h1 (fun _ => h2)
  rw [hd]
  exact hk
theorem node_f19 (d : Nat) (k1 : Nat) (v1 : Value) (hi : ops[i]? = some o) (hgd : Region.wanted o (yielded ops a.tmps) = true) (ho : o.op = .call { callee := .value (.func 19), args := #[.tmp k1], argTypes := #[54] }) (hd : o.dst = some d)
    (hp1 : a.tmps[k1]?.getD undef = v1)
    (h : Calls Tryd.prog 19 #[v1] w fun e w' => ∃ u, e = .returned u ∧ S w' ∧ wpAnyH Tryd.prog md ops Q S fuel (listed.setIfInBounds i true) (a.put (some d) u) w')
    (hs : AllReadyH Tryd.prog md ops Q S fuel listed a w rs) : AllReadyH Tryd.prog md ops Q S fuel listed a w (i :: rs) := by
  refine AllReadyH.cons hi (fun K hK => ?_) hs
  rw [if_pos hgd]
  unfold Oper.wp execOp
  simp [ho, go_sem, hp1]
  refine h.mono ?_
  rintro e w' ⟨u, rfl, h1, h2⟩
  have hk := hK.out _ _ h1 (fun _ => h2)
  rw [hd]
  exact hk
end
set_option maxRecDepth 100000 in
set_option maxHeartbeats 4000000 in
theorem gratio2_any (v : Value) (m b : Nat) (w : World) (n : Nat) (hn : n = b + 1) (hv : IsB w v m b) (hm : 1 ≤ m) (hm2 : m ≤ 12) (hb1 : 1 ≤ b) (hb : b ≤ 5) :
    Calls Tryd.prog 9 #[.int .i64 (n : Int), v, .int .i64 0, .int .i64 (b : Int)] w fun e w' => e = .returned (.tuple #[sd (m ^ b), .int .i64 0]) ∧ Below w.heap.size w w' := by
  have RC := hid (gread_any v m b w hv hm hm2 (by omega))
  rw [← hn] at RC
  obtain ⟨bs, bk, rfl⟩ := hv.sh
  have HV : Hid (∀ w', Below w.heap.size w w' → IsB w' (.slice bs b bk) m b) := fun w' h => hv.below h
  have HN := hid hn
  have hbn : b < n := by omega
  have HP1 : Hid (1 ≤ m ^ b) := hid (Nat.pow_pos hm)
  have HPL : Hid (m ^ b < 1000000) := hid (pow_lt hm2 hb)
  obtain ⟨sq, hsq⟩ : ∃ q, q = (⟨(dec (m ^ b)).toArray⟩ : ByteArray) := ⟨_, rfl⟩
  have HSD : Hid (sd (m ^ b) = .string sq) := hid (by rw [hsq]; rfl)
  have HSQ : Hid ((⟨(dec (m ^ b)).toArray⟩ : ByteArray) = sq) := hid hsq.symm
  clear hv hn hsq
  go_enter Tryd.func9, Tryd.ntmps9
  go_wp2_with fail
  go_at_call 23
  refine RC.out.mono ?_
  rintro e w1 ⟨X, rfl, HX, HXW, hb1'⟩
  have HB1 := hid hb1'
  have SC := hid (speeds_any m b X bs bk w1 n HN.out HX.out (HV.out w1 hb1') hm hm2 hb1 hb)
  clear hb1' RC
  go_wp2_with fail
  go_at_call 26
  refine SC.out.mono ?_
  rintro e w2 ⟨Gs, Gp, rfl, hsp, hpt, hb2⟩
  have HB2 := hid (below_step HB1.out hb2)
  have HSP : Hid (∀ w', Below w2.heap.size w2 w' → SpL w' Gs n n m) := fun w' h => hsp.below h
  have TC : Hid (∀ w', Below w2.heap.size w2 w' → Calls Tryd.prog 24 #[.pointer (some ⟨X, 0, none⟩), .func (.func 25) #[] #[]] w' fun e w'' => e = .returned (.bool true) ∧ Below w'.heap.size w' w'') := fun w' h => turns_any m b X bs bk w' n HN.out (cells_box HX.out (below_step hb2 h)) (HV.out w' (below_step HB2.out h)) hm hm2 hb1 hb
  have H5 : Hid (w2.cell? ⟨Gp, 0, none⟩ = some (.int .i64 0) ∧ w2.cell? ⟨Gp, b, none⟩ = some (.int .i64 0)) := hid ⟨hpt.lo 0 (by omega), hpt.lo b hbn⟩
  clear hsp hpt hb2 SC
  go_upto_region 5 with fail
  refine wp_region_held_drew (S := fun w' => w'.cell? ⟨Gp, 0, none⟩ = some (.int .i64 0) ∧ w'.cell? ⟨Gp, b, none⟩ = some (.int .i64 0)) (by kernel_rfl) (by exact H5.out) (fun hHeld => ?_)
  have HBq : Hid (Below w2.heap.size w2 w2.drew) := (Below.refl _ w2).drew
  generalize w2.drew = u0 at *
  refine take_at (i := 0) 45 (v := .pointer (some ⟨X, 0, none⟩)) rfl (by kernel_rfl) (by kernel_rfl) (by kernel_rfl) rfl (fun _ _ _ h => h) (by rfl) (fun w hSw => ?_) hHeld ?_
  · (try dsimp only at hSw); go_simp
  simp only [Act.put, List.setIfInBounds_toArray, List.set_cons_zero, List.set_cons_succ]
  refine wpAnyH_ready (rs := [1]) (by kernel_rfl) (by simp) ?_
  refine node_f24c 46 45 (.pointer (some ⟨X, 0, none⟩)) rfl rfl rfl rfl rfl ?_ AllReadyH.nil
  · refine (TC.out _ HBq.out).mono ?_
    rintro e w5 ⟨rfl, hb5⟩
    replace hHeld : w5.cell? ⟨Gp, 0, none⟩ = some (.int .i64 0) ∧ w5.cell? ⟨Gp, b, none⟩ = some (.int .i64 0) := ⟨(hb5.cell (World.block_lt_of_cell? _ _ hHeld.1)).trans hHeld.1, (hb5.cell (World.block_lt_of_cell? _ _ hHeld.2)).trans hHeld.2⟩
    replace HBq := hid (below_step HBq.out hb5)
    clear hb5
    refine ⟨_, rfl, hHeld, ?_⟩
    simp only [Act.put, List.setIfInBounds_toArray, List.set_cons_zero, List.set_cons_succ]
    refine take_at (i := 2) 47 (v := .bool false) rfl (by kernel_rfl) (by kernel_rfl) (by kernel_rfl) rfl (fun _ _ _ h => h) (by rfl) (fun w hSw => ?_) hHeld ?_
    · (try dsimp only at hSw); go_simp
    simp only [Act.put, List.setIfInBounds_toArray, List.set_cons_zero, List.set_cons_succ]
    refine take_at (i := 3) 48 (v := .bool false) rfl (by kernel_rfl) (by kernel_rfl) (by kernel_rfl) rfl (fun _ _ _ h => h) (by rfl) (fun w hSw => ?_) hHeld ?_
    · (try dsimp only at hSw); go_simp
    simp only [Act.put, List.setIfInBounds_toArray, List.set_cons_zero, List.set_cons_succ]
    refine take_at (i := 4) 49 (v := .slice (some ⟨Gp, 0, none⟩) n n) rfl (by kernel_rfl) (by kernel_rfl) (by kernel_rfl) rfl (fun _ _ _ h => h) (by rfl) (fun w hSw => ?_) hHeld ?_
    · (try dsimp only at hSw); go_simp
    simp only [Act.put, List.setIfInBounds_toArray, List.set_cons_zero, List.set_cons_succ]
    refine take_at (i := 5) 50 (v := .int .i64 0) rfl (by kernel_rfl) (by kernel_rfl) (by kernel_rfl) rfl (fun _ _ _ h => h) (by rfl) (fun w hSw => ?_) hHeld ?_
    · (try dsimp only at hSw); go_simp
    simp only [Act.put, List.setIfInBounds_toArray, List.set_cons_zero, List.set_cons_succ]
    refine take_at (i := 6) 51 (v := .pointer (some ⟨Gp, 0, none⟩)) rfl (by kernel_rfl) (by kernel_rfl) (by kernel_rfl) rfl (fun _ _ _ h => h) (by rfl) (fun w hSw => ?_) hHeld ?_
    · (try dsimp only at hSw); go_simp; first | done | (intro h; exact absurd (h (by omega)) (by omega))
    simp only [Act.put, List.setIfInBounds_toArray, List.set_cons_zero, List.set_cons_succ]
    refine take_at (i := 7) 52 (v := .int .i64 0) rfl (by kernel_rfl) (by kernel_rfl) (by kernel_rfl) rfl (fun _ _ _ h => h) (by rfl) (fun w hSw => ?_) hHeld ?_
    · (try dsimp only at hSw); (try dsimp only at hSw); obtain ⟨p0, p1⟩ := hSw; go_simp
    simp only [Act.put, List.setIfInBounds_toArray, List.set_cons_zero, List.set_cons_succ]
    refine take_at (i := 8) 53 (v := .slice (some ⟨Gp, 0, none⟩) n n) rfl (by kernel_rfl) (by kernel_rfl) (by kernel_rfl) rfl (fun _ _ _ h => h) (by rfl) (fun w hSw => ?_) hHeld ?_
    · (try dsimp only at hSw); go_simp
    simp only [Act.put, List.setIfInBounds_toArray, List.set_cons_zero, List.set_cons_succ]
    refine take_at (i := 9) 54 (v := .int .i64 (b : Int)) rfl (by kernel_rfl) (by kernel_rfl) (by kernel_rfl) rfl (fun _ _ _ h => h) (by rfl) (fun w hSw => ?_) hHeld ?_
    · (try dsimp only at hSw); go_simp
    simp only [Act.put, List.setIfInBounds_toArray, List.set_cons_zero, List.set_cons_succ]
    refine take_at (i := 10) 55 (v := .pointer (some ⟨Gp, b, none⟩)) rfl (by kernel_rfl) (by kernel_rfl) (by kernel_rfl) rfl (fun _ _ _ h => h) (by rfl) (fun w hSw => ?_) hHeld ?_
    · (try dsimp only at hSw); go_simp; first | done | (intro h; exact absurd (h (by omega)) (by omega))
    simp only [Act.put, List.setIfInBounds_toArray, List.set_cons_zero, List.set_cons_succ]
    refine take_at (i := 11) 56 (v := .int .i64 0) rfl (by kernel_rfl) (by kernel_rfl) (by kernel_rfl) rfl (fun _ _ _ h => h) (by rfl) (fun w hSw => ?_) hHeld ?_
    · (try dsimp only at hSw); (try dsimp only at hSw); obtain ⟨p0, p1⟩ := hSw; go_simp
    simp only [Act.put, List.setIfInBounds_toArray, List.set_cons_zero, List.set_cons_succ]
    refine take_at (i := 12) 57 (v := .bool false) rfl (by kernel_rfl) (by kernel_rfl) (by kernel_rfl) rfl (fun _ _ _ h => h) (by rfl) (fun w hSw => ?_) hHeld ?_
    · (try dsimp only at hSw); go_simp
    simp only [Act.put, List.setIfInBounds_toArray, List.set_cons_zero, List.set_cons_succ]
    refine take_at (i := 13) 58 (v := .bool false) rfl (by kernel_rfl) (by kernel_rfl) (by kernel_rfl) rfl (fun _ _ _ h => h) (by rfl) (fun w hSw => ?_) hHeld ?_
    · (try dsimp only at hSw); go_simp
    simp only [Act.put, List.setIfInBounds_toArray, List.set_cons_zero, List.set_cons_succ]
    refine wpAnyH_done (by kernel_rfl) ?_ _
    clear hHeld
    go_upto_region 7 with fail
    rename World => w6
    obtain ⟨b5, a5, n5, c5, g5, d5, s0, s1, s2, s3, hz5⟩ := (HSP.out _ HBq.out).at b hbn
    obtain ⟨b6, a6, n6, c6, g6, d6, t0, t1, t2, t3, hz6⟩ := (HSP.out _ HBq.out).at 0 (by omega)
    simp only [Nat.zero_mul, Nat.zero_add] at t0 t1 t2 t3
    have HZ5 := hid hz5
    have HZ6 : Hid (RatZ w6 (.agg #[.bool b6, .slice a6 n6 c6, .bool false, .slice (some ⟨g6, 0, none⟩) 1 d6]) 1) := hid hz6
    have H7 : Hid ((w6.cell? ⟨Gs, b * 4, none⟩ = some (.bool b5) ∧ w6.cell? ⟨Gs, b * 4 + 1, none⟩ = some (.slice a5 n5 c5) ∧ w6.cell? ⟨Gs, b * 4 + 2, none⟩ = some (.bool false) ∧ w6.cell? ⟨Gs, b * 4 + 3, none⟩ = some (.slice (some ⟨g5, 0, none⟩) 1 d5)) ∧ (w6.cell? ⟨Gs, 0, none⟩ = some (.bool b6) ∧ w6.cell? ⟨Gs, 1, none⟩ = some (.slice a6 n6 c6) ∧ w6.cell? ⟨Gs, 2, none⟩ = some (.bool false) ∧ w6.cell? ⟨Gs, 3, none⟩ = some (.slice (some ⟨g6, 0, none⟩) 1 d6))) := hid ⟨⟨s0, s1, s2, s3⟩, ⟨t0, t1, t2, t3⟩⟩
    clear hz5 hz6 s0 s1 s2 s3 t0 t1 t2 t3
    refine wp_region_held_drew (S := fun w' => (w'.cell? ⟨Gs, b * 4, none⟩ = some (.bool b5) ∧ w'.cell? ⟨Gs, b * 4 + 1, none⟩ = some (.slice a5 n5 c5) ∧ w'.cell? ⟨Gs, b * 4 + 2, none⟩ = some (.bool false) ∧ w'.cell? ⟨Gs, b * 4 + 3, none⟩ = some (.slice (some ⟨g5, 0, none⟩) 1 d5)) ∧ (w'.cell? ⟨Gs, 0, none⟩ = some (.bool b6) ∧ w'.cell? ⟨Gs, 1, none⟩ = some (.slice a6 n6 c6) ∧ w'.cell? ⟨Gs, 2, none⟩ = some (.bool false) ∧ w'.cell? ⟨Gs, 3, none⟩ = some (.slice (some ⟨g6, 0, none⟩) 1 d6))) (by kernel_rfl) (by exact H7.out) (fun hHeld => ?_)
    replace HBq : Hid (Below w2.heap.size w2 w6.drew) := HBq.out.drew
    replace HZ5 := hid (HZ5.out.below ((Below.refl _ w6).drew))
    replace HZ6 := hid (HZ6.out.below ((Below.refl _ w6).drew))
    generalize w6.drew = u0 at *
    refine take_at (i := 0) 59 (v := .slice (some ⟨Gs, 0, none⟩) n n) rfl (by kernel_rfl) (by kernel_rfl) (by kernel_rfl) rfl (fun _ _ _ h => h) (by rfl) (fun w hSw => ?_) hHeld ?_
    · (try dsimp only at hSw); go_simp
    simp only [Act.put, List.setIfInBounds_toArray, List.set_cons_zero, List.set_cons_succ]
    refine take_at (i := 1) 60 (v := .int .i64 (b : Int)) rfl (by kernel_rfl) (by kernel_rfl) (by kernel_rfl) rfl (fun _ _ _ h => h) (by rfl) (fun w hSw => ?_) hHeld ?_
    · (try dsimp only at hSw); go_simp
    simp only [Act.put, List.setIfInBounds_toArray, List.set_cons_zero, List.set_cons_succ]
    refine take_at (i := 2) 61 (v := .pointer (some ⟨Gs, b * 4, none⟩)) rfl (by kernel_rfl) (by kernel_rfl) (by kernel_rfl) rfl (fun _ _ _ h => h) (by rfl) (fun w hSw => ?_) hHeld ?_
    · (try dsimp only at hSw); go_simp; first | done | (intro h; exact absurd (h (by omega)) (by omega))
    simp only [Act.put, List.setIfInBounds_toArray, List.set_cons_zero, List.set_cons_succ]
    refine take_at (i := 3) 62 (v := .agg #[.bool b5, .slice a5 n5 c5, .bool false, .slice (some ⟨g5, 0, none⟩) 1 d5]) rfl (by kernel_rfl) (by kernel_rfl) (by kernel_rfl) rfl (fun _ _ _ h => h) (by rfl) (fun w hSw => ?_) hHeld ?_
    · (try dsimp only at hSw); (try dsimp only at hSw); obtain ⟨⟨z0, z1, z2, z3⟩, ⟨q0, q1, q2, q3⟩⟩ := hSw; go_simp
    simp only [Act.put, List.setIfInBounds_toArray, List.set_cons_zero, List.set_cons_succ]
    refine take_at (i := 4) 63 (v := .slice (some ⟨Gs, 0, none⟩) n n) rfl (by kernel_rfl) (by kernel_rfl) (by kernel_rfl) rfl (fun _ _ _ h => h) (by rfl) (fun w hSw => ?_) hHeld ?_
    · (try dsimp only at hSw); go_simp
    simp only [Act.put, List.setIfInBounds_toArray, List.set_cons_zero, List.set_cons_succ]
    refine take_at (i := 5) 64 (v := .int .i64 0) rfl (by kernel_rfl) (by kernel_rfl) (by kernel_rfl) rfl (fun _ _ _ h => h) (by rfl) (fun w hSw => ?_) hHeld ?_
    · (try dsimp only at hSw); go_simp
    simp only [Act.put, List.setIfInBounds_toArray, List.set_cons_zero, List.set_cons_succ]
    refine take_at (i := 6) 65 (v := .pointer (some ⟨Gs, 0, none⟩)) rfl (by kernel_rfl) (by kernel_rfl) (by kernel_rfl) rfl (fun _ _ _ h => h) (by rfl) (fun w hSw => ?_) hHeld ?_
    · (try dsimp only at hSw); go_simp; first | done | (intro h; exact absurd (h (by omega)) (by omega))
    simp only [Act.put, List.setIfInBounds_toArray, List.set_cons_zero, List.set_cons_succ]
    refine take_at (i := 7) 66 (v := .agg #[.bool b6, .slice a6 n6 c6, .bool false, .slice (some ⟨g6, 0, none⟩) 1 d6]) rfl (by kernel_rfl) (by kernel_rfl) (by kernel_rfl) rfl (fun _ _ _ h => h) (by rfl) (fun w hSw => ?_) hHeld ?_
    · (try dsimp only at hSw); (try dsimp only at hSw); obtain ⟨⟨z0, z1, z2, z3⟩, ⟨q0, q1, q2, q3⟩⟩ := hSw; go_simp
    simp only [Act.put, List.setIfInBounds_toArray, List.set_cons_zero, List.set_cons_succ]
    refine wpAnyH_ready (rs := [8]) (by kernel_rfl) (by simp) ?_
    refine node_f28 67 62 66 (.agg #[.bool b5, .slice a5 n5 c5, .bool false, .slice (some ⟨g5, 0, none⟩) 1 d5]) (.agg #[.bool b6, .slice a6 n6 c6, .bool false, .slice (some ⟨g6, 0, none⟩) 1 d6]) rfl rfl rfl rfl rfl rfl ?_ AllReadyH.nil
    · refine (rdiv1_any _ _ (m ^ b) _ HZ5.out HZ6.out HP1.out (Nat.lt_trans HPL.out (by decide))).mono ?_
      rintro e w7 ⟨x7, rfl, hz7, hb7⟩
      replace hHeld : (w7.cell? ⟨Gs, b * 4, none⟩ = some (.bool b5) ∧ w7.cell? ⟨Gs, b * 4 + 1, none⟩ = some (.slice a5 n5 c5) ∧ w7.cell? ⟨Gs, b * 4 + 2, none⟩ = some (.bool false) ∧ w7.cell? ⟨Gs, b * 4 + 3, none⟩ = some (.slice (some ⟨g5, 0, none⟩) 1 d5)) ∧ (w7.cell? ⟨Gs, 0, none⟩ = some (.bool b6) ∧ w7.cell? ⟨Gs, 1, none⟩ = some (.slice a6 n6 c6) ∧ w7.cell? ⟨Gs, 2, none⟩ = some (.bool false) ∧ w7.cell? ⟨Gs, 3, none⟩ = some (.slice (some ⟨g6, 0, none⟩) 1 d6)) := ⟨⟨(hb7.cell (World.block_lt_of_cell? _ _ hHeld.1.1)).trans hHeld.1.1, (hb7.cell (World.block_lt_of_cell? _ _ hHeld.1.2.1)).trans hHeld.1.2.1, (hb7.cell (World.block_lt_of_cell? _ _ hHeld.1.2.2.1)).trans hHeld.1.2.2.1, (hb7.cell (World.block_lt_of_cell? _ _ hHeld.1.2.2.2)).trans hHeld.1.2.2.2⟩, ⟨(hb7.cell (World.block_lt_of_cell? _ _ hHeld.2.1)).trans hHeld.2.1, (hb7.cell (World.block_lt_of_cell? _ _ hHeld.2.2.1)).trans hHeld.2.2.1, (hb7.cell (World.block_lt_of_cell? _ _ hHeld.2.2.2.1)).trans hHeld.2.2.2.1, (hb7.cell (World.block_lt_of_cell? _ _ hHeld.2.2.2.2)).trans hHeld.2.2.2.2⟩⟩
      replace HBq := hid (below_step HBq.out hb7)
      have HNC := hid (rnum_any _ (m ^ b) w7 hz7 (Nat.lt_trans HPL.out (by decide)))
      rw [HSQ.out] at HNC
      obtain ⟨a7, n7, c7, g7, d7, hx7, _, _⟩ := hz7
      obtain ⟨b7, hb7e⟩ : ∃ b7 : Bool, b7 = decide (((m ^ b : Nat) : Int) < 0) := ⟨_, rfl⟩
      rw [← hb7e] at hx7
      subst hx7
      clear hb7 hb7e
      refine ⟨_, rfl, hHeld, ?_⟩
      simp only [Act.put, List.setIfInBounds_toArray, List.set_cons_zero, List.set_cons_succ]
      refine wpAnyH_ready (rs := [9]) (by kernel_rfl) (by simp) ?_
      refine node_f19 68 67 (.agg #[.bool b7, .slice a7 n7 c7, .bool false, .slice (some ⟨g7, 0, none⟩) 1 d7]) rfl rfl rfl rfl rfl ?_ AllReadyH.nil
      · refine HNC.out.mono ?_
        rintro e w8 ⟨rfl, hb8⟩
        replace hHeld : (w8.cell? ⟨Gs, b * 4, none⟩ = some (.bool b5) ∧ w8.cell? ⟨Gs, b * 4 + 1, none⟩ = some (.slice a5 n5 c5) ∧ w8.cell? ⟨Gs, b * 4 + 2, none⟩ = some (.bool false) ∧ w8.cell? ⟨Gs, b * 4 + 3, none⟩ = some (.slice (some ⟨g5, 0, none⟩) 1 d5)) ∧ (w8.cell? ⟨Gs, 0, none⟩ = some (.bool b6) ∧ w8.cell? ⟨Gs, 1, none⟩ = some (.slice a6 n6 c6) ∧ w8.cell? ⟨Gs, 2, none⟩ = some (.bool false) ∧ w8.cell? ⟨Gs, 3, none⟩ = some (.slice (some ⟨g6, 0, none⟩) 1 d6)) := ⟨⟨(hb8.cell (World.block_lt_of_cell? _ _ hHeld.1.1)).trans hHeld.1.1, (hb8.cell (World.block_lt_of_cell? _ _ hHeld.1.2.1)).trans hHeld.1.2.1, (hb8.cell (World.block_lt_of_cell? _ _ hHeld.1.2.2.1)).trans hHeld.1.2.2.1, (hb8.cell (World.block_lt_of_cell? _ _ hHeld.1.2.2.2)).trans hHeld.1.2.2.2⟩, ⟨(hb8.cell (World.block_lt_of_cell? _ _ hHeld.2.1)).trans hHeld.2.1, (hb8.cell (World.block_lt_of_cell? _ _ hHeld.2.2.1)).trans hHeld.2.2.1, (hb8.cell (World.block_lt_of_cell? _ _ hHeld.2.2.2.1)).trans hHeld.2.2.2.1, (hb8.cell (World.block_lt_of_cell? _ _ hHeld.2.2.2.2)).trans hHeld.2.2.2.2⟩⟩
        replace HBq := hid (below_step HBq.out hb8)
        clear hb8
        refine ⟨_, rfl, hHeld, ?_⟩
        simp only [Act.put, List.setIfInBounds_toArray, List.set_cons_zero, List.set_cons_succ]
        refine take_at (i := 10) 69 (v := .string sq) rfl (by kernel_rfl) (by kernel_rfl) (by kernel_rfl) rfl (fun _ _ _ h => h) (by rfl) (fun w hSw => ?_) hHeld ?_
        · (try dsimp only at hSw); go_simp
        simp only [Act.put, List.setIfInBounds_toArray, List.set_cons_zero, List.set_cons_succ]
        refine take_at (i := 11) 70 (v := .int .i64 0) rfl (by kernel_rfl) (by kernel_rfl) (by kernel_rfl) rfl (fun _ _ _ h => h) (by rfl) (fun w hSw => ?_) hHeld ?_
        · (try dsimp only at hSw); go_simp
        simp only [Act.put, List.setIfInBounds_toArray, List.set_cons_zero, List.set_cons_succ]
        refine take_at (i := 12) 8 (v := .string sq) rfl (by kernel_rfl) (by kernel_rfl) (by kernel_rfl) rfl (fun _ _ _ h => h) (by rfl) (fun w hSw => ?_) hHeld ?_
        · (try dsimp only at hSw); go_simp
        simp only [Act.put, List.setIfInBounds_toArray, List.set_cons_zero, List.set_cons_succ]
        refine take_at (i := 13) 9 (v := .int .i64 0) rfl (by kernel_rfl) (by kernel_rfl) (by kernel_rfl) rfl (fun _ _ _ h => h) (by rfl) (fun w hSw => ?_) hHeld ?_
        · (try dsimp only at hSw); go_simp
        simp only [Act.put, List.setIfInBounds_toArray, List.set_cons_zero, List.set_cons_succ]
        refine wpAnyH_done (by kernel_rfl) ?_ _
        clear hHeld
        go_wp2_with fail
        go_ret2
        exact ⟨by rw [HSD.out]; rfl, below_step HB2.out HBq.out⟩
end Go.Proofs.YtlhmidecjiihcaaDoor
