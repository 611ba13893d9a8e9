/-
  The gear turns (24).
-/
import Derived.Test.YtlhmidecjiihcaaDoorGearD
namespace Go.Proofs.YtlhmidecjiihcaaDoor
open Go.RowKit
section
variable {md : Region.Mode} {ops : Array Oper} {Q : Exit → Act → World → Prop} {S : World → Prop} {fuel : Nat} {listed : Array Bool} {a : Act} {w : World} {i : Nat} {o : Oper} {rs : List Nat}
theorem node_fv25 (d k k1 : Nat) (z : Int) (hi : ops[i]? = some o) (hgd : Region.wanted o (yielded ops a.tmps) = true) (ho : o.op = .call { callee := .value (.tmp k), args := #[.tmp k1], argTypes := #[3] }) (hd : o.dst = some d)
    (hv : a.tmps[k]?.getD undef = .func (.func 25) #[] #[]) (hv1 : a.tmps[k1]?.getD undef = .int .i64 z)
    (h : Calls Tryd.prog 25 #[.int .i64 z] w fun e w' => ∃ u, e = .returned u ∧ S w' ∧ wpAnyH Tryd.prog md ops Q S fuel (listed.setIfInBounds i true) (a.put (some d) u) w')
    (hs : AllReadyH Tryd.prog md ops Q S fuel listed a w rs) : AllReadyH Tryd.prog md ops Q S fuel listed a w (i :: rs) := by
  refine AllReadyH.cons hi (fun K hK => ?_) hs
  rw [if_pos hgd]
  unfold Oper.wp execOp
  simp [ho, go_sem, hv, hv1]
  refine h.mono ?_
  rintro e w' ⟨u, rfl, h1, h2⟩
  have hk := hK.out _ _ h1 (fun _ => h2)
  rw [hd]
  exact hk
end
section
variable {md : Region.Mode} {ops : Array Oper} {Q : Exit → Act → World → Prop} {S : World → Prop} {fuel : Nat} {listed : Array Bool} {a : Act} {w : World} {i : Nat} {o : Oper} {rs : List Nat}
theorem node_f31 (d : Nat) (k1 k2 : Nat) (v1 v2 : Value) (hi : ops[i]? = some o) (hgd : Region.wanted o (yielded ops a.tmps) = true) (ho : o.op = .call { callee := .value (.func 31), args := #[.tmp k1, .tmp k2], argTypes := #[54, 54] }) (hd : o.dst = some d)
    (hp1 : a.tmps[k1]?.getD undef = v1)
    (hp2 : a.tmps[k2]?.getD undef = v2)
    (h : Calls Tryd.prog 31 #[v1, v2] w fun e w' => ∃ u, e = .returned u ∧ S w' ∧ wpAnyH Tryd.prog md ops Q S fuel (listed.setIfInBounds i true) (a.put (some d) u) w')
    (hs : AllReadyH Tryd.prog md ops Q S fuel listed a w rs) : AllReadyH Tryd.prog md ops Q S fuel listed a w (i :: rs) := by
  refine AllReadyH.cons hi (fun K hK => ?_) hs
  rw [if_pos hgd]
  unfold Oper.wp execOp
  simp [ho, go_sem, hp1, hp2]
  refine h.mono ?_
  rintro e w' ⟨u, rfl, h1, h2⟩
  have hk := hK.out _ _ h1 (fun _ => h2)
  rw [hd]
  exact hk
end
set_option maxRecDepth 100000 in
set_option maxHeartbeats 4000000 in
theorem turns_any (m b X : Nat) (bs : Option Addr) (bk : Nat) (w : World) (n : Nat) (hn : n = b + 1) (hX : w.heap[X]? = some (.cells #[.int .i64 (n : Int), .slice bs b bk] 83)) (hv : IsB w (.slice bs b bk) m b) (hm : 1 ≤ m) (hm2 : m ≤ 12) (hb1 : 1 ≤ b) (hb : b ≤ 5) :
    Calls Tryd.prog 24 #[.pointer (some ⟨X, 0, none⟩), .func (.func 25) #[] #[]] w fun e w' => e = .returned (.bool true) ∧ Below w.heap.size w w' := by
  have SC := hid (speeds_any m b X bs bk w n hn hX hv hm hm2 hb1 hb)
  have HV : Hid (∀ w', Below w.heap.size w w' → IsB w' (.slice bs b bk) m b) := fun w' h => hv.below h
  have HG := hid hX
  have HN := hid hn
  clear hv hX hn
  go_enter Tryd.func24, Tryd.ntmps24
  go_wp2_with fail
  go_at_call 26
  refine SC.out.mono ?_
  rintro e w2 ⟨Gs, Gp, rfl, hsp, -, hb2⟩
  have HB2 := hid hb2
  have HSP : Hid (∀ w', Below w2.heap.size w2 w' → SpL w' Gs n n m) := fun w' h => hsp.below h
  have HVa : Hid (∀ w', Below w2.heap.size w2 w' → IsB w' (.slice bs b bk) m b) := fun w' h => HV.out w' (below_step hb2 h)
  have HG2 := hid (cells_box HG.out hb2)
  clear hsp hb2 SC HV
  obtain ⟨x0, x1⟩ := cells2_of HG2.out
  go_wp2_with fail
  clear x0 x1
  go_loopw [20] (fun iv wq => ∃ (j : Nat), iv = .int .i64 (j : Int) ∧ j ≤ b ∧ Hid (Below w2.heap.size w2 wq)) (fun iv _ => b - (intOf iv).toNat)
  case atStart => exact ⟨0, rfl, Nat.zero_le _, Below.refl _ _⟩
  case round =>
    obtain ⟨j, rfl, hj, HBq⟩ := hrel
    rename World => wq
    by_cases hjb : j < b
    · have hj1 : j < n := by have := HN.out; omega
      have hj2 : j + 1 < n := by have := HN.out; omega
      obtain ⟨Gb, rfl, e0, e1, e2, e3⟩ := (HVa.out wq HBq.out).at j hjb
      obtain ⟨Y, hY⟩ : ∃ Y, Y = wq.heap.size := ⟨_, rfl⟩
      have HYB := hid (heap_alloc_new wq (.cells #[.int .i64 (j : Int), .int .i64 ((j : Int) + 1), .int .i64 (m : Int), .int .i64 1] 39))
      have hb5 := ba wq (.cells #[.int .i64 (j : Int), .int .i64 ((j : Int) + 1), .int .i64 (m : Int), .int .i64 1] 39)
      rw [← hY] at HYB
      go_upto_region 5 with fail
      rw [← hY]
      clear hY e0 e1 e2 e3
      replace HBq := hid (below_step HBq.out hb5)
      clear hb5
      generalize wq.alloc (.cells #[.int .i64 (j : Int), .int .i64 ((j : Int) + 1), .int .i64 (m : Int), .int .i64 1] 39) = w5 at *
      obtain ⟨b5, a5, n5, c5, g5, d5, s0, s1, s2, s3, hz5⟩ := (HSP.out _ HBq.out).at j hj1
      obtain ⟨b6, a6, n6, c6, g6, d6, t0, t1, t2, t3, hz6⟩ := (HSP.out _ HBq.out).at (j + 1) hj2
      have HZ5 := hid hz5
      have HZ6 := hid hz6
      have H5 : Hid (w5.heap[Y]? = some (.cells #[.int .i64 (j : Int), .int .i64 ((j : Int) + 1), .int .i64 (m : Int), .int .i64 1] 39) ∧ (w5.cell? ⟨Gs, j * 4, none⟩ = some (.bool b5) ∧ w5.cell? ⟨Gs, j * 4 + 1, none⟩ = some (.slice a5 n5 c5) ∧ w5.cell? ⟨Gs, j * 4 + 2, none⟩ = some (.bool false) ∧ w5.cell? ⟨Gs, j * 4 + 3, none⟩ = some (.slice (some ⟨g5, 0, none⟩) 1 d5)) ∧ (w5.cell? ⟨Gs, (j + 1) * 4, none⟩ = some (.bool b6) ∧ w5.cell? ⟨Gs, (j + 1) * 4 + 1, none⟩ = some (.slice a6 n6 c6) ∧ w5.cell? ⟨Gs, (j + 1) * 4 + 2, none⟩ = some (.bool false) ∧ w5.cell? ⟨Gs, (j + 1) * 4 + 3, none⟩ = some (.slice (some ⟨g6, 0, none⟩) 1 d6))) := hid ⟨HYB.out, ⟨s0, s1, s2, s3⟩, ⟨t0, t1, t2, t3⟩⟩
      have HPWL : Hid (m ^ (j + 1) < 1000000) := hid (by
        have h1 : m ^ (j + 1) ≤ 12 ^ (j + 1) := Nat.pow_le_pow_left hm2 _
        have h2 : 12 ^ (j + 1) ≤ 12 ^ 5 := Nat.pow_le_pow_right (by decide) (by omega)
        have h3 : (12 : Nat) ^ 5 < 1000000 := by decide
        exact Nat.lt_of_le_of_lt (Nat.le_trans h1 h2) h3)
      have HMB : Hid (((m ^ j : Nat) : Int).natAbs * ((m : Int)).natAbs < 4294967296) := hid (by
        rw [Int.natAbs_natCast, Int.natAbs_natCast, ← Nat.pow_succ]
        exact Nat.lt_trans HPWL.out (by decide))
      have HPW2 : Hid (((m ^ (j + 1) : Nat) : Int) = ((m ^ j : Nat) : Int) * (m : Int)) := hid (by rw [Nat.pow_succ, Int.natCast_mul])
      have CMP : Hid (∀ w' x y, RatZ w' x ((m ^ (j + 1) : Nat) : Int) → RatZ w' y ((m ^ (j + 1) : Nat) : Int) → Calls Tryd.prog 31 #[x, y] w' fun e w'' => e = .returned (.int .i64 0) ∧ Below w'.heap.size w' w'') := fun w' x y h1 h2 => by
        have hlt : ((m ^ (j + 1) : Nat) : Int).natAbs < 2147483648 := by rw [Int.natAbs_natCast]; exact Nat.lt_trans HPWL.out (by decide)
        have h := rcmp_any x y _ _ w' h1 h2 hlt hlt
        rwa [if_pos rfl] at h
      clear hz5 hz6 s0 s1 s2 s3 t0 t1 t2 t3 HYB
      refine wp_region_held_drew (S := fun w' => w'.heap[Y]? = some (.cells #[.int .i64 (j : Int), .int .i64 ((j : Int) + 1), .int .i64 (m : Int), .int .i64 1] 39) ∧ (w'.cell? ⟨Gs, j * 4, none⟩ = some (.bool b5) ∧ w'.cell? ⟨Gs, j * 4 + 1, none⟩ = some (.slice a5 n5 c5) ∧ w'.cell? ⟨Gs, j * 4 + 2, none⟩ = some (.bool false) ∧ w'.cell? ⟨Gs, j * 4 + 3, none⟩ = some (.slice (some ⟨g5, 0, none⟩) 1 d5)) ∧ (w'.cell? ⟨Gs, (j + 1) * 4, none⟩ = some (.bool b6) ∧ w'.cell? ⟨Gs, (j + 1) * 4 + 1, none⟩ = some (.slice a6 n6 c6) ∧ w'.cell? ⟨Gs, (j + 1) * 4 + 2, none⟩ = some (.bool false) ∧ w'.cell? ⟨Gs, (j + 1) * 4 + 3, none⟩ = some (.slice (some ⟨g6, 0, none⟩) 1 d6))) (by kernel_rfl) (by exact H5.out) (fun hHeld => ?_)
      replace HBq : Hid (Below w2.heap.size w2 w5.drew) := HBq.out.drew
      replace HZ5 := hid (HZ5.out.below ((Below.refl _ w5).drew))
      replace HZ6 := hid (HZ6.out.below ((Below.refl _ w5).drew))
      generalize w5.drew = u0 at *
      refine take_at (i := 0) 25 (v := .func (.func 25) #[] #[]) rfl (by kernel_rfl) (by kernel_rfl) (by kernel_rfl) rfl (fun _ _ _ h => h) (by rfl) (fun w hSw => ?_) hHeld ?_
      · (try dsimp only at hSw); go_simp
      simp only [Act.put, List.setIfInBounds_toArray, List.set_cons_zero, List.set_cons_succ]
      refine take_at (i := 1) 26 (v := .int .i64 (j : Int)) rfl (by kernel_rfl) (by kernel_rfl) (by kernel_rfl) rfl (fun _ _ _ h => h) (by rfl) (fun w hSw => ?_) hHeld ?_
      · (try dsimp only at hSw); go_simp
      simp only [Act.put, List.setIfInBounds_toArray, List.set_cons_zero, List.set_cons_succ]
      refine wpAnyH_ready (rs := [2]) (by kernel_rfl) (by simp) ?_
      refine node_fv25 27 25 26 (j : Int) rfl rfl rfl rfl rfl rfl ?_ AllReadyH.nil
      · refine (none_any _ _).mono ?_
        rintro e w4 ⟨rfl, hw4⟩
        rw [hw4]
        refine ⟨_, rfl, hHeld, ?_⟩
        simp only [Act.put, List.setIfInBounds_toArray, List.set_cons_zero, List.set_cons_succ]
        refine take_at (i := 3) 28 (v := .bool true) rfl (by kernel_rfl) (by kernel_rfl) (by kernel_rfl) rfl (fun _ _ _ h => h) (by rfl) (fun w hSw => ?_) hHeld ?_
        · (try dsimp only at hSw); go_simp
        simp only [Act.put, List.setIfInBounds_toArray, List.set_cons_zero, List.set_cons_succ]
        refine take_at (i := 4) 29 (v := .bool true) rfl (by kernel_rfl) (by kernel_rfl) (by kernel_rfl) rfl (fun _ _ _ h => h) (by rfl) (fun w hSw => ?_) hHeld ?_
        · (try dsimp only at hSw); go_simp
        simp only [Act.put, List.setIfInBounds_toArray, List.set_cons_zero, List.set_cons_succ]
        refine take_at (i := 5) 30 (v := .slice (some ⟨Gs, 0, none⟩) n n) rfl (by kernel_rfl) (by kernel_rfl) (by kernel_rfl) rfl (fun _ _ _ h => h) (by rfl) (fun w hSw => ?_) hHeld ?_
        · (try dsimp only at hSw); go_simp
        simp only [Act.put, List.setIfInBounds_toArray, List.set_cons_zero, List.set_cons_succ]
        refine take_at (i := 6) 31 (v := .pointer (some ⟨Y, 0, none⟩)) rfl (by kernel_rfl) (by kernel_rfl) (by kernel_rfl) rfl (fun _ _ _ h => h) (by rfl) (fun w hSw => ?_) hHeld ?_
        · (try dsimp only at hSw); go_simp
        simp only [Act.put, List.setIfInBounds_toArray, List.set_cons_zero, List.set_cons_succ]
        refine take_at (i := 7) 32 (v := .int .i64 (j : Int)) rfl (by kernel_rfl) (by kernel_rfl) (by kernel_rfl) rfl (fun _ _ _ h => h) (by rfl) (fun w hSw => ?_) hHeld ?_
        · (try dsimp only at hSw); (try dsimp only at hSw); obtain ⟨sx, ⟨z0, z1, z2, z3⟩, ⟨q0, q1, q2, q3⟩⟩ := hSw; obtain ⟨y0, y1, y2, y3⟩ := belt_of sx; go_simp
        simp only [Act.put, List.setIfInBounds_toArray, List.set_cons_zero, List.set_cons_succ]
        refine take_at (i := 8) 33 (v := .pointer (some ⟨Gs, j * 4, none⟩)) rfl (by kernel_rfl) (by kernel_rfl) (by kernel_rfl) rfl (fun _ _ _ h => h) (by rfl) (fun w hSw => ?_) hHeld ?_
        · (try dsimp only at hSw); go_simp; first | done | (intro h; exact absurd (h (by omega)) (by omega))
        simp only [Act.put, List.setIfInBounds_toArray, List.set_cons_zero, List.set_cons_succ]
        refine take_at (i := 9) 34 (v := .agg #[.bool b5, .slice a5 n5 c5, .bool false, .slice (some ⟨g5, 0, none⟩) 1 d5]) rfl (by kernel_rfl) (by kernel_rfl) (by kernel_rfl) rfl (fun _ _ _ h => h) (by rfl) (fun w hSw => ?_) hHeld ?_
        · (try dsimp only at hSw); (try dsimp only at hSw); obtain ⟨sx, ⟨z0, z1, z2, z3⟩, ⟨q0, q1, q2, q3⟩⟩ := hSw; obtain ⟨y0, y1, y2, y3⟩ := belt_of sx; go_simp
        simp only [Act.put, List.setIfInBounds_toArray, List.set_cons_zero, List.set_cons_succ]
        refine take_at (i := 10) 35 (v := .agg #[.int .i64 (j : Int), .int .i64 ((j : Int) + 1), .int .i64 (m : Int), .int .i64 1]) rfl (by kernel_rfl) (by kernel_rfl) (by kernel_rfl) rfl (fun _ _ _ h => h) (by rfl) (fun w hSw => ?_) hHeld ?_
        · (try dsimp only at hSw); (try dsimp only at hSw); obtain ⟨sx, ⟨z0, z1, z2, z3⟩, ⟨q0, q1, q2, q3⟩⟩ := hSw; obtain ⟨y0, y1, y2, y3⟩ := belt_of sx; go_simp
        simp only [Act.put, List.setIfInBounds_toArray, List.set_cons_zero, List.set_cons_succ]
        refine take_at (i := 13) 38 (v := .slice (some ⟨Gs, 0, none⟩) n n) rfl (by kernel_rfl) (by kernel_rfl) (by kernel_rfl) rfl (fun _ _ _ h => h) (by rfl) (fun w hSw => ?_) hHeld ?_
        · (try dsimp only at hSw); go_simp
        simp only [Act.put, List.setIfInBounds_toArray, List.set_cons_zero, List.set_cons_succ]
        refine take_at (i := 14) 39 (v := .pointer (some ⟨Y, 1, none⟩)) rfl (by kernel_rfl) (by kernel_rfl) (by kernel_rfl) rfl (fun _ _ _ h => h) (by rfl) (fun w hSw => ?_) hHeld ?_
        · (try dsimp only at hSw); go_simp
        simp only [Act.put, List.setIfInBounds_toArray, List.set_cons_zero, List.set_cons_succ]
        refine take_at (i := 15) 40 (v := .int .i64 ((j : Int) + 1)) rfl (by kernel_rfl) (by kernel_rfl) (by kernel_rfl) rfl (fun _ _ _ h => h) (by rfl) (fun w hSw => ?_) hHeld ?_
        · (try dsimp only at hSw); (try dsimp only at hSw); obtain ⟨sx, ⟨z0, z1, z2, z3⟩, ⟨q0, q1, q2, q3⟩⟩ := hSw; obtain ⟨y0, y1, y2, y3⟩ := belt_of sx; go_simp
        simp only [Act.put, List.setIfInBounds_toArray, List.set_cons_zero, List.set_cons_succ]
        refine take_at (i := 16) 41 (v := .pointer (some ⟨Gs, (j + 1) * 4, none⟩)) rfl (by kernel_rfl) (by kernel_rfl) (by kernel_rfl) rfl (fun _ _ _ h => h) (by rfl) (fun w hSw => ?_) hHeld ?_
        · (try dsimp only at hSw); go_simp; first | done | (intro h; exact absurd (h (by omega)) (by omega))
        simp only [Act.put, List.setIfInBounds_toArray, List.set_cons_zero, List.set_cons_succ]
        refine take_at (i := 17) 42 (v := .agg #[.bool b6, .slice a6 n6 c6, .bool false, .slice (some ⟨g6, 0, none⟩) 1 d6]) rfl (by kernel_rfl) (by kernel_rfl) (by kernel_rfl) rfl (fun _ _ _ h => h) (by rfl) (fun w hSw => ?_) hHeld ?_
        · (try dsimp only at hSw); (try dsimp only at hSw); obtain ⟨sx, ⟨z0, z1, z2, z3⟩, ⟨q0, q1, q2, q3⟩⟩ := hSw; obtain ⟨y0, y1, y2, y3⟩ := belt_of sx; go_simp
        simp only [Act.put, List.setIfInBounds_toArray, List.set_cons_zero, List.set_cons_succ]
        refine wpAnyH_ready (rs := [11]) (by kernel_rfl) (by simp) ?_
        refine node_f40 36 35 (.agg #[.int .i64 (j : Int), .int .i64 ((j : Int) + 1), .int .i64 (m : Int), .int .i64 1]) rfl rfl rfl rfl rfl ?_ AllReadyH.nil
        · refine (gratio_any _ _ m _ hm (by omega)).mono ?_
          rintro e w7 ⟨x7, rfl, hz7, hb7⟩
          replace hHeld : w7.heap[Y]? = some (.cells #[.int .i64 (j : Int), .int .i64 ((j : Int) + 1), .int .i64 (m : Int), .int .i64 1] 39) ∧ (w7.cell? ⟨Gs, j * 4, none⟩ = some (.bool b5) ∧ w7.cell? ⟨Gs, j * 4 + 1, none⟩ = some (.slice a5 n5 c5) ∧ w7.cell? ⟨Gs, j * 4 + 2, none⟩ = some (.bool false) ∧ w7.cell? ⟨Gs, j * 4 + 3, none⟩ = some (.slice (some ⟨g5, 0, none⟩) 1 d5)) ∧ (w7.cell? ⟨Gs, (j + 1) * 4, none⟩ = some (.bool b6) ∧ w7.cell? ⟨Gs, (j + 1) * 4 + 1, none⟩ = some (.slice a6 n6 c6) ∧ w7.cell? ⟨Gs, (j + 1) * 4 + 2, none⟩ = some (.bool false) ∧ w7.cell? ⟨Gs, (j + 1) * 4 + 3, none⟩ = some (.slice (some ⟨g6, 0, none⟩) 1 d6)) := ⟨cells_box hHeld.1 hb7, ⟨(hb7.cell (World.block_lt_of_cell? _ _ hHeld.2.1.1)).trans hHeld.2.1.1, (hb7.cell (World.block_lt_of_cell? _ _ hHeld.2.1.2.1)).trans hHeld.2.1.2.1, (hb7.cell (World.block_lt_of_cell? _ _ hHeld.2.1.2.2.1)).trans hHeld.2.1.2.2.1, (hb7.cell (World.block_lt_of_cell? _ _ hHeld.2.1.2.2.2)).trans hHeld.2.1.2.2.2⟩, ⟨(hb7.cell (World.block_lt_of_cell? _ _ hHeld.2.2.1)).trans hHeld.2.2.1, (hb7.cell (World.block_lt_of_cell? _ _ hHeld.2.2.2.1)).trans hHeld.2.2.2.1, (hb7.cell (World.block_lt_of_cell? _ _ hHeld.2.2.2.2.1)).trans hHeld.2.2.2.2.1, (hb7.cell (World.block_lt_of_cell? _ _ hHeld.2.2.2.2.2)).trans hHeld.2.2.2.2.2⟩⟩
          replace HBq := hid (below_step HBq.out hb7)
          replace HZ5 := hid (HZ5.out.below hb7)
          replace HZ6 := hid (HZ6.out.below hb7)
          have HZ7 := hid hz7
          obtain ⟨a7, n7, c7, g7, d7, hx7, _, _⟩ := hz7
          obtain ⟨b7, hb7e⟩ : ∃ b7 : Bool, b7 = decide ((m : Int) < 0) := ⟨_, rfl⟩
          rw [← hb7e] at hx7
          subst hx7
          clear hb7 hb7e
          refine ⟨_, rfl, hHeld, ?_⟩
          simp only [Act.put, List.setIfInBounds_toArray, List.set_cons_zero, List.set_cons_succ]
          refine wpAnyH_ready (rs := [12]) (by kernel_rfl) (by simp) ?_
          refine node_f39 37 34 36 (.agg #[.bool b5, .slice a5 n5 c5, .bool false, .slice (some ⟨g5, 0, none⟩) 1 d5]) (.agg #[.bool b7, .slice a7 n7 c7, .bool false, .slice (some ⟨g7, 0, none⟩) 1 d7]) rfl rfl rfl rfl rfl rfl ?_ AllReadyH.nil
          · refine (rmul_any _ _ _ _ _ HZ5.out HZ7.out HMB.out).mono ?_
            rintro e w8 ⟨x8, rfl, hz8, hb8⟩
            replace hHeld : w8.heap[Y]? = some (.cells #[.int .i64 (j : Int), .int .i64 ((j : Int) + 1), .int .i64 (m : Int), .int .i64 1] 39) ∧ (w8.cell? ⟨Gs, j * 4, none⟩ = some (.bool b5) ∧ w8.cell? ⟨Gs, j * 4 + 1, none⟩ = some (.slice a5 n5 c5) ∧ w8.cell? ⟨Gs, j * 4 + 2, none⟩ = some (.bool false) ∧ w8.cell? ⟨Gs, j * 4 + 3, none⟩ = some (.slice (some ⟨g5, 0, none⟩) 1 d5)) ∧ (w8.cell? ⟨Gs, (j + 1) * 4, none⟩ = some (.bool b6) ∧ w8.cell? ⟨Gs, (j + 1) * 4 + 1, none⟩ = some (.slice a6 n6 c6) ∧ w8.cell? ⟨Gs, (j + 1) * 4 + 2, none⟩ = some (.bool false) ∧ w8.cell? ⟨Gs, (j + 1) * 4 + 3, none⟩ = some (.slice (some ⟨g6, 0, none⟩) 1 d6)) := ⟨cells_box hHeld.1 hb8, ⟨(hb8.cell (World.block_lt_of_cell? _ _ hHeld.2.1.1)).trans hHeld.2.1.1, (hb8.cell (World.block_lt_of_cell? _ _ hHeld.2.1.2.1)).trans hHeld.2.1.2.1, (hb8.cell (World.block_lt_of_cell? _ _ hHeld.2.1.2.2.1)).trans hHeld.2.1.2.2.1, (hb8.cell (World.block_lt_of_cell? _ _ hHeld.2.1.2.2.2)).trans hHeld.2.1.2.2.2⟩, ⟨(hb8.cell (World.block_lt_of_cell? _ _ hHeld.2.2.1)).trans hHeld.2.2.1, (hb8.cell (World.block_lt_of_cell? _ _ hHeld.2.2.2.1)).trans hHeld.2.2.2.1, (hb8.cell (World.block_lt_of_cell? _ _ hHeld.2.2.2.2.1)).trans hHeld.2.2.2.2.1, (hb8.cell (World.block_lt_of_cell? _ _ hHeld.2.2.2.2.2)).trans hHeld.2.2.2.2.2⟩⟩
            replace HBq := hid (below_step HBq.out hb8)
            replace HZ5 := hid (HZ5.out.below hb8)
            replace HZ6 := hid (HZ6.out.below hb8)
            have HZ8 : Hid (RatZ w8 x8 ((m ^ (j + 1) : Nat) : Int)) := hid (by rw [HPW2.out]; exact hz8)
            obtain ⟨a8, n8, c8, g8, d8, hx8, _, _⟩ := hz8
            obtain ⟨b8, hb8e⟩ : ∃ b8 : Bool, b8 = decide (((m ^ j : Nat) : Int) * (m : Int) < 0) := ⟨_, rfl⟩
            rw [← hb8e] at hx8
            subst hx8
            clear hb8 hb8e
            refine ⟨_, rfl, hHeld, ?_⟩
            simp only [Act.put, List.setIfInBounds_toArray, List.set_cons_zero, List.set_cons_succ]
            refine wpAnyH_ready (rs := [18]) (by kernel_rfl) (by simp) ?_
            refine node_f31 43 37 42 (.agg #[.bool b8, .slice a8 n8 c8, .bool false, .slice (some ⟨g8, 0, none⟩) 1 d8]) (.agg #[.bool b6, .slice a6 n6 c6, .bool false, .slice (some ⟨g6, 0, none⟩) 1 d6]) rfl rfl rfl rfl rfl rfl ?_ AllReadyH.nil
            · refine (CMP.out _ _ _ HZ8.out HZ6.out).mono ?_
              rintro e w9 ⟨rfl, hb9⟩
              replace hHeld : w9.heap[Y]? = some (.cells #[.int .i64 (j : Int), .int .i64 ((j : Int) + 1), .int .i64 (m : Int), .int .i64 1] 39) ∧ (w9.cell? ⟨Gs, j * 4, none⟩ = some (.bool b5) ∧ w9.cell? ⟨Gs, j * 4 + 1, none⟩ = some (.slice a5 n5 c5) ∧ w9.cell? ⟨Gs, j * 4 + 2, none⟩ = some (.bool false) ∧ w9.cell? ⟨Gs, j * 4 + 3, none⟩ = some (.slice (some ⟨g5, 0, none⟩) 1 d5)) ∧ (w9.cell? ⟨Gs, (j + 1) * 4, none⟩ = some (.bool b6) ∧ w9.cell? ⟨Gs, (j + 1) * 4 + 1, none⟩ = some (.slice a6 n6 c6) ∧ w9.cell? ⟨Gs, (j + 1) * 4 + 2, none⟩ = some (.bool false) ∧ w9.cell? ⟨Gs, (j + 1) * 4 + 3, none⟩ = some (.slice (some ⟨g6, 0, none⟩) 1 d6)) := ⟨cells_box hHeld.1 hb9, ⟨(hb9.cell (World.block_lt_of_cell? _ _ hHeld.2.1.1)).trans hHeld.2.1.1, (hb9.cell (World.block_lt_of_cell? _ _ hHeld.2.1.2.1)).trans hHeld.2.1.2.1, (hb9.cell (World.block_lt_of_cell? _ _ hHeld.2.1.2.2.1)).trans hHeld.2.1.2.2.1, (hb9.cell (World.block_lt_of_cell? _ _ hHeld.2.1.2.2.2)).trans hHeld.2.1.2.2.2⟩, ⟨(hb9.cell (World.block_lt_of_cell? _ _ hHeld.2.2.1)).trans hHeld.2.2.1, (hb9.cell (World.block_lt_of_cell? _ _ hHeld.2.2.2.1)).trans hHeld.2.2.2.1, (hb9.cell (World.block_lt_of_cell? _ _ hHeld.2.2.2.2.1)).trans hHeld.2.2.2.2.1, (hb9.cell (World.block_lt_of_cell? _ _ hHeld.2.2.2.2.2)).trans hHeld.2.2.2.2.2⟩⟩
              replace HBq := hid (below_step HBq.out hb9)
              replace HZ5 := hid (HZ5.out.below hb9)
              replace HZ6 := hid (HZ6.out.below hb9)
              clear hb9
              refine ⟨_, rfl, hHeld, ?_⟩
              simp only [Act.put, List.setIfInBounds_toArray, List.set_cons_zero, List.set_cons_succ]
              refine take_at (i := 19) 44 (v := .bool false) rfl (by kernel_rfl) (by kernel_rfl) (by kernel_rfl) rfl (fun _ _ _ h => h) (by rfl) (fun w hSw => ?_) hHeld ?_
              · (try dsimp only at hSw); go_simp
              simp only [Act.put, List.setIfInBounds_toArray, List.set_cons_zero, List.set_cons_succ]
              refine take_at (i := 20) 45 (v := .bool false) rfl (by kernel_rfl) (by kernel_rfl) (by kernel_rfl) rfl (fun _ _ _ h => h) (by rfl) (fun w hSw => ?_) hHeld ?_
              · (try dsimp only at hSw); go_simp
              simp only [Act.put, List.setIfInBounds_toArray, List.set_cons_zero, List.set_cons_succ]
              refine wpAnyH_done (by kernel_rfl) ?_ _
              clear hHeld
              go_wp2_with fail
              go_roundw
              case rel => exact ⟨j + 1, by go_num, by omega, HBq⟩
              case measure => simp [intOf]; omega
    · obtain rfl : j = b := by omega
      go_wp2_with fail
      go_ret
      exact ⟨rfl, below_step HB2.out HBq.out⟩
end Go.Proofs.YtlhmidecjiihcaaDoor
