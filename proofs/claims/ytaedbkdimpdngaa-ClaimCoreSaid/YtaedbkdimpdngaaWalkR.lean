/-
  Walks over chapter 12: are all sets of one list in another one.
-/
import Derived.Test.YtaedbkdimpdngaaWalkQ
namespace Go.Proofs.Ytaedbkdimpdngaa
open Go.RowKit
section
variable {md : Region.Mode} {ops : Array Oper} {Q : Exit → Act → World → Prop} {S : World → Prop} {fuel : Nat} {listed : Array Bool} {a : Act} {w : World} {i : Nat} {o : Oper} {rs : List Nat}
theorem node_f23 (d : Nat) (k1 k2 : Nat) (v1 v2 : Value) (hi : ops[i]? = some o) (hgd : Region.wanted o (yielded ops a.tmps) = true) (ho : o.op = .call { callee := .value (.func 23), args := #[.tmp k1, .tmp k2], argTypes := #[24, 24] }) (hd : o.dst = some d)
    (hp1 : a.tmps[k1]?.getD undef = v1)
    (hp2 : a.tmps[k2]?.getD undef = v2)
    (h : Calls Try.prog 23 #[v1, v2] w fun e w' => ∃ u, e = .returned u ∧ S w' ∧ wpAnyH Try.prog md ops Q S fuel (listed.setIfInBounds i true) (a.put (some d) u) w')
    (hs : AllReadyH Try.prog md ops Q S fuel listed a w rs) : AllReadyH Try.prog md ops Q S fuel listed a w (i :: rs) := by
  refine AllReadyH.cons hi (fun K hK => ?_) hs
  rw [if_pos hgd]
  unfold Oper.wp execOp
  simp [ho, go_sem, hp1, hp2]
  refine h.mono ?_
  rintro e w' ⟨u, rfl, h1, h2⟩
  have hk := hK.out _ _ h1 (fun _ => h2)
  rw [hd]
  exact hk
end
theorem any_take {α : Type} (f : α → Bool) (xs : List α) (d : α) (i : Nat) (h : i < xs.length) : (xs.take (i + 1)).any f = ((xs.take i).any f || f (xs.getD i d)) := by
  rw [List.take_succ_eq_append_getElem h, List.any_append, List.getD_eq_getElem?_getD, List.getElem?_eq_getElem h]
  simp
def subL (X Y : List (List Nat)) : Bool := X.all fun x => Y.any fun y => x == y
set_option maxRecDepth 100000 in
set_option maxHeartbeats 2000000 in
theorem some_any (u v : Value) (X Y : List (List Nat)) (w : World) (hu : IsLL w u X) (hv : IsLL w v Y) :
    Calls Try.prog 38 #[u, v] w fun e w' => e = .returned (.bool (subL X Y)) ∧ Below w.heap.size w w' := by
  obtain ⟨a, c, rfl, hl1⟩ := isLL_slice hu
  obtain ⟨a2, c2, rfl, hl2⟩ := isLL_slice hv
  have HU := hid hu
  have HV := hid hv
  clear hu hv
  have HSB := hid (show subL X Y = X.all fun x => Y.any fun y => x == y from rfl)
  obtain ⟨r, hr⟩ : ∃ r, r = subL X Y := ⟨_, rfl⟩
  rw [← hr] at HSB ⊢
  clear hr
  have HE1 : Hid (X.take X.length = X) := List.take_length
  have HE2 : Hid (Y.take Y.length = Y) := List.take_length
  obtain ⟨n, hn⟩ : ∃ n, n = X.length := ⟨_, rfl⟩
  obtain ⟨m, hm⟩ : ∃ m, m = Y.length := ⟨_, rfl⟩
  have HN := hid hn
  have HM := hid hm
  rw [← hn] at hl1 HU HE1 ⊢
  rw [← hm] at hl2 HV HE2 ⊢
  clear hn hm
  go_enter Try.func38, Try.ntmps38
  go_wp2_with fail
  go_loopw [5] (fun zv wr => ∃ i : Nat, zv = .int .i64 i ∧ i ≤ n ∧ Hid ((X.take i).all (fun x => Y.any fun y => x == y) = true) ∧ Hid (Below w.heap.size w wr)) (fun zv _ => n - (intOf zv).toNat)
  case atStart => exact ⟨0, rfl, Nat.zero_le _, by show _ = _; rfl, Below.refl _ _⟩
  case round =>
    obtain ⟨i, rfl, hi, HAL, HBo⟩ := hrel
    rename World => wo
    by_cases hlt : i < n
    · have hli : i < X.length := by rw [← HN.out]; exact hlt
      have HTK := hid (take_all (fun x => Y.any fun y => x == y) X [] i hli)
      have BAD : Hid ((Y.any fun y => X.getD i [] == y) = false → r = false) := fun hb => by
        have h1 := HTK.out
        change _ = (_ && (Y.any fun y => X.getD i [] == y)) at h1
        rw [hb, Bool.and_false] at h1
        rw [HSB.out, ← List.take_append_drop (i + 1) X, List.all_append, h1]; rfl
      change Hid (_ = (_ && (Y.any fun y => X.getD i [] == y))) at HTK
      obtain ⟨g, pa, pn, pc, rfl, -, hc, hp⟩ := isLL_at (isLL_below HU.out HBo.out) i hli
      have HCX := hid hc
      have HPX := hid hp
      clear hc hp
      generalize X.getD i [] = x at *
      go_wp2_with fail
      go_loopw [7, 6] (fun zv bv wr => ∃ (k : Nat) (b : Bool), zv = .int .i64 k ∧ k ≤ m ∧ bv = .bool b ∧ Hid ((Y.take k).any (fun y => x == y) = b) ∧ Hid (Below wo.heap.size wo wr)) (fun zv _ _ => m - (intOf zv).toNat)
      case atStart => exact ⟨0, false, rfl, Nat.zero_le _, rfl, by show _ = _; rfl, Below.refl _ _⟩
      case round =>
        obtain ⟨k, b, rfl, hk, rfl, HAN, HBr⟩ := hrel
        by_cases hlk : k < m
        · have hlj : k < Y.length := by rw [← HM.out]; exact hlk
          have HTA := hid (any_take (fun y => x == y) Y [] k hlj)
          change Hid (_ = (_ || (x == Y.getD k []))) at HTA
          obtain ⟨g2, qa, qn, qc, rfl, -, hc2, hq⟩ := isLL_at (isLL_below HV.out (below_step HBo.out HBr.out)) k hlj
          have KEEP : Hid (∀ w', Below wr.heap.size wr w' → w'.cell? ⟨g, i, none⟩ = some (.slice pa pn pc) ∧ w'.cell? ⟨g2, k, none⟩ = some (.slice qa qn qc)) := fun w' hb => ⟨((below_step HBr.out hb).cell (p := ⟨g, i, none⟩) (World.block_lt_of_cell? wo _ HCX.out)).trans HCX.out, (hb.cell (p := ⟨g2, k, none⟩) (World.block_lt_of_cell? wr _ hc2)).trans hc2⟩
          have L1 : Hid (∀ w', Below wr.heap.size wr w' → Calls Try.prog 23 #[.slice pa pn pc, .slice qa qn qc] w' fun e w'' => e = .returned (.bool (x == Y.getD k [])) ∧ Below w'.heap.size w' w'') := fun w' hb => same01_any _ _ _ _ w' (isV_below HPX.out (below_step HBr.out hb)) (isV_below hq hb)
          clear hc2 hq
          generalize (x == Y.getD k []) = b1 at *
          go_upto_region 8 with fail
          cases b with
          | true =>
            refine wp_region_held_drew (S := fun w' => w'.cell? ⟨g, i, none⟩ = some (.slice pa pn pc) ∧ w'.cell? ⟨g2, k, none⟩ = some (.slice qa qn qc)) (by kernel_rfl) (KEEP.out _ ((Below.refl _ _).drew)) (fun hHeld => ?_)
            have HU0 : Hid (Below wr.heap.size wr wr.drew) := (Below.refl _ _).drew
            generalize wr.drew = u0 at *
            refine take_at (i := 0) 20 (v := .bool true) rfl (by kernel_rfl) (by kernel_rfl) (by kernel_rfl) rfl (fun _ _ _ h => h) (by rfl) (fun w hSw => ?_) hHeld ?_
            · (try dsimp only at hSw); go_simp
            simp only [Act.put, List.setIfInBounds_toArray, List.set_cons_zero, List.set_cons_succ]
            refine take_at (i := 1) 21 (v := .bool true) rfl (by kernel_rfl) (by kernel_rfl) (by kernel_rfl) rfl (fun _ _ _ h => h) (by rfl) (fun w hSw => ?_) hHeld ?_
            · (try dsimp only at hSw); go_simp
            simp only [Act.put, List.setIfInBounds_toArray, List.set_cons_zero, List.set_cons_succ]
            refine skip_at (i := 2) 22 rfl (by kernel_rfl) (by kernel_rfl) (by kernel_rfl) rfl (fun _ _ _ h => h) (by rfl) hHeld ?_
            simp only [Act.put, List.setIfInBounds_toArray, List.set_cons_zero, List.set_cons_succ]
            refine skip_at (i := 3) 23 rfl (by kernel_rfl) (by kernel_rfl) (by kernel_rfl) rfl (fun _ _ _ h => h) (by rfl) hHeld ?_
            simp only [Act.put, List.setIfInBounds_toArray, List.set_cons_zero, List.set_cons_succ]
            refine skip_at (i := 4) 24 rfl (by kernel_rfl) (by kernel_rfl) (by kernel_rfl) rfl (fun _ _ _ h => h) (by rfl) hHeld ?_
            simp only [Act.put, List.setIfInBounds_toArray, List.set_cons_zero, List.set_cons_succ]
            refine skip_at (i := 5) 25 rfl (by kernel_rfl) (by kernel_rfl) (by kernel_rfl) rfl (fun _ _ _ h => h) (by rfl) hHeld ?_
            simp only [Act.put, List.setIfInBounds_toArray, List.set_cons_zero, List.set_cons_succ]
            refine skip_at (i := 6) 26 rfl (by kernel_rfl) (by kernel_rfl) (by kernel_rfl) rfl (fun _ _ _ h => h) (by rfl) hHeld ?_
            simp only [Act.put, List.setIfInBounds_toArray, List.set_cons_zero, List.set_cons_succ]
            refine skip_at (i := 7) 27 rfl (by kernel_rfl) (by kernel_rfl) (by kernel_rfl) rfl (fun _ _ _ h => h) (by rfl) hHeld ?_
            simp only [Act.put, List.setIfInBounds_toArray, List.set_cons_zero, List.set_cons_succ]
            refine skip_at (i := 8) 28 rfl (by kernel_rfl) (by kernel_rfl) (by kernel_rfl) rfl (fun _ _ _ h => h) (by rfl) hHeld ?_
            simp only [Act.put, List.setIfInBounds_toArray, List.set_cons_zero, List.set_cons_succ]
            refine skip_at (i := 9) 29 rfl (by kernel_rfl) (by kernel_rfl) (by kernel_rfl) rfl (fun _ _ _ h => h) (by rfl) hHeld ?_
            simp only [Act.put, List.setIfInBounds_toArray, List.set_cons_zero, List.set_cons_succ]
            refine skip_at (i := 10) 30 rfl (by kernel_rfl) (by kernel_rfl) (by kernel_rfl) rfl (fun _ _ _ h => h) (by rfl) hHeld ?_
            simp only [Act.put, List.setIfInBounds_toArray, List.set_cons_zero, List.set_cons_succ]
            refine take_at (i := 11) 31 (v := .bool true) rfl (by kernel_rfl) (by kernel_rfl) (by kernel_rfl) rfl (fun _ _ _ h => h) (by rfl) (fun w hSw => ?_) hHeld ?_
            · (try dsimp only at hSw); go_simp
            simp only [Act.put, List.setIfInBounds_toArray, List.set_cons_zero, List.set_cons_succ]
            refine take_at (i := 12) 6 (v := .bool true) rfl (by kernel_rfl) (by kernel_rfl) (by kernel_rfl) rfl (fun _ _ _ h => h) (by rfl) (fun w hSw => ?_) hHeld ?_
            · (try dsimp only at hSw); go_simp
            simp only [Act.put, List.setIfInBounds_toArray, List.set_cons_zero, List.set_cons_succ]
            refine wpAnyH_done (by kernel_rfl) ?_ _
            clear hHeld
            go_wp2_with fail
            go_roundw
            case rel => exact ⟨k + 1, true, by go_num, by omega, rfl, by rw [HTA.out, HAN.out]; rfl, below_step HBr.out HU0.out⟩
            case measure => simp [intOf]; omega
          | false =>
            refine wp_region_held_drew (S := fun w' => w'.cell? ⟨g, i, none⟩ = some (.slice pa pn pc) ∧ w'.cell? ⟨g2, k, none⟩ = some (.slice qa qn qc)) (by kernel_rfl) (KEEP.out _ ((Below.refl _ _).drew)) (fun hHeld => ?_)
            have HU0 : Hid (Below wr.heap.size wr wr.drew) := (Below.refl _ _).drew
            generalize wr.drew = u0 at *
            refine take_at (i := 0) 20 (v := .bool false) rfl (by kernel_rfl) (by kernel_rfl) (by kernel_rfl) rfl (fun _ _ _ h => h) (by rfl) (fun w hSw => ?_) hHeld ?_
            · (try dsimp only at hSw); go_simp
            simp only [Act.put, List.setIfInBounds_toArray, List.set_cons_zero, List.set_cons_succ]
            refine take_at (i := 1) 21 (v := .bool false) rfl (by kernel_rfl) (by kernel_rfl) (by kernel_rfl) rfl (fun _ _ _ h => h) (by rfl) (fun w hSw => ?_) hHeld ?_
            · (try dsimp only at hSw); go_simp
            simp only [Act.put, List.setIfInBounds_toArray, List.set_cons_zero, List.set_cons_succ]
            refine take_at (i := 2) 22 (v := .slice (some ⟨g, 0, none⟩) n c) rfl (by kernel_rfl) (by kernel_rfl) (by kernel_rfl) rfl (fun _ _ _ h => h) (by rfl) (fun w hSw => ?_) hHeld ?_
            · (try dsimp only at hSw); go_simp
            simp only [Act.put, List.setIfInBounds_toArray, List.set_cons_zero, List.set_cons_succ]
            refine take_at (i := 3) 23 (v := .int .i64 i) rfl (by kernel_rfl) (by kernel_rfl) (by kernel_rfl) rfl (fun _ _ _ h => h) (by rfl) (fun w hSw => ?_) hHeld ?_
            · (try dsimp only at hSw); go_simp
            simp only [Act.put, List.setIfInBounds_toArray, List.set_cons_zero, List.set_cons_succ]
            refine take_at (i := 4) 24 (v := .pointer (some ⟨g, i, none⟩)) rfl (by kernel_rfl) (by kernel_rfl) (by kernel_rfl) rfl (fun _ _ _ h => h) (by rfl) (fun w hSw => ?_) hHeld ?_
            · (try dsimp only at hSw); go_simp
            simp only [Act.put, List.setIfInBounds_toArray, List.set_cons_zero, List.set_cons_succ]
            refine take_at (i := 5) 25 (v := .slice pa pn pc) rfl (by kernel_rfl) (by kernel_rfl) (by kernel_rfl) rfl (fun _ _ _ h => h) (by rfl) (fun w hSw => ?_) hHeld ?_
            · (try dsimp only at hSw); go_simp
            simp only [Act.put, List.setIfInBounds_toArray, List.set_cons_zero, List.set_cons_succ]
            refine take_at (i := 6) 26 (v := .slice (some ⟨g2, 0, none⟩) m c2) rfl (by kernel_rfl) (by kernel_rfl) (by kernel_rfl) rfl (fun _ _ _ h => h) (by rfl) (fun w hSw => ?_) hHeld ?_
            · (try dsimp only at hSw); go_simp
            simp only [Act.put, List.setIfInBounds_toArray, List.set_cons_zero, List.set_cons_succ]
            refine take_at (i := 7) 27 (v := .int .i64 k) rfl (by kernel_rfl) (by kernel_rfl) (by kernel_rfl) rfl (fun _ _ _ h => h) (by rfl) (fun w hSw => ?_) hHeld ?_
            · (try dsimp only at hSw); go_simp
            simp only [Act.put, List.setIfInBounds_toArray, List.set_cons_zero, List.set_cons_succ]
            refine take_at (i := 8) 28 (v := .pointer (some ⟨g2, k, none⟩)) rfl (by kernel_rfl) (by kernel_rfl) (by kernel_rfl) rfl (fun _ _ _ h => h) (by rfl) (fun w hSw => ?_) hHeld ?_
            · (try dsimp only at hSw); go_simp
            simp only [Act.put, List.setIfInBounds_toArray, List.set_cons_zero, List.set_cons_succ]
            refine take_at (i := 9) 29 (v := .slice qa qn qc) rfl (by kernel_rfl) (by kernel_rfl) (by kernel_rfl) rfl (fun _ _ _ h => h) (by rfl) (fun w hSw => ?_) hHeld ?_
            · (try dsimp only at hSw); go_simp
            simp only [Act.put, List.setIfInBounds_toArray, List.set_cons_zero, List.set_cons_succ]
            refine wpAnyH_ready (rs := [10]) (by kernel_rfl) (by simp) ?_
            refine node_f23 30 25 29 _ _ rfl (by rfl) rfl rfl rfl rfl ((L1.out u0 HU0.out).mono ?_) AllReadyH.nil
            · rintro e u1 ⟨rfl, hb1⟩
              have HU1 := hid (below_step HU0.out hb1)
              have hHeld := KEEP.out _ HU1.out
              refine ⟨_, rfl, hHeld, ?_⟩
              clear hb1
              simp only [Act.put, List.setIfInBounds_toArray, List.set_cons_zero, List.set_cons_succ]
              refine take_at (i := 11) 31 (v := .bool b1) rfl (by kernel_rfl) (by kernel_rfl) (by kernel_rfl) rfl (fun _ _ _ h => h) (by rfl) (fun w hSw => ?_) hHeld ?_
              · (try dsimp only at hSw); go_simp
              simp only [Act.put, List.setIfInBounds_toArray, List.set_cons_zero, List.set_cons_succ]
              refine take_at (i := 12) 6 (v := .bool b1) rfl (by kernel_rfl) (by kernel_rfl) (by kernel_rfl) rfl (fun _ _ _ h => h) (by rfl) (fun w hSw => ?_) hHeld ?_
              · (try dsimp only at hSw); go_simp
              simp only [Act.put, List.setIfInBounds_toArray, List.set_cons_zero, List.set_cons_succ]
              refine wpAnyH_done (by kernel_rfl) ?_ _
              clear hHeld
              go_wp2_with fail
              go_roundw
              case rel => exact ⟨k + 1, b1, by go_num, by omega, rfl, by rw [HTA.out, HAN.out]; rfl, below_step HBr.out HU1.out⟩
              case measure => simp [intOf]; omega
        · obtain rfl : k = m := by omega
          have HB : Hid ((Y.any fun y => x == y) = b) := by
            have := HAN.out
            rw [HE2.out] at this
            exact this
          cases b with
          | true =>
            go_wp2_with fail
            go_roundw
            case rel => exact ⟨i + 1, by go_num, by omega, by rw [HTK.out, HAL.out, HB.out]; rfl, below_step HBo.out HBr.out⟩
            case measure => simp [intOf]; omega
          | false =>
            have HF := hid (BAD.out HB.out)
            go_wp2_with fail
            go_ret
            exact ⟨by rw [HF.out]; rfl, below_step HBo.out HBr.out⟩
    · obtain rfl : i = n := by omega
      have HT : Hid (r = true) := by
        show _ = _
        rw [HSB.out, ← HAL.out, HE1.out]
      go_wp2_with fail
      go_ret
      exact ⟨by rw [HT.out]; rfl, HBo.out⟩
end Go.Proofs.Ytaedbkdimpdngaa
