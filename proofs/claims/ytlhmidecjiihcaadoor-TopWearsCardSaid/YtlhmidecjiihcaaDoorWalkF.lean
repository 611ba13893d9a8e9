/-
  A size is divided by one limb (50).
-/
import Derived.Test.YtlhmidecjiihcaaDoorWalkE
namespace Go.Proofs.YtlhmidecjiihcaaDoor
open Go.RowKit
section
variable {md : Region.Mode} {ops : Array Oper} {Q : Exit → Act → World → Prop} {S : World → Prop} {fuel : Nat} {listed : Array Bool} {a : Act} {w : World} {i : Nat} {o : Oper} {rs : List Nat}
theorem node_store94 (k j g off : Nat) (x : Value) (z : Int) (hi : ops[i]? = some o) (hgd : o.guard = none) (ho : o.op = .store 94 (.tmp k) (.tmp j)) (hd : o.dst = none)
    (hp : a.tmps[k]?.getD undef = .pointer (some ⟨g, off, none⟩)) (hv : a.tmps[j]?.getD undef = .int .u32 z)
    (hc : w.cell? ⟨g, off, none⟩ = some x) (hf : w.frozen? ⟨g, off, none⟩ = false) (hS : S (w.setCell ⟨g, off, none⟩ (.int .u32 z)))
    (h : wpAnyH Tryd.prog md ops Q S fuel (listed.setIfInBounds i true) a (w.setCell ⟨g, off, none⟩ (.int .u32 z)))
    (hs : AllReadyH Tryd.prog md ops Q S fuel listed a w rs) : AllReadyH Tryd.prog md ops Q S fuel listed a w (i :: rs) := by
  refine AllReadyH.cons hi (fun K hK => ?_) hs
  have hw : Region.wanted o (yielded ops a.tmps) = true := by simp [Region.wanted, hgd]
  rw [if_pos hw]
  have hk := hK.out _ _ hS (fun _ => h)
  unfold Oper.wp execOp
  simp [ho, go_sem, hp, hv, hc, hf]
  rw [hd]
  exact hk
end
theorem or0 (a : Nat) (h : a < 4294967296) : bits .or .u64 0 (a : Int) = (a : Int) := by
  have := u64_or_nat 0 a (by decide) (by omega)
  rw [Nat.zero_or] at this
  exact this
set_option maxRecDepth 100000 in
set_option maxHeartbeats 2000000 in
theorem byWord_any (u : Value) (a d : Nat) (w : World) (hu : Lb w u a) (hd : 0 < d) (hd2 : d < 4294967296) :
    Calls Tryd.prog 50 #[u, .int .u32 (d : Int)] w fun e w' => ∃ x, e = .returned (.tuple #[x, .int .u32 ((a % d : Nat) : Int)]) ∧ Lb w' x (a / d) ∧ Below w.heap.size w w' := by
  by_cases a0 : a = 0
  · obtain ⟨p1, c1, rfl⟩ := (show Lb w _ 0 from a0 ▸ hu).z
    clear hu
    have mk := mk0 w
    go_enter Tryd.func50, Tryd.ntmps50
    go_upto_region 2 with fail
    obtain ⟨O, w1, hw1, hO, HO1, HB1, HOW⟩ := new_out w [] (by decide)
    have HO1 : Hid (OwnV w1 w.heap.size 94 (.slice (some ⟨O, 0, none⟩) 0 0) (([] : List Nat).map u4)) := HO1
    have hw2 : w.alloc (.cells (#[] : Array Value) 94) = w1 := hw1
    rw [hw2, ← hO]
    clear hw1 hw2 hO mk
    go_wp2_with fail
    go_loopw [7, 8] (fun rv iv wr => rv = .int .u64 0 ∧ iv = .int .i64 (-1) ∧ wr = w1) (fun _ _ _ => 0)
    case atStart => exact ⟨rfl, rfl, rfl⟩
    case round =>
      obtain ⟨rfl, rfl, rfl⟩ := hrel
      rename World => wr
      go_wp2_with (first | (go_at_call 48; refine (trim_own _ _ _ _ (0) [] _ HO1.out (by decide) rfl (fun j hj => by rcases j with _ | _ | j <;> first | exact absurd hj (by decide) | rfl) (by simp)).mono ?_; rintro e w9 ⟨v9, rfl, hl9, hw9⟩; rw [hw9]; have HL9 := hid hl9; clear hl9 hw9) | fail)
      go_ret2
      exact ⟨v9, by rw [a0, Nat.zero_mod]; rfl, by rw [a0, Nat.zero_div]; exact HL9.out, HB1.out⟩
  · obtain ⟨g1, c1, rfl, hc1, ha, k1⟩ := hu.p a0
    have K1 : Hid (∀ w', Below w.heap.size w w' → w'.cell? ⟨g1, 0, none⟩ = some (.int .u32 (a : Int))) := fun w' hb => (hb.cell (World.block_lt_of_cell? w _ k1)).trans k1
    clear hu k1
    have mk := mk1 w
    go_enter Tryd.func50, Tryd.ntmps50
    go_upto_region 2 with fail
    obtain ⟨O, w1, hw1, hO, HO1, HB1, HOW⟩ := new_out w [0] (by decide)
    have HO1 : Hid (OwnV w1 w.heap.size 94 (.slice (some ⟨O, 0, none⟩) 1 1) (([0] : List Nat).map u4)) := HO1
    have hw2 : w.alloc (.cells #[.int .u32 0] 94) = w1 := hw1
    rw [hw2, ← hO]
    clear hw1 hw2 hO mk
    go_wp2_with fail
    obtain ⟨q, hq⟩ : ∃ q, q = a / d := ⟨_, rfl⟩
    obtain ⟨r, hr⟩ : ∃ r, r = a % d := ⟨_, rfl⟩
    have hqa : q ≤ a := by rw [hq]; exact Nat.div_le_self _ _
    have hrd : r < d := by rw [hr]; exact Nat.mod_lt _ hd
    have HQ : Hid ((a : Int) / (d : Int) = (q : Int)) := by show _ = _; rw [hq]; exact (Int.natCast_ediv a d).symm
    have HR : Hid ((a : Int) % (d : Int) = (r : Int)) := by show _ = _; rw [hr]; exact (Int.natCast_emod a d).symm
    have HQ2 : Hid (IntKind.u64.wrap ((a : Int) / (d : Int)) = (q : Int)) := by show _ = _; rw [HQ.out, IntKind.wrap_u64]; omega
    have HR2 : Hid (IntKind.u64.wrap ((a : Int) % (d : Int)) = (r : Int)) := by show _ = _; rw [HR.out, IntKind.wrap_u64]; omega
    have HR3 : Hid ((a : Int).tmod (d : Int) = (r : Int)) := by show _ = _; rw [Int.tmod_eq_emod_of_nonneg (by omega)]; exact HR.out
    have HQE := hid hq
    have HRE := hid hr
    have hor := or0 a ha
    clear hq hr
    go_loopw [7, 8] (fun rv iv wr => Hid (Below w.heap.size w wr) ∧ ((iv = .int .i64 0 ∧ rv = .int .u64 0 ∧ Hid (OwnV wr w.heap.size 94 (.slice (some ⟨O, 0, none⟩) 1 1) (([0] : List Nat).map u4))) ∨ (iv = .int .i64 (-1) ∧ rv = .int .u64 (r : Int) ∧ Hid (OwnV wr w.heap.size 94 (.slice (some ⟨O, 0, none⟩) 1 1) (([q] : List Nat).map u4))))) (fun _ iv _ => (intOf iv + 1).toNat)
    case atStart => exact ⟨HB1, .inl ⟨rfl, rfl, HO1⟩⟩
    case round =>
      obtain ⟨HBr, hr⟩ := hrel
      rename World => wr
      rcases hr with ⟨rfl, rfl, HOr⟩ | ⟨rfl, rfl, HOr⟩
      · have k1 := K1.out wr HBr.out
        go_upto_region 7 with fail
        clear k1
        refine wp_region_held_drew (S := fun w' => True) (by kernel_rfl) trivial (fun hHeld => ?_)
        have HBU := hid (HBr.out.drew)
        have HOU := hid (ownV_below HOr.out (Below.refl _ wr).drew)
        generalize wr.drew = u0 at *
        have q0 := own_get HOU.out 0 (by simp)
        have f0 := ownV_frozen HOU.out 0
        have HP := hid (own_put HOU.out 0 q)
        refine take_at (i := 0) 28 (v := .slice (some ⟨O, 0, none⟩) 1 1) rfl (by kernel_rfl) (by kernel_rfl) (by kernel_rfl) rfl (fun _ _ _ h => h) (by rfl) (fun w hSw => ?_) hHeld ?_
        · (try dsimp only at hSw); go_simp
        simp only [Act.put, List.setIfInBounds_toArray, List.set_cons_zero, List.set_cons_succ]
        refine take_at (i := 1) 29 (v := .int .i64 0) rfl (by kernel_rfl) (by kernel_rfl) (by kernel_rfl) rfl (fun _ _ _ h => h) (by rfl) (fun w hSw => ?_) hHeld ?_
        · (try dsimp only at hSw); go_simp
        simp only [Act.put, List.setIfInBounds_toArray, List.set_cons_zero, List.set_cons_succ]
        refine take_at (i := 2) 30 (v := .int .u64 (a : Int)) rfl (by kernel_rfl) (by kernel_rfl) (by kernel_rfl) rfl (fun _ _ _ h => h) (by rfl) (fun w hSw => ?_) hHeld ?_
        · (try dsimp only at hSw); go_simp
        simp only [Act.put, List.setIfInBounds_toArray, List.set_cons_zero, List.set_cons_succ]
        refine take_at (i := 3) 31 (v := .int .u32 (d : Int)) rfl (by kernel_rfl) (by kernel_rfl) (by kernel_rfl) rfl (fun _ _ _ h => h) (by rfl) (fun w hSw => ?_) hHeld ?_
        · (try dsimp only at hSw); go_simp
        simp only [Act.put, List.setIfInBounds_toArray, List.set_cons_zero, List.set_cons_succ]
        refine take_at (i := 4) 32 (v := .int .u64 (d : Int)) rfl (by kernel_rfl) (by kernel_rfl) (by kernel_rfl) rfl (fun _ _ _ h => h) (by rfl) (fun w hSw => ?_) hHeld ?_
        · (try dsimp only at hSw); go_simp; first | done | (rw [IntKind.wrap_u64]; omega) | (simp; omega)
        simp only [Act.put, List.setIfInBounds_toArray, List.set_cons_zero, List.set_cons_succ]
        refine take_at (i := 5) 33 (v := .int .u64 (q : Int)) rfl (by kernel_rfl) (by kernel_rfl) (by kernel_rfl) rfl (fun _ _ _ h => h) (by rfl) (fun w hSw => ?_) hHeld ?_
        · (try dsimp only at hSw); go_simp; first | done | (rw [HQ2.out]; done) | (rw [HR3.out]; done) | (rw [HR2.out]; done) | (rw [if_neg (by omega), HQ2.out]; done) | (rw [if_neg (by omega), HR3.out]; done)
        simp only [Act.put, List.setIfInBounds_toArray, List.set_cons_zero, List.set_cons_succ]
        refine take_at (i := 6) 34 (v := .int .u32 (q : Int)) rfl (by kernel_rfl) (by kernel_rfl) (by kernel_rfl) rfl (fun _ _ _ h => h) (by rfl) (fun w hSw => ?_) hHeld ?_
        · (try dsimp only at hSw); go_simp; first | done | (rw [IntKind.wrap_u32]; omega) | (simp; omega)
        simp only [Act.put, List.setIfInBounds_toArray, List.set_cons_zero, List.set_cons_succ]
        refine take_at (i := 7) 35 (v := .int .u64 (a : Int)) rfl (by kernel_rfl) (by kernel_rfl) (by kernel_rfl) rfl (fun _ _ _ h => h) (by rfl) (fun w hSw => ?_) hHeld ?_
        · (try dsimp only at hSw); go_simp
        simp only [Act.put, List.setIfInBounds_toArray, List.set_cons_zero, List.set_cons_succ]
        refine take_at (i := 8) 36 (v := .int .u32 (d : Int)) rfl (by kernel_rfl) (by kernel_rfl) (by kernel_rfl) rfl (fun _ _ _ h => h) (by rfl) (fun w hSw => ?_) hHeld ?_
        · (try dsimp only at hSw); go_simp
        simp only [Act.put, List.setIfInBounds_toArray, List.set_cons_zero, List.set_cons_succ]
        refine take_at (i := 9) 37 (v := .int .u64 (d : Int)) rfl (by kernel_rfl) (by kernel_rfl) (by kernel_rfl) rfl (fun _ _ _ h => h) (by rfl) (fun w hSw => ?_) hHeld ?_
        · (try dsimp only at hSw); go_simp; first | done | (rw [IntKind.wrap_u64]; omega) | (simp; omega)
        simp only [Act.put, List.setIfInBounds_toArray, List.set_cons_zero, List.set_cons_succ]
        refine take_at (i := 10) 38 (v := .int .u64 (r : Int)) rfl (by kernel_rfl) (by kernel_rfl) (by kernel_rfl) rfl (fun _ _ _ h => h) (by rfl) (fun w hSw => ?_) hHeld ?_
        · (try dsimp only at hSw); go_simp; first | done | (rw [HQ2.out]; done) | (rw [HR3.out]; done) | (rw [HR2.out]; done) | (rw [if_neg (by omega), HQ2.out]; done) | (rw [if_neg (by omega), HR3.out]; done)
        simp only [Act.put, List.setIfInBounds_toArray, List.set_cons_zero, List.set_cons_succ]
        refine take_at (i := 11) 39 (v := .pointer (some ⟨O, 0, none⟩)) rfl (by kernel_rfl) (by kernel_rfl) (by kernel_rfl) rfl (fun _ _ _ h => h) (by rfl) (fun w hSw => ?_) hHeld ?_
        · (try dsimp only at hSw); go_simp
        simp only [Act.put, List.setIfInBounds_toArray, List.set_cons_zero, List.set_cons_succ]
        refine wpAnyH_ready (rs := [12]) (by kernel_rfl) (by simp) ?_
        refine node_store94 39 34 O 0 _ (q : Int) rfl rfl rfl rfl rfl rfl q0 f0 trivial ?_ AllReadyH.nil
        · skip
          refine take_at (i := 13) 7 (v := .int .u64 (r : Int)) rfl (by kernel_rfl) (by kernel_rfl) (by kernel_rfl) rfl (fun _ _ _ h => h) (by rfl) (fun w hSw => ?_) hHeld ?_
          · (try dsimp only at hSw); go_simp
          simp only [Act.put, List.setIfInBounds_toArray, List.set_cons_zero, List.set_cons_succ]
          refine wpAnyH_done (by kernel_rfl) ?_ _
          clear hHeld
          go_wp2_with fail
          go_roundw
          case rel => exact ⟨out_below (B := 0) HBU.out HP.out.2 HOW.out, .inr ⟨rfl, rfl, HP.out.1⟩⟩
          case measure => simp [intOf]
      · go_wp2_with (first | (go_at_call 48; refine (trim_own _ _ _ _ (q) [q] _ HOr.out (by omega) rfl (fun j hj => by rcases j with _ | _ | j <;> first | exact absurd hj (by decide) | rfl) (by simp)).mono ?_; rintro e w9 ⟨v9, rfl, hl9, hw9⟩; rw [hw9]; have HL9 := hid hl9; clear hl9 hw9) | fail)
        go_ret2
        exact ⟨v9, by rw [← HRE.out]; rfl, by rw [← HQE.out]; exact HL9.out, HBr.out⟩
end Go.Proofs.YtlhmidecjiihcaaDoor
