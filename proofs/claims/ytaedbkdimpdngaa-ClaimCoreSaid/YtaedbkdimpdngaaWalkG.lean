/-
  Walks over chapter 12: the greatest sets.
-/
import Derived.Test.YtaedbkdimpdngaaWalkF
namespace Go.Proofs.Ytaedbkdimpdngaa
open Go.RowKit
section
variable {md : Region.Mode} {ops : Array Oper} {Q : Exit → Act → World → Prop} {S : World → Prop} {fuel : Nat} {listed : Array Bool} {a : Act} {w : World} {i : Nat} {o : Oper} {rs : List Nat}
theorem node_dyn (d kf k1 g : Nat) (lb : Array Value) (v1 : Value) (eg : ∀ args w, (callFunc g args).run Try.prog w = .ok (.enter g args) w) (hi : ops[i]? = some o) (hgd : Region.wanted o (yielded ops a.tmps) = true) (ho : o.op = .call { callee := .value (.tmp kf), args := #[.tmp k1], argTypes := #[75] }) (hd : o.dst = some d)
    (hpf : a.tmps[kf]?.getD undef = .func (.func g) #[] lb) (hp1 : a.tmps[k1]?.getD undef = v1)
    (h : Calls Try.prog g (#[v1] ++ lb) w fun e w' => ∃ u, e = .returned u ∧ S w' ∧ wpAnyH Try.prog md ops Q S fuel (listed.setIfInBounds i true) (a.put (some d) u) w')
    (hs : AllReadyH Try.prog md ops Q S fuel listed a w rs) : AllReadyH Try.prog md ops Q S fuel listed a w (i :: rs) := by
  refine AllReadyH.cons hi (fun K hK => ?_) hs
  rw [if_pos hgd]
  unfold Oper.wp execOp
  simp [ho, go_sem, hpf, hp1, eg]
  refine Calls.mono (P := Try.prog) (by simpa using h) ?_
  rintro e w' ⟨u, rfl, h1, h2⟩
  have hk := hK.out _ _ h1 (fun _ => h2)
  rw [hd]
  exact hk
end
set_option maxRecDepth 100000 in
set_option maxHeartbeats 4000000 in
theorem great1_any (g : Nat) (lb : Array Value) (m : Nat → Nat) (eg : ∀ args w, (callFunc g args).run Try.prog w = .ok (.enter g args) w) (t s M B N : Nat) (w : World) (hp : FnB g lb N (fun s => sv (m s)) w) (ht : t < N) (hs : s < N) (hm : ∀ s, s < N → m s < 65536)
    (hM : w.cell? ⟨M, 0, none⟩ = some (.func (.func g) #[] lb)) (hB : w.cell? ⟨B, 0, none⟩ = some (sv s)) :
    Calls Try.prog 81 #[sv t, .pointer (some ⟨M, 0, none⟩), .pointer (some ⟨B, 0, none⟩)] w fun e w' => e = .returned (.bool (m t != m s && sub (m s) (m t))) ∧ Below w.heap.size w w' := by
  unfold sv at hB
  have KEEP : Hid (∀ w', Below w.heap.size w w' → w'.cell? ⟨M, 0, none⟩ = some (.func (.func g) #[] lb) ∧ w'.cell? ⟨B, 0, none⟩ = some (.int .u16 s) ∧ Hid (Below w.heap.size w w')) := fun w' hb => ⟨(hb.cell (p := ⟨M, 0, none⟩) (World.block_lt_of_cell? w _ hM)).trans hM, (hb.cell (p := ⟨B, 0, none⟩) (World.block_lt_of_cell? w _ hB)).trans hB, hb⟩
  have CT : Hid (∀ w', Below w.heap.size w w' → Calls Try.prog g (#[.int .u16 (t : Int)] ++ lb) w' fun e w'' => e = .returned (.int .u16 ((m t : Nat) : Int)) ∧ Below w'.heap.size w' w'') := fun w' hb => hp w' hb t ht
  have CS : Hid (∀ w', Below w.heap.size w w' → Calls Try.prog g (#[.int .u16 (s : Int)] ++ lb) w' fun e w'' => e = .returned (.int .u16 ((m s : Nat) : Int)) ∧ Below w'.heap.size w' w'') := fun w' hb => hp w' hb s hs
  have h1 := hm t ht
  have h2 := hm s hs
  have HDF := hid (dif16 h2 h1)
  have hsub : sub (m s) (m t) = (diff (m s) (m t) == 0) := rfl
  rw [hsub]
  clear hsub hp hM hB hm ht hs
  generalize m t = x at *
  generalize m s = y at *
  generalize diff y x = q at *
  unfold sv
  by_cases hxy : x = y
  · subst hxy
    go_enter Try.func81, Try.ntmps81
    go_upto_region 1 with fail
    refine wp_region_held_drew (S := fun w' => w'.cell? ⟨M, 0, none⟩ = some (.func (.func g) #[] lb) ∧ w'.cell? ⟨B, 0, none⟩ = some (.int .u16 s) ∧ Hid (Below w.heap.size w w')) (by kernel_rfl) (KEEP.out _ ((Below.refl _ _).drew)) (fun hHeld => ?_)
    have HU0 : Hid (Below w.heap.size w w.drew) := (Below.refl _ _).drew
    generalize w.drew = u0 at *
    refine take_at (i := 0) 5 (v := .func (.func g) #[] lb) rfl (by kernel_rfl) (by kernel_rfl) (by kernel_rfl) rfl (fun _ _ _ h => h) (by rfl) (fun w hSw => ?_) hHeld ?_
    · (try dsimp only at hSw); go_simp
    simp only [Act.put, List.setIfInBounds_toArray, List.set_cons_zero, List.set_cons_succ]
    refine take_at (i := 1) 6 (v := .int .u16 t) rfl (by kernel_rfl) (by kernel_rfl) (by kernel_rfl) rfl (fun _ _ _ h => h) (by rfl) (fun w hSw => ?_) hHeld ?_
    · (try dsimp only at hSw); go_simp
    simp only [Act.put, List.setIfInBounds_toArray, List.set_cons_zero, List.set_cons_succ]
    refine take_at (i := 3) 8 (v := .func (.func g) #[] lb) rfl (by kernel_rfl) (by kernel_rfl) (by kernel_rfl) rfl (fun _ _ _ h => h) (by rfl) (fun w hSw => ?_) hHeld ?_
    · (try dsimp only at hSw); go_simp
    simp only [Act.put, List.setIfInBounds_toArray, List.set_cons_zero, List.set_cons_succ]
    refine take_at (i := 4) 9 (v := .int .u16 s) rfl (by kernel_rfl) (by kernel_rfl) (by kernel_rfl) rfl (fun _ _ _ h => h) (by rfl) (fun w hSw => ?_) hHeld ?_
    · (try dsimp only at hSw); go_simp
    simp only [Act.put, List.setIfInBounds_toArray, List.set_cons_zero, List.set_cons_succ]
    refine wpAnyH_ready (rs := [2]) (by kernel_rfl) (by simp) ?_
    refine node_dyn 7 5 6 g lb _ eg rfl (by rfl) rfl rfl rfl rfl ((CT.out _ HU0.out).mono ?_) AllReadyH.nil
    · rintro e u1 ⟨rfl, hb1⟩
      have HU1 := hid (below_step HU0.out hb1)
      have hHeld := KEEP.out _ HU1.out
      refine ⟨_, rfl, hHeld, ?_⟩
      clear hb1
      simp only [Act.put, List.setIfInBounds_toArray, List.set_cons_zero, List.set_cons_succ]
      refine wpAnyH_ready (rs := [5]) (by kernel_rfl) (by simp) ?_
      refine node_dyn 10 8 9 g lb _ eg rfl (by rfl) rfl rfl rfl rfl ((CS.out _ HU1.out).mono ?_) AllReadyH.nil
      · rintro e u2 ⟨rfl, hb2⟩
        have HU2 := hid (below_step HU1.out hb2)
        have hHeld := KEEP.out _ HU2.out
        refine ⟨_, rfl, hHeld, ?_⟩
        clear hb2
        simp only [Act.put, List.setIfInBounds_toArray, List.set_cons_zero, List.set_cons_succ]
        refine take_at (i := 6) 11 (v := .bool false) rfl (by kernel_rfl) (by kernel_rfl) (by kernel_rfl) rfl (fun _ _ _ h => h) (by rfl) (fun w hSw => ?_) hHeld ?_
        · (try dsimp only at hSw); go_simp
        simp only [Act.put, List.setIfInBounds_toArray, List.set_cons_zero, List.set_cons_succ]
        refine take_at (i := 7) 12 (v := .bool false) rfl (by kernel_rfl) (by kernel_rfl) (by kernel_rfl) rfl (fun _ _ _ h => h) (by rfl) (fun w hSw => ?_) hHeld ?_
        · (try dsimp only at hSw); go_simp
        simp only [Act.put, List.setIfInBounds_toArray, List.set_cons_zero, List.set_cons_succ]
        refine skip_at (i := 8) 13 rfl (by kernel_rfl) (by kernel_rfl) (by kernel_rfl) rfl (fun _ _ _ h => h) (by rfl) hHeld ?_
        simp only [Act.put, List.setIfInBounds_toArray, List.set_cons_zero, List.set_cons_succ]
        refine skip_at (i := 9) 14 rfl (by kernel_rfl) (by kernel_rfl) (by kernel_rfl) rfl (fun _ _ _ h => h) (by rfl) hHeld ?_
        simp only [Act.put, List.setIfInBounds_toArray, List.set_cons_zero, List.set_cons_succ]
        refine skip_at (i := 10) 15 rfl (by kernel_rfl) (by kernel_rfl) (by kernel_rfl) rfl (fun _ _ _ h => h) (by rfl) hHeld ?_
        simp only [Act.put, List.setIfInBounds_toArray, List.set_cons_zero, List.set_cons_succ]
        refine skip_at (i := 11) 16 rfl (by kernel_rfl) (by kernel_rfl) (by kernel_rfl) rfl (fun _ _ _ h => h) (by rfl) hHeld ?_
        simp only [Act.put, List.setIfInBounds_toArray, List.set_cons_zero, List.set_cons_succ]
        refine skip_at (i := 12) 17 rfl (by kernel_rfl) (by kernel_rfl) (by kernel_rfl) rfl (fun _ _ _ h => h) (by rfl) hHeld ?_
        simp only [Act.put, List.setIfInBounds_toArray, List.set_cons_zero, List.set_cons_succ]
        refine skip_at (i := 13) 18 rfl (by kernel_rfl) (by kernel_rfl) (by kernel_rfl) rfl (fun _ _ _ h => h) (by rfl) hHeld ?_
        simp only [Act.put, List.setIfInBounds_toArray, List.set_cons_zero, List.set_cons_succ]
        refine skip_at (i := 14) 19 rfl (by kernel_rfl) (by kernel_rfl) (by kernel_rfl) rfl (fun _ _ _ h => h) (by rfl) hHeld ?_
        simp only [Act.put, List.setIfInBounds_toArray, List.set_cons_zero, List.set_cons_succ]
        refine skip_at (i := 15) 20 rfl (by kernel_rfl) (by kernel_rfl) (by kernel_rfl) rfl (fun _ _ _ h => h) (by rfl) hHeld ?_
        simp only [Act.put, List.setIfInBounds_toArray, List.set_cons_zero, List.set_cons_succ]
        refine take_at (i := 16) 21 (v := .bool false) rfl (by kernel_rfl) (by kernel_rfl) (by kernel_rfl) rfl (fun _ _ _ h => h) (by rfl) (fun w hSw => ?_) hHeld ?_
        · (try dsimp only at hSw); go_simp
        simp only [Act.put, List.setIfInBounds_toArray, List.set_cons_zero, List.set_cons_succ]
        refine take_at (i := 17) 4 (v := .bool false) rfl (by kernel_rfl) (by kernel_rfl) (by kernel_rfl) rfl (fun _ _ _ h => h) (by rfl) (fun w hSw => ?_) hHeld ?_
        · (try dsimp only at hSw); go_simp
        simp only [Act.put, List.setIfInBounds_toArray, List.set_cons_zero, List.set_cons_succ]
        refine wpAnyH_done (by kernel_rfl) ?_ _
        clear hHeld
        go_wp2_with fail
        go_ret
        exact ⟨by simp, HU2.out⟩
  · have hne : ¬ (x : Int) = (y : Int) := by omega
    have hnb : (x != y) = true := bne_iff_ne.2 hxy
    rw [hnb, Bool.true_and]
    clear hnb
    go_enter Try.func81, Try.ntmps81
    go_upto_region 1 with fail
    refine wp_region_held_drew (S := fun w' => w'.cell? ⟨M, 0, none⟩ = some (.func (.func g) #[] lb) ∧ w'.cell? ⟨B, 0, none⟩ = some (.int .u16 s) ∧ Hid (Below w.heap.size w w')) (by kernel_rfl) (KEEP.out _ ((Below.refl _ _).drew)) (fun hHeld => ?_)
    have HU0 : Hid (Below w.heap.size w w.drew) := (Below.refl _ _).drew
    generalize w.drew = u0 at *
    refine take_at (i := 0) 5 (v := .func (.func g) #[] lb) rfl (by kernel_rfl) (by kernel_rfl) (by kernel_rfl) rfl (fun _ _ _ h => h) (by rfl) (fun w hSw => ?_) hHeld ?_
    · (try dsimp only at hSw); go_simp
    simp only [Act.put, List.setIfInBounds_toArray, List.set_cons_zero, List.set_cons_succ]
    refine take_at (i := 1) 6 (v := .int .u16 t) rfl (by kernel_rfl) (by kernel_rfl) (by kernel_rfl) rfl (fun _ _ _ h => h) (by rfl) (fun w hSw => ?_) hHeld ?_
    · (try dsimp only at hSw); go_simp
    simp only [Act.put, List.setIfInBounds_toArray, List.set_cons_zero, List.set_cons_succ]
    refine take_at (i := 3) 8 (v := .func (.func g) #[] lb) rfl (by kernel_rfl) (by kernel_rfl) (by kernel_rfl) rfl (fun _ _ _ h => h) (by rfl) (fun w hSw => ?_) hHeld ?_
    · (try dsimp only at hSw); go_simp
    simp only [Act.put, List.setIfInBounds_toArray, List.set_cons_zero, List.set_cons_succ]
    refine take_at (i := 4) 9 (v := .int .u16 s) rfl (by kernel_rfl) (by kernel_rfl) (by kernel_rfl) rfl (fun _ _ _ h => h) (by rfl) (fun w hSw => ?_) hHeld ?_
    · (try dsimp only at hSw); go_simp
    simp only [Act.put, List.setIfInBounds_toArray, List.set_cons_zero, List.set_cons_succ]
    refine wpAnyH_ready (rs := [2]) (by kernel_rfl) (by simp) ?_
    refine node_dyn 7 5 6 g lb _ eg rfl (by rfl) rfl rfl rfl rfl ((CT.out _ HU0.out).mono ?_) AllReadyH.nil
    · rintro e u1 ⟨rfl, hb1⟩
      have HU1 := hid (below_step HU0.out hb1)
      have hHeld := KEEP.out _ HU1.out
      refine ⟨_, rfl, hHeld, ?_⟩
      clear hb1
      simp only [Act.put, List.setIfInBounds_toArray, List.set_cons_zero, List.set_cons_succ]
      refine wpAnyH_ready (rs := [5]) (by kernel_rfl) (by simp) ?_
      refine node_dyn 10 8 9 g lb _ eg rfl (by rfl) rfl rfl rfl rfl ((CS.out _ HU1.out).mono ?_) AllReadyH.nil
      · rintro e u2 ⟨rfl, hb2⟩
        have HU2 := hid (below_step HU1.out hb2)
        have hHeld := KEEP.out _ HU2.out
        refine ⟨_, rfl, hHeld, ?_⟩
        clear hb2
        simp only [Act.put, List.setIfInBounds_toArray, List.set_cons_zero, List.set_cons_succ]
        refine take_at (i := 6) 11 (v := .bool true) rfl (by kernel_rfl) (by kernel_rfl) (by kernel_rfl) rfl (fun _ _ _ h => h) (by rfl) (fun w hSw => ?_) hHeld ?_
        · (try dsimp only at hSw); go_simp
        simp only [Act.put, List.setIfInBounds_toArray, List.set_cons_zero, List.set_cons_succ]
        refine take_at (i := 7) 12 (v := .bool true) rfl (by kernel_rfl) (by kernel_rfl) (by kernel_rfl) rfl (fun _ _ _ h => h) (by rfl) (fun w hSw => ?_) hHeld ?_
        · (try dsimp only at hSw); go_simp
        simp only [Act.put, List.setIfInBounds_toArray, List.set_cons_zero, List.set_cons_succ]
        refine take_at (i := 8) 13 (v := .func (.func g) #[] lb) rfl (by kernel_rfl) (by kernel_rfl) (by kernel_rfl) rfl (fun _ _ _ h => h) (by rfl) (fun w hSw => ?_) hHeld ?_
        · (try dsimp only at hSw); go_simp
        simp only [Act.put, List.setIfInBounds_toArray, List.set_cons_zero, List.set_cons_succ]
        refine take_at (i := 9) 14 (v := .int .u16 s) rfl (by kernel_rfl) (by kernel_rfl) (by kernel_rfl) rfl (fun _ _ _ h => h) (by rfl) (fun w hSw => ?_) hHeld ?_
        · (try dsimp only at hSw); go_simp
        simp only [Act.put, List.setIfInBounds_toArray, List.set_cons_zero, List.set_cons_succ]
        refine take_at (i := 11) 16 (v := .func (.func g) #[] lb) rfl (by kernel_rfl) (by kernel_rfl) (by kernel_rfl) rfl (fun _ _ _ h => h) (by rfl) (fun w hSw => ?_) hHeld ?_
        · (try dsimp only at hSw); go_simp
        simp only [Act.put, List.setIfInBounds_toArray, List.set_cons_zero, List.set_cons_succ]
        refine take_at (i := 12) 17 (v := .int .u16 t) rfl (by kernel_rfl) (by kernel_rfl) (by kernel_rfl) rfl (fun _ _ _ h => h) (by rfl) (fun w hSw => ?_) hHeld ?_
        · (try dsimp only at hSw); go_simp
        simp only [Act.put, List.setIfInBounds_toArray, List.set_cons_zero, List.set_cons_succ]
        refine wpAnyH_ready (rs := [10]) (by kernel_rfl) (by simp) ?_
        refine node_dyn 15 13 14 g lb _ eg rfl (by rfl) rfl rfl rfl rfl ((CS.out _ HU2.out).mono ?_) AllReadyH.nil
        · rintro e u3 ⟨rfl, hb3⟩
          have HU3 := hid (below_step HU2.out hb3)
          have hHeld := KEEP.out _ HU3.out
          refine ⟨_, rfl, hHeld, ?_⟩
          clear hb3
          simp only [Act.put, List.setIfInBounds_toArray, List.set_cons_zero, List.set_cons_succ]
          refine wpAnyH_ready (rs := [13]) (by kernel_rfl) (by simp) ?_
          refine node_dyn 18 16 17 g lb _ eg rfl (by rfl) rfl rfl rfl rfl ((CT.out _ HU3.out).mono ?_) AllReadyH.nil
          · rintro e u4 ⟨rfl, hb4⟩
            have HU4 := hid (below_step HU3.out hb4)
            have hHeld := KEEP.out _ HU4.out
            refine ⟨_, rfl, hHeld, ?_⟩
            clear hb4
            simp only [Act.put, List.setIfInBounds_toArray, List.set_cons_zero, List.set_cons_succ]
            refine take_at (i := 14) 19 (v := .int .u16 q) rfl (by kernel_rfl) (by kernel_rfl) (by kernel_rfl) rfl (fun _ _ _ h => h) (by rfl) (fun w hSw => ?_) hHeld ?_
            · (try dsimp only at hSw); go_simp; rw [HDF.out]
            simp only [Act.put, List.setIfInBounds_toArray, List.set_cons_zero, List.set_cons_succ]
            refine take_at (i := 15) 20 (v := .bool (q == 0)) rfl (by kernel_rfl) (by kernel_rfl) (by kernel_rfl) rfl (fun _ _ _ h => h) (by rfl) (fun w hSw => ?_) hHeld ?_
            · (try dsimp only at hSw); go_simp; rw [natb]
            simp only [Act.put, List.setIfInBounds_toArray, List.set_cons_zero, List.set_cons_succ]
            refine take_at (i := 16) 21 (v := .bool (q == 0)) rfl (by kernel_rfl) (by kernel_rfl) (by kernel_rfl) rfl (fun _ _ _ h => h) (by rfl) (fun w hSw => ?_) hHeld ?_
            · (try dsimp only at hSw); go_simp
            simp only [Act.put, List.setIfInBounds_toArray, List.set_cons_zero, List.set_cons_succ]
            refine take_at (i := 17) 4 (v := .bool (q == 0)) rfl (by kernel_rfl) (by kernel_rfl) (by kernel_rfl) rfl (fun _ _ _ h => h) (by rfl) (fun w hSw => ?_) hHeld ?_
            · (try dsimp only at hSw); go_simp
            simp only [Act.put, List.setIfInBounds_toArray, List.set_cons_zero, List.set_cons_succ]
            refine wpAnyH_done (by kernel_rfl) ?_ _
            clear hHeld
            go_wp2_with fail
            go_ret
            exact ⟨rfl, HU4.out⟩
theorem eg81 : ∀ args w, (callFunc 81 args).run Try.prog w = .ok (.enter 81 args) w := enters_of Try.func81 (by kernel_rfl) rfl
theorem grt_take {m : Nat → Nat} {l : List Nat} {i : Nat} (h : i < l.length) : (l.take (i + 1)).filter (fun s => !l.any fun t => m t != m s && sub (m s) (m t)) = if (l.any fun t => m t != m (l.getD i 0) && sub (m (l.getD i 0)) (m t)) then (l.take i).filter (fun s => !l.any fun t => m t != m s && sub (m s) (m t)) else (l.take i).filter (fun s => !l.any fun t => m t != m s && sub (m s) (m t)) ++ [l.getD i 0] := by
  rw [List.take_succ_eq_append_getElem h, List.filter_append]
  have : l.getD i 0 = l[i] := by rw [List.getD_eq_getElem?_getD, List.getElem?_eq_getElem h]; rfl
  rw [this]
  cases hx : (l.any fun t => m t != m l[i] && sub (m l[i]) (m t)) <;> simp [hx]
set_option maxRecDepth 100000 in
set_option maxHeartbeats 1000000 in
theorem greatest_any (g : Nat) (lb : Array Value) (m : Nat → Nat) (eg : ∀ args w, (callFunc g args).run Try.prog w = .ok (.enter g args) w) (v : Value) (l : List Nat) (N : Nat) (w : World) (hv : IsV w v (l.map sv)) (hl : ∀ s, s ∈ l → s < N)
    (hp : FnB g lb N (fun s => sv (m s)) w) (hm : ∀ s, s < N → m s < 65536) (hlen : l.length ≤ 5000) :
    Calls Try.prog 67 #[v, .func (.func g) #[] lb] w fun e w' => ∃ u, e = .returned u ∧ OwnV w' w.heap.size 75 u ((grt m l).map sv) ∧ Below w.heap.size w w' := by
  obtain ⟨a, c, rfl⟩ := isV_slice hv
  obtain ⟨M, hMe⟩ : ∃ M, M = w.heap.size := ⟨_, rfl⟩
  have hb0 : Below w.heap.size w (w.alloc (.cells #[.func (.func g) #[] lb] 89)) := (Below.refl _ _).alloc (Nat.le_refl _) _
  have hz := heap_alloc_new w (.cells #[.func (.func g) #[] lb] 89)
  have hv0 := isV_below hv hb0
  have hp0 := fnB_later hp hb0
  obtain ⟨w0, hw0⟩ : ∃ w0, w0 = w.alloc (.cells #[.func (.func g) #[] lb] 89) := ⟨_, rfl⟩
  rw [← hw0] at hb0 hz hv0 hp0
  rw [← hMe] at hz
  have HB0 := hid hb0
  have HZ := hid hz
  have HV := hid hv0
  have HP := hid hp0
  have HL := hid hl
  have HM := hid hm
  have HW0 := hid hw0
  have HME := hid hMe
  clear hb0 hz hv0 hp0 hv hp hl hm hw0 hMe
  rw [List.length_map] at HV ⊢
  obtain ⟨n, hn⟩ : ∃ n, n = l.length := ⟨_, rfl⟩
  have HN := hid hn
  rw [← hn] at hlen HV ⊢
  clear hn
  go_enter Try.func67, Try.ntmps67
  go_upto_region 1 with fail
  rw [← HME.out, ← HW0.out]
  go_wp2_with fail
  go_loopw [10, 5] (fun iv ov wr => ∃ i : Nat, iv = .int .i64 i ∧ i ≤ n ∧ Hid (OwnV wr w0.heap.size 75 ov (((l.take i).filter (fun s => !l.any fun t => m t != m s && sub (m s) (m t))).map sv)) ∧ Hid (Below w0.heap.size w0 wr)) (fun iv _ _ => n - (intOf iv).toNat)
  case atStart => exact ⟨0, rfl, Nat.zero_le _, ownV_nil _ _ _, Below.refl _ _⟩
  case round =>
    obtain ⟨i, rfl, hi, HT, HBr⟩ := hrel
    obtain ⟨sa, sn, sc, rfl⟩ := ownV_sh HT.out
    have HNL : Hid ((((l.take i).filter (fun s => !l.any fun t => m t != m s && sub (m s) (m t))).map sv).length < 1000000) := by
      show _ < _
      rw [List.length_map]
      have h1 := List.length_filter_le (fun s => !l.any fun t => m t != m s && sub (m s) (m t)) (l.take i)
      rw [List.length_take] at h1
      omega
    by_cases hlt : i < n
    · have hli : i < l.length := by rw [← HN.out]; exact hlt
      obtain ⟨gb, rfl, -, hc⟩ := isV_at (isV_below HV.out HBr.out) i (by rw [List.length_map]; exact hli)
      rw [getD_map sv _ 0 i hli] at hc
      have hs : l.getD i 0 < N := HL.out _ (by rw [List.getD_eq_getElem?_getD, List.getElem?_eq_getElem hli]; exact List.getElem_mem hli)
      have HSU := hid (grt_take (m := m) hli)
      change wr.cell? _ = some (.int .u16 ((l.getD i 0 : Nat) : Int)) at hc
      generalize l.getD i 0 = s at *
      have HS := hid hs
      clear hs
      go_upto_region 5 with fail
      clear hc
      obtain ⟨B, hB⟩ : ∃ B, B = wr.heap.size := ⟨_, rfl⟩
      have ZB := hid (heap_alloc_new wr (.cells #[.int .u16 (s : Int)] 75))
      have HB1 := hid (below_step HBr.out ((Below.refl wr.heap.size wr).alloc (Nat.le_refl _) (.cells #[.int .u16 (s : Int)] 75)))
      have HBx : Hid (Below wr.heap.size wr (wr.alloc (.cells #[.int .u16 (s : Int)] 75))) := (Below.refl wr.heap.size wr).alloc (Nat.le_refl _) (.cells #[.int .u16 (s : Int)] 75)
      obtain ⟨wx, hwx⟩ : ∃ wx, wx = wr.alloc (.cells #[.int .u16 (s : Int)] 75) := ⟨_, rfl⟩
      rw [← hB] at ZB ⊢
      rw [← hwx] at ZB HB1 HBx ⊢
      clear hB hwx
      have HC : Hid (Calls Try.prog 80 #[.slice (some ⟨gb, 0, none⟩) n c, .func (.func 81) #[] #[.pointer (some ⟨M, 0, none⟩), .pointer (some ⟨B, 0, none⟩)]] wx fun e w' => e = .returned (.bool (l.any fun t => m t != m s && sub (m s) (m t))) ∧ Below wx.heap.size wx w') :=
        contains_any 81 _ (fun t => m t != m s && sub (m s) (m t)) eg81 _ l wx (isV_below HV.out HB1.out) N HL.out (fun W hW t ht => great1_any g lb m eg t s M B N W (fnB_later HP.out (below_step HB1.out hW)) ht HS.out HM.out (box1 (((below_step HB1.out hW).block _ (heap_lt HZ.out)).trans HZ.out)) (box1 ((hW.block _ (heap_lt ZB.out)).trans ZB.out)))
      cases hq : (l.any fun t => m t != m s && sub (m s) (m t)) with
      | true =>
        rw [hq] at HC HSU
        clear hq
        go_wp2_with (first | (go_at_call 80; refine HC.out.mono ?_; rintro e w6 ⟨rfl, hb6⟩; have HB6 := hid (below_step HB1.out hb6); have HT6 := hid (ownV_below (ownV_below HT.out HBx.out) hb6); clear hb6) | fail)
        go_roundw
        case rel => exact ⟨i + 1, by go_num, by omega, by rw [HSU.out, if_pos (by trivial)]; exact HT6.out, HB6.out⟩
        case measure => simp [intOf]; omega
      | false =>
        rw [hq] at HC HSU
        clear hq
        go_wp2_with (first | (go_at_call 80; refine HC.out.mono ?_; rintro e w6 ⟨rfl, hb6⟩; have HB6 := hid (below_step HB1.out hb6); have x9 := box1 ((hb6.block _ (heap_lt ZB.out)).trans ZB.out); have HT6 := hid (ownV_below (ownV_below HT.out HBx.out) hb6); clear hb6) | (at_builtin; refine wpl_app_set _ _ _ (.slice sa sn sc) w0.heap.size _ (by rfl) (by rfl) (by rfl) (by rfl) HT6.out HNL.out HB6.out.size ?_; intro v' w7 ho7 hb7 hg7; obtain ⟨ta, tn, tc, rfl⟩ := ownV_sh ho7; have HO7 := hid ho7; have HB7 := hid hb7; clear ho7 hb7 hg7) | fail)
        go_roundw
        case rel => exact ⟨i + 1, by go_num, by omega, by rw [HSU.out, if_neg (by decide), List.map_append]; exact HO7.out, HB6.out.trans HB7.out⟩
        case measure => simp [intOf]; omega
    · obtain rfl : i = n := by omega
      go_wp2_with fail
      go_ret
      refine ⟨_, rfl, ?_, HB0.out.trans (HBr.out.mono HB0.out.size)⟩
      have h := HT.out
      rw [HN.out, List.take_length] at h
      exact ownV_mono h HB0.out.size
end Go.Proofs.Ytaedbkdimpdngaa
