/-
  Walks over chapter 12: the sets of each kind.
-/
import Derived.Test.YtaedbkdimpdngaaWalkG
namespace Go.Proofs.Ytaedbkdimpdngaa
open Go.RowKit
section
variable {md : Region.Mode} {ops : Array Oper} {Q : Exit → Act → World → Prop} {S : World → Prop} {fuel : Nat} {listed : Array Bool} {a : Act} {w : World} {i : Nat} {o : Oper} {rs : List Nat}
theorem node_f64 (d : Nat) (k1 k2 : Nat) (v1 v2 : Value) (hi : ops[i]? = some o) (hgd : Region.wanted o (yielded ops a.tmps) = true) (ho : o.op = .call { callee := .value (.func 64), args := #[.tmp k1, .tmp k2], argTypes := #[70, 75] }) (hd : o.dst = some d)
    (hp1 : a.tmps[k1]?.getD undef = v1)
    (hp2 : a.tmps[k2]?.getD undef = v2)
    (h : Calls Try.prog 64 #[v1, v2] w fun e w' => ∃ u, e = .returned u ∧ S w' ∧ wpAnyH Try.prog md ops Q S fuel (listed.setIfInBounds i true) (a.put (some d) u) w')
    (hs : AllReadyH Try.prog md ops Q S fuel listed a w rs) : AllReadyH Try.prog md ops Q S fuel listed a w (i :: rs) := by
  refine AllReadyH.cons hi (fun K hK => ?_) hs
  rw [if_pos hgd]
  unfold Oper.wp execOp
  simp [ho, go_sem, hp1, hp2]
  refine h.mono ?_
  rintro e w' ⟨u, rfl, h1, h2⟩
  have hk := hK.out _ _ h1 (fun _ => h2)
  rw [hd]
  exact hk
end
theorem natbb (x y : Nat) : ((x : Int) == (y : Int)) = (x == y) := by
  rw [Bool.eq_iff_iff, beq_iff_eq, beq_iff_eq]; omega
theorem alls_len (d : Dsp) (hn : d.n ≤ 12) (t : Nat → Bool) : (d.alls t).length ≤ 4096 := by
  unfold Dsp.alls
  have h1 := List.length_filter_le t (List.range (2 ^ d.n))
  rw [List.length_range] at h1
  exact Nat.le_trans h1 (pow_small (n := 12) hn)
theorem alls_lt (d : Dsp) (t : Nat → Bool) : ∀ s, s ∈ d.alls t → s < 2 ^ d.n := fun s hs => ((d.mem_alls t s).1 hs).1
theorem grt_len (m : Nat → Nat) (l : List Nat) : (grt m l).length ≤ l.length := List.length_filter_le _ _
theorem eg75 : ∀ args w, (callFunc 75 args).run Try.prog w = .ok (.enter 75 args) w := enters_of Try.func75 (by kernel_rfl) rfl
theorem eg78 : ∀ args w, (callFunc 78 args).run Try.prog w = .ok (.enter 78 args) w := enters_of Try.func78 (by kernel_rfl) rfl
theorem eg79 : ∀ args w, (callFunc 79 args).run Try.prog w = .ok (.enter 79 args) w := enters_of Try.func79 (by kernel_rfl) rfl
theorem eg63 : ∀ args w, (callFunc 63 args).run Try.prog w = .ok (.enter 63 args) w := enters_of Try.func63 (by kernel_rfl) rfl
theorem eg68 : ∀ args w, (callFunc 68 args).run Try.prog w = .ok (.enter 68 args) w := enters_of Try.func68 (by kernel_rfl) rfl
theorem id78_any (s : Nat) (w : World) : Calls Try.prog 78 #[sv s] w fun e w' => e = .returned (sv s) ∧ Below w.heap.size w w' := by
  unfold sv
  go_enter Try.func78, Try.ntmps78
  go_wp2
  go_ret
  exact ⟨rfl, Below.refl _ _⟩
/-- a function that lists sets of a dispute -/
def SetsF (k : Nat) (spec : Dsp → List Nat) : Prop :=
  ∀ (w : World) (D : Nat) (d : Dsp), DAt w D d → d.n ≤ 12 → Calls Try.prog k #[.pointer (some ⟨D, 0, none⟩)] w fun e w' => ∃ v, e = .returned v ∧ OwnV w' w.heap.size 75 v ((spec d).map sv) ∧ Below w.heap.size w w'
set_option maxRecDepth 100000 in
theorem preferred_any : SetsF 59 Dsp.pref := by
  intro w D d hd hn
  have HA := hid (all_any 75 #[.pointer (some ⟨D, 0, none⟩)] #[] d.adm eg75 D d w hd hn (fun W hW s hs => by simpa using admissible_any D d s W (dAt_below hd hW) hn hs))
  have HG : Hid (∀ w' v, IsV w' v ((d.alls d.adm).map sv) → Calls Try.prog 67 #[v, .func (.func 78) #[] #[]] w' fun e w'' => ∃ u, e = .returned u ∧ OwnV w'' w'.heap.size 75 u (d.pref.map sv) ∧ Below w'.heap.size w' w'') := fun w' v h =>
    greatest_any 78 #[] (fun s => s) eg78 v (d.alls d.adm) 4096 w' h (fun s hs => lt12 hn (alls_lt d _ s hs)) (fun W _ s _ => by simpa using id78_any s W) (fun s hs => by omega) (by have := alls_len d hn d.adm; omega)
  have HLN : Hid (((d.alls d.adm).map sv).length ≤ 1000000) := by show _ ≤ _; rw [List.length_map]; have := alls_len d hn d.adm; omega
  clear hd hn
  go_enter Try.func59, Try.ntmps59
  go_wp2_with (first | (go_at_call 62; refine (HA.out).mono ?_; rintro e w6 ⟨v6, rfl, ho6, hb6⟩; have HI6 := hid (ownV_isV ho6 HLN.out); have HB6 := hid hb6; clear ho6 hb6) | (go_at_call 67; refine (HG.out _ _ HI6.out).mono ?_; rintro e w7 ⟨v7, rfl, ho7, hb7⟩; have HO7 := hid ho7; have HB7 := hid hb7; clear ho7 hb7) | fail)
  go_ret
  exact ⟨_, rfl, ownV_mono HO7.out HB6.out.size, HB6.out.trans (HB7.out.mono HB6.out.size)⟩
set_option maxRecDepth 100000 in
theorem complete1_any (D : Nat) (d : Dsp) (s B : Nat) (w : World) (hd : DAt w D d) (hn : d.n ≤ 12) (hs : s < 2 ^ d.n) (hB : w.cell? ⟨B, 0, none⟩ = some (.pointer (some ⟨D, 0, none⟩))) :
    Calls Try.prog 79 #[sv s, .pointer (some ⟨B, 0, none⟩)] w fun e w' => e = .returned (.bool (d.comp s)) ∧ Below w.heap.size w w' := by
  have HA : Hid (∀ w', Below w.heap.size w w' → Calls Try.prog 64 #[.pointer (some ⟨D, 0, none⟩), .int .u16 (s : Int)] w' fun e w'' => e = .returned (.int .u16 ((d.hit s : Nat) : Int)) ∧ Below w'.heap.size w' w'') := fun w' hb => attacked_any D d s w' (dAt_below hd hb) hn hs
  have HF : Hid (∀ w', Below w.heap.size w w' → Calls Try.prog 65 #[.pointer (some ⟨D, 0, none⟩), .int .u16 (s : Int)] w' fun e w'' => e = .returned (.int .u16 ((d.dfd s : Nat) : Int)) ∧ Below w'.heap.size w' w'') := fun w' hb => defended_any D d s w' (dAt_below hd hb) hn hs
  have HX : Hid (∀ w', Below w.heap.size w w' → w'.cell? ⟨B, 0, none⟩ = some (.pointer (some ⟨D, 0, none⟩))) := fun w' hb => (hb.cell (p := ⟨B, 0, none⟩) (World.block_lt_of_cell? w _ hB)).trans hB
  have hcomp : d.comp s = (d.hit s &&& s == 0 && d.dfd s == s) := rfl
  have h1 := lt12 hn (d.hit_lt s)
  have h3 := lt12 hn hs
  have ha := and16 (a := d.hit s) (b := s) (by omega) (by omega)
  rw [hcomp]
  generalize d.hit s = h at *
  generalize d.dfd s = f at *
  generalize h &&& s = q at *
  clear hd hcomp
  unfold sv
  by_cases hq : q = 0
  · subst hq
    go_enter Try.func79, Try.ntmps79
    go_wp2_with (first | (go_at_call 64; refine (HA.out _ (Below.refl _ _)).mono ?_; rintro e w6 ⟨rfl, hb6⟩; have HB6 := hid hb6; clear hb6 hB; have x0 := HX.out _ HB6.out) | (go_at_call 65; refine (HF.out _ HB6.out).mono ?_; rintro e w7 ⟨rfl, hb7⟩; have HB7 := hid (below_step HB6.out hb7); clear hb7) | fail)
    go_ret
    exact ⟨by simp [natbb], HB7.out⟩
  · go_enter Try.func79, Try.ntmps79
    go_wp2_with (first | (go_at_call 64; refine (HA.out _ (Below.refl _ _)).mono ?_; rintro e w6 ⟨rfl, hb6⟩; have HB6 := hid hb6; clear hb6) | fail)
    go_ret
    exact ⟨by simp [hq], HB6.out⟩
set_option maxRecDepth 100000 in
theorem complete_any : SetsF 60 Dsp.comps := by
  intro w D d hd hn
  have hb0 : Below w.heap.size w (w.alloc (.cells #[.pointer (some ⟨D, 0, none⟩)] 70)) := (Below.refl _ _).alloc (Nat.le_refl _) _
  have hz := heap_alloc_new w (.cells #[.pointer (some ⟨D, 0, none⟩)] 70)
  have hd0 := dAt_below hd hb0
  have HA := hid (all_any 79 #[] #[.pointer (some ⟨w.heap.size, 0, none⟩)] d.comp eg79 D d _ hd0 hn (fun W hW s hs => by simpa using complete1_any D d s w.heap.size W (dAt_below hd0 hW) hn hs (box1 ((hW.block _ (heap_lt hz)).trans hz))))
  have HB0 := hid hb0
  have hz0 := box1 hz
  clear hd hd0 hz hb0
  go_enter Try.func60, Try.ntmps60
  go_wp2_with (first | (go_at_call 62; refine (HA.out).mono ?_; rintro e w6 ⟨v6, rfl, ho6, hb6⟩; have HO6 := hid ho6; have HB6 := hid hb6; clear ho6 hb6) | fail)
  go_ret
  exact ⟨_, rfl, ownV_mono HO6.out HB0.out.size, HB0.out.trans (HB6.out.mono HB0.out.size)⟩
set_option maxRecDepth 100000 in
set_option maxHeartbeats 1000000 in
theorem stable11_any (D : Nat) (d : Dsp) (s B : Nat) (w : World) (hd : DAt w D d) (hn : d.n ≤ 12) (hs : s < 2 ^ d.n) (hB : w.cell? ⟨B, 0, none⟩ = some (.pointer (some ⟨D, 0, none⟩))) :
    Calls Try.prog 63 #[sv s, .pointer (some ⟨B, 0, none⟩)] w fun e w' => e = .returned (.bool (d.stab s)) ∧ Below w.heap.size w w' := by
  have HA : Hid (∀ w', Below w.heap.size w w' → Calls Try.prog 64 #[.pointer (some ⟨D, 0, none⟩), .int .u16 (s : Int)] w' fun e w'' => e = .returned (.int .u16 ((d.hit s : Nat) : Int)) ∧ Below w'.heap.size w' w'') := fun w' hb => attacked_any D d s w' (dAt_below hd hb) hn hs
  have KEEP : Hid (∀ w', Below w.heap.size w w' → w'.cell? ⟨B, 0, none⟩ = some (.pointer (some ⟨D, 0, none⟩)) ∧ w'.cell? ⟨D, 0, none⟩ = some (.int .i64 (d.n : Int)) ∧ Hid (Below w.heap.size w w')) := fun w' hb => ⟨(hb.cell (p := ⟨B, 0, none⟩) (World.block_lt_of_cell? w _ hB)).trans hB, by
    obtain ⟨b1, b2, c1, c2, hf⟩ := dAt_facts hd
    exact (hf w' hb).1.1, hb⟩
  have hst : d.stab s = (d.hit s == diff d.full s) := rfl
  obtain ⟨N, hN⟩ : ∃ N, N = 2 ^ d.n := ⟨_, rfl⟩
  have hN1 : N ≤ 4096 := by rw [hN]; exact pow_small (n := 12) hn
  have hN2 : 1 ≤ N := by rw [hN]; exact Nat.two_pow_pos _
  have HSH : Hid (IntKind.u16.wrap (2 ^ d.n) = (N : Int)) := by rw [hN]; exact wrap16 (by omega)
  have hfull : d.full = N - 1 := by rw [hN]; rfl
  have HSB : Hid (IntKind.u16.wrap ((N : Int) - 1) = ((d.full : Nat) : Int)) := by
    show _ = _
    rw [IntKind.wrap_u16, hfull]; omega
  have hlt := lt12 hn hs
  have HDF := hid (dif16 (a := d.full) (b := s) (by omega) (by omega))
  have h0 : (0 : Int) ≤ (d.n : Int) := by omega
  have h1 : (d.n : Int) ≤ 16 := by omega
  rw [hst]
  clear hst hd hB hs hN hfull hN1 hN2
  generalize d.hit s = h at *
  generalize d.full = f at *
  generalize diff f s = q at *
  unfold sv
  go_enter Try.func63, Try.ntmps63
  go_upto_region 1 with fail
  refine wp_region_held_drew (S := fun w' => w'.cell? ⟨B, 0, none⟩ = some (.pointer (some ⟨D, 0, none⟩)) ∧ w'.cell? ⟨D, 0, none⟩ = some (.int .i64 (d.n : Int)) ∧ Hid (Below w.heap.size w w')) (by kernel_rfl) (KEEP.out _ ((Below.refl _ _).drew)) (fun hHeld => ?_)
  have HU0 : Hid (Below w.heap.size w w.drew) := (Below.refl _ _).drew
  generalize w.drew = u0 at *
  refine take_at (i := 0) 4 (v := .pointer (some ⟨D, 0, none⟩)) rfl (by kernel_rfl) (by kernel_rfl) (by kernel_rfl) rfl (fun _ _ _ h => h) (by rfl) (fun w hSw => ?_) hHeld ?_
  · (try dsimp only at hSw); go_simp
  simp only [Act.put, List.setIfInBounds_toArray, List.set_cons_zero, List.set_cons_succ]
  refine take_at (i := 1) 5 (v := .int .u16 s) rfl (by kernel_rfl) (by kernel_rfl) (by kernel_rfl) rfl (fun _ _ _ h => h) (by rfl) (fun w hSw => ?_) hHeld ?_
  · (try dsimp only at hSw); go_simp
  simp only [Act.put, List.setIfInBounds_toArray, List.set_cons_zero, List.set_cons_succ]
  refine take_at (i := 3) 7 (v := .pointer (some ⟨D, 0, none⟩)) rfl (by kernel_rfl) (by kernel_rfl) (by kernel_rfl) rfl (fun _ _ _ h => h) (by rfl) (fun w hSw => ?_) hHeld ?_
  · (try dsimp only at hSw); go_simp
  simp only [Act.put, List.setIfInBounds_toArray, List.set_cons_zero, List.set_cons_succ]
  refine take_at (i := 4) 8 (v := .pointer (some ⟨D, 0, none⟩)) rfl (by kernel_rfl) (by kernel_rfl) (by kernel_rfl) rfl (fun _ _ _ h => h) (by rfl) (fun w hSw => ?_) hHeld ?_
  · (try dsimp only at hSw); go_simp
  simp only [Act.put, List.setIfInBounds_toArray, List.set_cons_zero, List.set_cons_succ]
  refine take_at (i := 5) 9 (v := .pointer (some ⟨D, 0, none⟩)) rfl (by kernel_rfl) (by kernel_rfl) (by kernel_rfl) rfl (fun _ _ _ h => h) (by rfl) (fun w hSw => ?_) hHeld ?_
  · (try dsimp only at hSw); go_simp
  simp only [Act.put, List.setIfInBounds_toArray, List.set_cons_zero, List.set_cons_succ]
  refine take_at (i := 6) 10 (v := .int .i64 d.n) rfl (by kernel_rfl) (by kernel_rfl) (by kernel_rfl) rfl (fun _ _ _ h => h) (by rfl) (fun w hSw => ?_) hHeld ?_
  · (try dsimp only at hSw); go_simp
  simp only [Act.put, List.setIfInBounds_toArray, List.set_cons_zero, List.set_cons_succ]
  refine take_at (i := 7) 11 (v := .int .u16 N) rfl (by kernel_rfl) (by kernel_rfl) (by kernel_rfl) rfl (fun _ _ _ h => h) (by rfl) (fun w hSw => ?_) hHeld ?_
  · (try dsimp only at hSw); go_simp; first | done | rw [HSH.out]
  simp only [Act.put, List.setIfInBounds_toArray, List.set_cons_zero, List.set_cons_succ]
  refine take_at (i := 8) 12 (v := .int .u16 f) rfl (by kernel_rfl) (by kernel_rfl) (by kernel_rfl) rfl (fun _ _ _ h => h) (by rfl) (fun w hSw => ?_) hHeld ?_
  · (try dsimp only at hSw); go_simp; first | done | rw [HSB.out]
  simp only [Act.put, List.setIfInBounds_toArray, List.set_cons_zero, List.set_cons_succ]
  refine take_at (i := 9) 13 (v := .int .u16 s) rfl (by kernel_rfl) (by kernel_rfl) (by kernel_rfl) rfl (fun _ _ _ h => h) (by rfl) (fun w hSw => ?_) hHeld ?_
  · (try dsimp only at hSw); go_simp
  simp only [Act.put, List.setIfInBounds_toArray, List.set_cons_zero, List.set_cons_succ]
  refine take_at (i := 10) 14 (v := .int .u16 q) rfl (by kernel_rfl) (by kernel_rfl) (by kernel_rfl) rfl (fun _ _ _ h => h) (by rfl) (fun w hSw => ?_) hHeld ?_
  · (try dsimp only at hSw); go_simp; rw [HDF.out]
  simp only [Act.put, List.setIfInBounds_toArray, List.set_cons_zero, List.set_cons_succ]
  refine wpAnyH_ready (rs := [2]) (by kernel_rfl) (by simp) ?_
  refine node_f64 6 4 5 _ _ rfl (by rfl) rfl rfl rfl rfl ((HA.out _ HU0.out).mono ?_) AllReadyH.nil
  · rintro e u1 ⟨rfl, hb1⟩
    have HU1 := hid (below_step HU0.out hb1)
    have hHeld := KEEP.out _ HU1.out
    refine ⟨_, rfl, hHeld, ?_⟩
    clear hb1
    simp only [Act.put, List.setIfInBounds_toArray, List.set_cons_zero, List.set_cons_succ]
    refine take_at (i := 11) 15 (v := .bool (h == q)) rfl (by kernel_rfl) (by kernel_rfl) (by kernel_rfl) rfl (fun _ _ _ h => h) (by rfl) (fun w hSw => ?_) hHeld ?_
    · (try dsimp only at hSw); go_simp; rw [natbb]
    simp only [Act.put, List.setIfInBounds_toArray, List.set_cons_zero, List.set_cons_succ]
    refine take_at (i := 12) 3 (v := .bool (h == q)) rfl (by kernel_rfl) (by kernel_rfl) (by kernel_rfl) rfl (fun _ _ _ h => h) (by rfl) (fun w hSw => ?_) hHeld ?_
    · (try dsimp only at hSw); go_simp
    simp only [Act.put, List.setIfInBounds_toArray, List.set_cons_zero, List.set_cons_succ]
    refine wpAnyH_done (by kernel_rfl) ?_ _
    clear hHeld
    go_wp2_with fail
    go_ret
    exact ⟨rfl, HU1.out⟩
set_option maxRecDepth 100000 in
theorem stable_any : SetsF 61 Dsp.stabs := by
  intro w D d hd hn
  have hb0 : Below w.heap.size w (w.alloc (.cells #[.pointer (some ⟨D, 0, none⟩)] 70)) := (Below.refl _ _).alloc (Nat.le_refl _) _
  have hz := heap_alloc_new w (.cells #[.pointer (some ⟨D, 0, none⟩)] 70)
  have hd0 := dAt_below hd hb0
  have HA := hid (all_any 63 #[] #[.pointer (some ⟨w.heap.size, 0, none⟩)] d.stab eg63 D d _ hd0 hn (fun W hW s hs => by simpa using stable11_any D d s w.heap.size W (dAt_below hd0 hW) hn hs (box1 ((hW.block _ (heap_lt hz)).trans hz))))
  have HB0 := hid hb0
  have hz0 := box1 hz
  clear hd hd0 hz hb0
  go_enter Try.func61, Try.ntmps61
  go_wp2_with (first | (go_at_call 62; refine (HA.out).mono ?_; rintro e w6 ⟨v6, rfl, ho6, hb6⟩; have HO6 := hid ho6; have HB6 := hid hb6; clear ho6 hb6) | fail)
  go_ret
  exact ⟨_, rfl, ownV_mono HO6.out HB0.out.size, HB0.out.trans (HB6.out.mono HB0.out.size)⟩
theorem semi11_any (D : Nat) (d : Dsp) (s B : Nat) (w : World) (hd : DAt w D d) (hn : d.n ≤ 12) (hs : s < 2 ^ d.n) (hB : w.cell? ⟨B, 0, none⟩ = some (.pointer (some ⟨D, 0, none⟩))) :
    Calls Try.prog 68 #[sv s, .pointer (some ⟨B, 0, none⟩)] w fun e w' => e = .returned (sv (s ||| d.hit s)) ∧ Below w.heap.size w w' := by
  have HA : Hid (∀ w', Below w.heap.size w w' → Calls Try.prog 64 #[.pointer (some ⟨D, 0, none⟩), .int .u16 (s : Int)] w' fun e w'' => e = .returned (.int .u16 ((d.hit s : Nat) : Int)) ∧ Below w'.heap.size w' w'') := fun w' hb => attacked_any D d s w' (dAt_below hd hb) hn hs
  have h1 := lt12 hn (d.hit_lt s)
  have h2 := lt12 hn hs
  have ho := or16 (a := s) (b := d.hit s) (by omega) (by omega)
  generalize d.hit s = h at *
  generalize s ||| h = q at *
  clear hd
  unfold sv
  go_enter Try.func68, Try.ntmps68
  go_wp2_with (first | (go_at_call 64; refine (HA.out _ (Below.refl _ _)).mono ?_; rintro e w6 ⟨rfl, hb6⟩; have HB6 := hid hb6; clear hb6) | fail)
  go_ret
  exact ⟨rfl, HB6.out⟩
set_option maxRecDepth 100000 in
theorem semi_any : SetsF 66 Dsp.semis := by
  intro w D d hd hn
  have hb0 : Below w.heap.size w (w.alloc (.cells #[.pointer (some ⟨D, 0, none⟩)] 70)) := (Below.refl _ _).alloc (Nat.le_refl _) _
  have hz := heap_alloc_new w (.cells #[.pointer (some ⟨D, 0, none⟩)] 70)
  have hd0 := dAt_below hd hb0
  obtain ⟨w0, hw0⟩ : ∃ w0, w0 = w.alloc (.cells #[.pointer (some ⟨D, 0, none⟩)] 70) := ⟨_, rfl⟩
  rw [← hw0] at hb0 hz hd0
  have HA := hid (complete_any w0 D d hd0 hn)
  have HG : Hid (∀ w' v, Below w0.heap.size w0 w' → IsV w' v (d.comps.map sv) → Calls Try.prog 67 #[v, .func (.func 68) #[] #[.pointer (some ⟨w.heap.size, 0, none⟩)]] w' fun e w'' => ∃ u, e = .returned u ∧ OwnV w'' w'.heap.size 75 u (d.semis.map sv) ∧ Below w'.heap.size w' w'') := fun w' v hb h =>
    greatest_any 68 _ (fun s => s ||| d.hit s) eg68 v d.comps (2 ^ d.n) w' h (fun s hs => alls_lt d _ s hs) (fun W hW s hs => by simpa using semi11_any D d s w.heap.size W (dAt_below hd0 (below_step hb hW)) hn hs (box1 (((below_step hb hW).block _ (heap_lt hz)).trans hz)))
      (fun s hs => by
        have h1 := or_lt hs (d.hit_lt s)
        have := lt12 hn h1
        omega) (by have := alls_len d hn d.comp; unfold Dsp.comps; omega)
  have HLN : Hid ((d.comps.map sv).length ≤ 1000000) := by show _ ≤ _; rw [List.length_map]; have := alls_len d hn d.comp; unfold Dsp.comps; omega
  have HB0 := hid hb0
  have hz0 := box1 hz
  have HW0 := hid hw0
  clear hd hd0 hz hb0 hw0
  go_enter Try.func66, Try.ntmps66
  go_upto_region 1 with fail
  rw [← HW0.out]
  go_wp2_with (first | (go_at_call 60; refine (HA.out).mono ?_; rintro e w6 ⟨v6, rfl, ho6, hb6⟩; have HI6 := hid (ownV_isV ho6 HLN.out); have HB6 := hid hb6; clear ho6 hb6) | (go_at_call 67; refine (HG.out _ _ HB6.out HI6.out).mono ?_; rintro e w7 ⟨v7, rfl, ho7, hb7⟩; have HO7 := hid ho7; have HB7 := hid (below_step HB6.out hb7); have HLE := hid HB6.out.size; clear ho7 hb7) | fail)
  go_ret
  exact ⟨_, rfl, ownV_mono HO7.out (Nat.le_trans HB0.out.size HLE.out), HB0.out.trans (HB7.out.mono HB0.out.size)⟩
end Go.Proofs.Ytaedbkdimpdngaa
