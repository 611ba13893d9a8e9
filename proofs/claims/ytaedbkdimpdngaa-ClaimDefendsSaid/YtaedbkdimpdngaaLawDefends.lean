/-
  The law ClaimDefends of chapter 12: its contract.
-/
import Derived.Test.YtaedbkdimpdngaaWalkAG
import Derived.Test.YtaedbkdimpdngaaLawIdeals
namespace Go.Proofs.Ytaedbkdimpdngaa
open Go.RowKit
section
variable {md : Region.Mode} {ops : Array Oper} {Q : Exit → Act → World → Prop} {S : World → Prop} {fuel : Nat} {listed : Array Bool} {a : Act} {w : World} {i : Nat} {o : Oper} {rs : List Nat}
theorem node_f16 (d : Nat) (k1 : Nat) (v1 : Value) (hi : ops[i]? = some o) (hgd : Region.wanted o (yielded ops a.tmps) = true) (ho : o.op = .call { callee := .value (.func 16), args := #[.tmp k1], argTypes := #[22] }) (hd : o.dst = some d)
    (hp1 : a.tmps[k1]?.getD undef = v1)
    (h : Calls Try.prog 16 #[v1] w fun e w' => ∃ u, e = .returned u ∧ S w' ∧ wpAnyH Try.prog md ops Q S fuel (listed.setIfInBounds i true) (a.put (some d) u) w')
    (hs : AllReadyH Try.prog md ops Q S fuel listed a w rs) : AllReadyH Try.prog md ops Q S fuel listed a w (i :: rs) := by
  refine AllReadyH.cons hi (fun K hK => ?_) hs
  rw [if_pos hgd]
  unfold Oper.wp execOp
  simp [ho, go_sem, hp1]
  refine h.mono ?_
  rintro e w' ⟨u, rfl, h1, h2⟩
  have hk := hK.out _ _ h1 (fun _ => h2)
  rw [hd]
  exact hk
end
section
variable {w : World} {k : Nat} {args : Array Value} {n : Int} {l : List Pr} {ys : List Int} {no : Value} {ok : Nat → Value → World → Prop}
theorem rets_bad1 (h : Calls Try.prog k args w (RetS w n l ys no ok)) (hva : validP n l = false) : Calls Try.prog k args w fun e w' => e = .returned (.tuple #[no, .int .i64 1]) ∧ Below w.heap.size w w' :=
  h.mono fun e w' hp => by
    obtain ⟨hb, ⟨_, he⟩ | ⟨h2, _⟩ | ⟨h2, _⟩⟩ := hp
    · exact ⟨he, hb⟩
    · rw [hva] at h2; cases h2
    · rw [hva] at h2; cases h2
theorem rets_bad2 (h : Calls Try.prog k args w (RetS w n l ys no ok)) (hva : validP n l = true) (hok : okS n ys = false) : Calls Try.prog k args w fun e w' => e = .returned (.tuple #[no, .int .i64 2]) ∧ Below w.heap.size w w' :=
  h.mono fun e w' hp => by
    obtain ⟨hb, ⟨h2, _⟩ | ⟨_, _, he⟩ | ⟨_, h2, _⟩⟩ := hp
    · rw [hva] at h2; cases h2
    · exact ⟨he, hb⟩
    · rw [hok] at h2; cases h2
theorem rets_ok (h : Calls Try.prog k args w (RetS w n l ys no ok)) (hva : validP n l = true) (hok : okS n ys = true) : Calls Try.prog k args w fun e w' => ∃ x, e = .returned (.tuple #[x, .int .i64 0]) ∧ ok (setS ys) x w' ∧ Below w.heap.size w w' :=
  h.mono fun e w' hp => by
    obtain ⟨hb, ⟨h2, _⟩ | ⟨_, h2, _⟩ | ⟨_, _, x, he, hx⟩⟩ := hp
    · rw [hva] at h2; cases h2
    · rw [hok] at h2; cases h2
    · exact ⟨x, he, hx, hb⟩
end
theorem set_yes {o : Bool} {p q : Prop} (ho : o = true) (h : (o = true ∧ p) ∨ (o = false ∧ q)) : p := h.elim (fun x => x.2) fun x => by rw [ho] at x; cases x.1
theorem set_no {o : Bool} {p q : Prop} (ho : o = false) (h : (o = true ∧ p) ∨ (o = false ∧ q)) : q := h.elim (fun x => by rw [ho] at x; cases x.1) fun x => x.2
set_option maxRecDepth 100000 in
set_option maxHeartbeats 4000000 in
theorem ClaimDefends_ok (n : Int) (vx : Value) (xs : List Pr) (vy : Value) (ys : List Int) (w : World) (hx : ArgPr w vx xs) (hy : ArgIn w vy ys) :
    Calls Try.prog 11 #[.int .i64 n, vx, vy] w fun e w' => e = .returned (.bool true) ∧ Below w.heap.size w w' := by
  have FW : Hid (∀ w', Below w.heap.size w w' → Calls Try.prog 16 #[vx] w' fun e w'' => ∃ u, e = .returned u ∧ OwnP w'' w'.heap.size 45 u (xs.take 41) ∧ Below w'.heap.size w' w'') := fun w' hb => few_any vx xs w' (argPr_below hx hb)
  have hl41 : (xs.take 41).length ≤ 41 := by rw [List.length_take]; omega
  generalize xs.take 41 = l at *
  obtain ⟨k, hk⟩ : ∃ k, k = min ys.length 13 := ⟨_, rfl⟩
  have RD0 : Hid (∀ w', Below w.heap.size w w' → ∃ a c, vy = .slice a ys.length c ∧ ys.length ≤ c ∧ c ≤ maxLen ∧ (a = none → c = 0) ∧ Rd w' (.slice a k c) k 1 ((ys.take 13).map zv)) := fun w' hb => rd_ins (argIn_below hy hb) k 13 hk
  have hml : ys.length ≤ maxLen := hy.1
  obtain ⟨a, yc, rfl, hlc, hcm, hnn, -⟩ := RD0.out w (Below.refl _ _)
  have RD : Hid (∀ w', Below w.heap.size w w' → Rd w' (.slice a k yc) k 1 ((ys.take 13).map zv)) := fun w' hb => by
    obtain ⟨a', c', e, -, -, -, h⟩ := RD0.out w' hb
    cases e; exact h
  have hz13 : (ys.take 13).length ≤ 13 := by rw [List.length_take]; omega
  have hk1 : k ≤ 13 := by omega
  have hk2 : k ≤ yc := by omega
  have HMIN : Hid (min (ys.length : Int) 13 = (k : Int)) := by show _ = _; omega
  have HK6 : Hid (k ≤ 1000000) := by show _ ≤ _; omega
  have hmx : ys.length ≤ 9223372036854775807 := by unfold maxLen at hml; omega
  generalize ys.take 13 = zs at *
  obtain ⟨US, hUS⟩ : ∃ U, U = zs.map zv := ⟨_, rfl⟩
  have HUS := hid hUS
  rw [← hUS] at RD
  generalize ys.length = yn at *
  clear hx hy RD0 hUS hml
  go_enter Try.func11, Try.ntmps11
  go_upto_region 1 with fail
  go_cut [7, 8] (fun v7 v8 wx => ∃ u7 u8, v7 = u7 ∧ v8 = u8 ∧ Hid (OwnP wx w.heap.size 45 u7 l) ∧ Hid (OwnV wx w.heap.size 3 u8 (zs.map zv)) ∧ Hid (Below w.heap.size w wx))
  case first =>
    cases a with
    | none =>
      have hc0 := hnn rfl
      subst hc0
      have hk0 : k = 0 := by omega
      have hn0 : yn = 0 := by omega
      subst hk0 hn0
      clear hk
      refine wp_region_held_drew (S := fun _ => True) (by kernel_rfl) trivial (fun hHeld => ?_)
      have HU0 : Hid (Below w.heap.size w w.drew) := (Below.refl _ _).drew
      generalize w.drew = u0 at *
      refine take_at (i := 0) 17 (v := vx) rfl (by kernel_rfl) (by kernel_rfl) (by kernel_rfl) rfl (fun _ _ _ h => h) (by rfl) (fun w hSw => ?_) hHeld ?_
      · (try dsimp only at hSw); go_simp
      simp only [Act.put, List.setIfInBounds_toArray, List.set_cons_zero, List.set_cons_succ]
      refine take_at (i := 3) 20 (v := .slice none 0 0) rfl (by kernel_rfl) (by kernel_rfl) (by kernel_rfl) rfl (fun _ _ _ h => h) (by rfl) (fun w hSw => ?_) hHeld ?_
      · (try dsimp only at hSw); go_simp
      simp only [Act.put, List.setIfInBounds_toArray, List.set_cons_zero, List.set_cons_succ]
      refine take_at (i := 4) 21 (v := .slice none 0 0) rfl (by kernel_rfl) (by kernel_rfl) (by kernel_rfl) rfl (fun _ _ _ h => h) (by rfl) (fun w hSw => ?_) hHeld ?_
      · (try dsimp only at hSw); go_simp
      simp only [Act.put, List.setIfInBounds_toArray, List.set_cons_zero, List.set_cons_succ]
      refine take_at (i := 5) 22 (v := .int .i64 0) rfl (by kernel_rfl) (by kernel_rfl) (by kernel_rfl) rfl (fun _ _ _ h => h) (by rfl) (fun w hSw => ?_) hHeld ?_
      · (try dsimp only at hSw); go_simp
      simp only [Act.put, List.setIfInBounds_toArray, List.set_cons_zero, List.set_cons_succ]
      refine take_at (i := 6) 23 (v := .int .i64 0) rfl (by kernel_rfl) (by kernel_rfl) (by kernel_rfl) rfl (fun _ _ _ h => h) (by rfl) (fun w hSw => ?_) hHeld ?_
      · (try dsimp only at hSw); go_simp; first | done | omega | (rw [HMIN.out])
      simp only [Act.put, List.setIfInBounds_toArray, List.set_cons_zero, List.set_cons_succ]
      refine take_at (i := 7) 24 (v := .slice none 0 0) rfl (by kernel_rfl) (by kernel_rfl) (by kernel_rfl) rfl (fun _ _ _ h => h) (by rfl) (fun w hSw => ?_) hHeld ?_
      · (try dsimp only at hSw); go_simp
      simp only [Act.put, List.setIfInBounds_toArray, List.set_cons_zero, List.set_cons_succ]
      refine wpAnyH_ready (rs := [1, 2]) (by kernel_rfl) (by simp) ?_
      refine node_f16 18 17 _ rfl (by rfl) rfl rfl rfl ((FW.out u0 HU0.out).mono ?_) ?_
      · rintro e u1 ⟨vf, rfl, hpf, hbf⟩
        have HU1 := hid (below_step HU0.out hbf)
        have HP1 := hid (row_mono hpf HU0.out.size)
        refine ⟨_, rfl, trivial, ?_⟩
        clear hpf hbf
        simp only [Act.put, List.setIfInBounds_toArray, List.set_cons_zero, List.set_cons_succ]
        refine wpAnyH_ready (rs := [2]) (by kernel_rfl) (by simp) ?_
        refine node_none24 19 rfl rfl rfl rfl trivial (fun hHeld => ?_) AllReadyH.nil
        · have HU2 := hid (below_step HU1.out (ba u1 (.cells #[] 3)))
          have GA2 := hid (heap_alloc_new u1 (.cells #[] 3))
          have HP2 := hid (row_below HP1.out (ba u1 (.cells #[] 3)))
          obtain ⟨u2, hu⟩ : ∃ v, v = u1.alloc (.cells #[] 3) := ⟨_, rfl⟩
          obtain ⟨b0, hb0⟩ : ∃ b, b = u1.heap.size := ⟨_, rfl⟩
          have HB0 : Hid (w.heap.size ≤ b0) := by rw [hb0]; exact HU1.out.size
          rw [← hu] at HU2 GA2 HP2 ⊢
          rw [← hb0] at GA2 ⊢
          clear hu hb0
          simp only [Act.put, List.setIfInBounds_toArray, List.set_cons_zero, List.set_cons_succ]
          refine wpAnyH_ready (rs := [8]) (by kernel_rfl) (by simp) ?_
          refine node_app24n 25 w.heap.size 19 24 (.slice (some ⟨b0, 0, none⟩) 0 0) [] (.slice none 0 0) 0 US rfl rfl rfl rfl rfl rfl (RD.out _ HU2.out) (row_of_block (size := 1) GA2.out HB0.out) HU2.out.size ⟨Nat.zero_le _, HK6.out⟩ ?_ AllReadyH.nil
          · intro v8 u3 ho8 hg8
            rw [List.nil_append] at ho8
            have O3 := hid ho8
            have HU3 : Hid (Below w.heap.size w u3) := HU2.out.grown hg8 HU2.out.size (fun q hq => (World.ownsRow.lt (row_of_block (size := 1) GA2.out HB0.out) q hq).1)
            have HP3 := hid (row_other HP2.out hg8 (fun q hq => by simp [Value.ownBlock] at hq; subst hq; exact ⟨_, GA2.out⟩) (by decide))
            refine ⟨trivial, ?_⟩
            clear ho8 hg8
            simp only [Act.put, List.setIfInBounds_toArray, List.set_cons_zero, List.set_cons_succ]
            refine take_at (i := 9) 7 (v := vf) rfl (by kernel_rfl) (by kernel_rfl) (by kernel_rfl) rfl (fun _ _ _ h => h) (by rfl) (fun w hSw => ?_) hHeld ?_
            · (try dsimp only at hSw); go_simp
            simp only [Act.put, List.setIfInBounds_toArray, List.set_cons_zero, List.set_cons_succ]
            refine take_at (i := 10) 8 (v := v8) rfl (by kernel_rfl) (by kernel_rfl) (by kernel_rfl) rfl (fun _ _ _ h => h) (by rfl) (fun w hSw => ?_) hHeld ?_
            · (try dsimp only at hSw); go_simp
            simp only [Act.put, List.setIfInBounds_toArray, List.set_cons_zero, List.set_cons_succ]
            refine wpAnyH_done (by kernel_rfl) ?_ _
            clear hHeld
            go_wp2_with fail
            go_meet
            exact ⟨vf, v8, rfl, rfl, HP3, by rw [← HUS.out]; exact O3, HU3⟩
      refine node_none24 19 rfl rfl rfl rfl trivial (fun hHeld => ?_) AllReadyH.nil
      · have HU1 := hid (below_step HU0.out (ba u0 (.cells #[] 3)))
        have GA1 := hid (heap_alloc_new u0 (.cells #[] 3))
        obtain ⟨u1, hu⟩ : ∃ v, v = u0.alloc (.cells #[] 3) := ⟨_, rfl⟩
        obtain ⟨b0, hb0⟩ : ∃ b, b = u0.heap.size := ⟨_, rfl⟩
        have HB0 : Hid (w.heap.size ≤ b0) := by rw [hb0]; exact HU0.out.size
        rw [← hu] at HU1 GA1 ⊢
        rw [← hb0] at GA1 ⊢
        clear hu hb0
        simp only [Act.put, List.setIfInBounds_toArray, List.set_cons_zero, List.set_cons_succ]
        refine wpAnyH_ready (rs := [1]) (by kernel_rfl) (by simp) ?_
        refine node_f16 18 17 _ rfl (by rfl) rfl rfl rfl ((FW.out u1 HU1.out).mono ?_) AllReadyH.nil
        · rintro e u2 ⟨vf, rfl, hpf, hbf⟩
          have HU2 := hid (below_step HU1.out hbf)
          have HP2 := hid (row_mono hpf HU1.out.size)
          have GA2 := hid ((hbf.block b0 (heap_lt GA1.out)).trans GA1.out)
          refine ⟨_, rfl, trivial, ?_⟩
          clear hpf hbf
          simp only [Act.put, List.setIfInBounds_toArray, List.set_cons_zero, List.set_cons_succ]
          refine wpAnyH_ready (rs := [8]) (by kernel_rfl) (by simp) ?_
          refine node_app24n 25 w.heap.size 19 24 (.slice (some ⟨b0, 0, none⟩) 0 0) [] (.slice none 0 0) 0 US rfl rfl rfl rfl rfl rfl (RD.out _ HU2.out) (row_of_block (size := 1) GA2.out HB0.out) HU2.out.size ⟨Nat.zero_le _, HK6.out⟩ ?_ AllReadyH.nil
          · intro v8 u3 ho8 hg8
            rw [List.nil_append] at ho8
            have O3 := hid ho8
            have HU3 : Hid (Below w.heap.size w u3) := HU2.out.grown hg8 HU2.out.size (fun q hq => (World.ownsRow.lt (row_of_block (size := 1) GA2.out HB0.out) q hq).1)
            have HP3 := hid (row_other HP2.out hg8 (fun q hq => by simp [Value.ownBlock] at hq; subst hq; exact ⟨_, GA2.out⟩) (by decide))
            refine ⟨trivial, ?_⟩
            clear ho8 hg8
            simp only [Act.put, List.setIfInBounds_toArray, List.set_cons_zero, List.set_cons_succ]
            refine take_at (i := 9) 7 (v := vf) rfl (by kernel_rfl) (by kernel_rfl) (by kernel_rfl) rfl (fun _ _ _ h => h) (by rfl) (fun w hSw => ?_) hHeld ?_
            · (try dsimp only at hSw); go_simp
            simp only [Act.put, List.setIfInBounds_toArray, List.set_cons_zero, List.set_cons_succ]
            refine take_at (i := 10) 8 (v := v8) rfl (by kernel_rfl) (by kernel_rfl) (by kernel_rfl) rfl (fun _ _ _ h => h) (by rfl) (fun w hSw => ?_) hHeld ?_
            · (try dsimp only at hSw); go_simp
            simp only [Act.put, List.setIfInBounds_toArray, List.set_cons_zero, List.set_cons_succ]
            refine wpAnyH_done (by kernel_rfl) ?_ _
            clear hHeld
            go_wp2_with fail
            go_meet
            exact ⟨vf, v8, rfl, rfl, HP3, by rw [← HUS.out]; exact O3, HU3⟩
    | some ad =>
      have hmin := HMIN.out
      clear hk hnn
      refine wp_region_held_drew (S := fun _ => True) (by kernel_rfl) trivial (fun hHeld => ?_)
      have HU0 : Hid (Below w.heap.size w w.drew) := (Below.refl _ _).drew
      generalize w.drew = u0 at *
      refine take_at (i := 0) 17 (v := vx) rfl (by kernel_rfl) (by kernel_rfl) (by kernel_rfl) rfl (fun _ _ _ h => h) (by rfl) (fun w hSw => ?_) hHeld ?_
      · (try dsimp only at hSw); go_simp
      simp only [Act.put, List.setIfInBounds_toArray, List.set_cons_zero, List.set_cons_succ]
      refine take_at (i := 3) 20 (v := .slice (some ad) yn yc) rfl (by kernel_rfl) (by kernel_rfl) (by kernel_rfl) rfl (fun _ _ _ h => h) (by rfl) (fun w hSw => ?_) hHeld ?_
      · (try dsimp only at hSw); go_simp
      simp only [Act.put, List.setIfInBounds_toArray, List.set_cons_zero, List.set_cons_succ]
      refine take_at (i := 4) 21 (v := .slice (some ad) yn yc) rfl (by kernel_rfl) (by kernel_rfl) (by kernel_rfl) rfl (fun _ _ _ h => h) (by rfl) (fun w hSw => ?_) hHeld ?_
      · (try dsimp only at hSw); go_simp
      simp only [Act.put, List.setIfInBounds_toArray, List.set_cons_zero, List.set_cons_succ]
      refine take_at (i := 5) 22 (v := .int .i64 yn) rfl (by kernel_rfl) (by kernel_rfl) (by kernel_rfl) rfl (fun _ _ _ h => h) (by rfl) (fun w hSw => ?_) hHeld ?_
      · (try dsimp only at hSw); go_simp
      simp only [Act.put, List.setIfInBounds_toArray, List.set_cons_zero, List.set_cons_succ]
      refine take_at (i := 6) 23 (v := .int .i64 k) rfl (by kernel_rfl) (by kernel_rfl) (by kernel_rfl) rfl (fun _ _ _ h => h) (by rfl) (fun w hSw => ?_) hHeld ?_
      · (try dsimp only at hSw); go_simp; first | done | omega | (rw [HMIN.out])
      simp only [Act.put, List.setIfInBounds_toArray, List.set_cons_zero, List.set_cons_succ]
      refine take_at (i := 7) 24 (v := .slice (some ad) k yc) rfl (by kernel_rfl) (by kernel_rfl) (by kernel_rfl) rfl (fun _ _ _ h => h) (by rfl) (fun w hSw => ?_) hHeld ?_
      · (try dsimp only at hSw); go_simp
      simp only [Act.put, List.setIfInBounds_toArray, List.set_cons_zero, List.set_cons_succ]
      refine wpAnyH_ready (rs := [1, 2]) (by kernel_rfl) (by simp) ?_
      refine node_f16 18 17 _ rfl (by rfl) rfl rfl rfl ((FW.out u0 HU0.out).mono ?_) ?_
      · rintro e u1 ⟨vf, rfl, hpf, hbf⟩
        have HU1 := hid (below_step HU0.out hbf)
        have HP1 := hid (row_mono hpf HU0.out.size)
        refine ⟨_, rfl, trivial, ?_⟩
        clear hpf hbf
        simp only [Act.put, List.setIfInBounds_toArray, List.set_cons_zero, List.set_cons_succ]
        refine wpAnyH_ready (rs := [2]) (by kernel_rfl) (by simp) ?_
        refine node_none24 19 rfl rfl rfl rfl trivial (fun hHeld => ?_) AllReadyH.nil
        · have HU2 := hid (below_step HU1.out (ba u1 (.cells #[] 3)))
          have GA2 := hid (heap_alloc_new u1 (.cells #[] 3))
          have HP2 := hid (row_below HP1.out (ba u1 (.cells #[] 3)))
          obtain ⟨u2, hu⟩ : ∃ v, v = u1.alloc (.cells #[] 3) := ⟨_, rfl⟩
          obtain ⟨b0, hb0⟩ : ∃ b, b = u1.heap.size := ⟨_, rfl⟩
          have HB0 : Hid (w.heap.size ≤ b0) := by rw [hb0]; exact HU1.out.size
          rw [← hu] at HU2 GA2 HP2 ⊢
          rw [← hb0] at GA2 ⊢
          clear hu hb0
          simp only [Act.put, List.setIfInBounds_toArray, List.set_cons_zero, List.set_cons_succ]
          refine wpAnyH_ready (rs := [8]) (by kernel_rfl) (by simp) ?_
          refine node_app24n 25 w.heap.size 19 24 (.slice (some ⟨b0, 0, none⟩) 0 0) [] (.slice (some ad) k yc) k US rfl rfl rfl rfl rfl rfl (RD.out _ HU2.out) (row_of_block (size := 1) GA2.out HB0.out) HU2.out.size ⟨Nat.zero_le _, HK6.out⟩ ?_ AllReadyH.nil
          · intro v8 u3 ho8 hg8
            rw [List.nil_append] at ho8
            have O3 := hid ho8
            have HU3 : Hid (Below w.heap.size w u3) := HU2.out.grown hg8 HU2.out.size (fun q hq => (World.ownsRow.lt (row_of_block (size := 1) GA2.out HB0.out) q hq).1)
            have HP3 := hid (row_other HP2.out hg8 (fun q hq => by simp [Value.ownBlock] at hq; subst hq; exact ⟨_, GA2.out⟩) (by decide))
            refine ⟨trivial, ?_⟩
            clear ho8 hg8
            simp only [Act.put, List.setIfInBounds_toArray, List.set_cons_zero, List.set_cons_succ]
            refine take_at (i := 9) 7 (v := vf) rfl (by kernel_rfl) (by kernel_rfl) (by kernel_rfl) rfl (fun _ _ _ h => h) (by rfl) (fun w hSw => ?_) hHeld ?_
            · (try dsimp only at hSw); go_simp
            simp only [Act.put, List.setIfInBounds_toArray, List.set_cons_zero, List.set_cons_succ]
            refine take_at (i := 10) 8 (v := v8) rfl (by kernel_rfl) (by kernel_rfl) (by kernel_rfl) rfl (fun _ _ _ h => h) (by rfl) (fun w hSw => ?_) hHeld ?_
            · (try dsimp only at hSw); go_simp
            simp only [Act.put, List.setIfInBounds_toArray, List.set_cons_zero, List.set_cons_succ]
            refine wpAnyH_done (by kernel_rfl) ?_ _
            clear hHeld
            go_wp2_with fail
            go_meet
            exact ⟨vf, v8, rfl, rfl, HP3, by rw [← HUS.out]; exact O3, HU3⟩
      refine node_none24 19 rfl rfl rfl rfl trivial (fun hHeld => ?_) AllReadyH.nil
      · have HU1 := hid (below_step HU0.out (ba u0 (.cells #[] 3)))
        have GA1 := hid (heap_alloc_new u0 (.cells #[] 3))
        obtain ⟨u1, hu⟩ : ∃ v, v = u0.alloc (.cells #[] 3) := ⟨_, rfl⟩
        obtain ⟨b0, hb0⟩ : ∃ b, b = u0.heap.size := ⟨_, rfl⟩
        have HB0 : Hid (w.heap.size ≤ b0) := by rw [hb0]; exact HU0.out.size
        rw [← hu] at HU1 GA1 ⊢
        rw [← hb0] at GA1 ⊢
        clear hu hb0
        simp only [Act.put, List.setIfInBounds_toArray, List.set_cons_zero, List.set_cons_succ]
        refine wpAnyH_ready (rs := [1]) (by kernel_rfl) (by simp) ?_
        refine node_f16 18 17 _ rfl (by rfl) rfl rfl rfl ((FW.out u1 HU1.out).mono ?_) AllReadyH.nil
        · rintro e u2 ⟨vf, rfl, hpf, hbf⟩
          have HU2 := hid (below_step HU1.out hbf)
          have HP2 := hid (row_mono hpf HU1.out.size)
          have GA2 := hid ((hbf.block b0 (heap_lt GA1.out)).trans GA1.out)
          refine ⟨_, rfl, trivial, ?_⟩
          clear hpf hbf
          simp only [Act.put, List.setIfInBounds_toArray, List.set_cons_zero, List.set_cons_succ]
          refine wpAnyH_ready (rs := [8]) (by kernel_rfl) (by simp) ?_
          refine node_app24n 25 w.heap.size 19 24 (.slice (some ⟨b0, 0, none⟩) 0 0) [] (.slice (some ad) k yc) k US rfl rfl rfl rfl rfl rfl (RD.out _ HU2.out) (row_of_block (size := 1) GA2.out HB0.out) HU2.out.size ⟨Nat.zero_le _, HK6.out⟩ ?_ AllReadyH.nil
          · intro v8 u3 ho8 hg8
            rw [List.nil_append] at ho8
            have O3 := hid ho8
            have HU3 : Hid (Below w.heap.size w u3) := HU2.out.grown hg8 HU2.out.size (fun q hq => (World.ownsRow.lt (row_of_block (size := 1) GA2.out HB0.out) q hq).1)
            have HP3 := hid (row_other HP2.out hg8 (fun q hq => by simp [Value.ownBlock] at hq; subst hq; exact ⟨_, GA2.out⟩) (by decide))
            refine ⟨trivial, ?_⟩
            clear ho8 hg8
            simp only [Act.put, List.setIfInBounds_toArray, List.set_cons_zero, List.set_cons_succ]
            refine take_at (i := 9) 7 (v := vf) rfl (by kernel_rfl) (by kernel_rfl) (by kernel_rfl) rfl (fun _ _ _ h => h) (by rfl) (fun w hSw => ?_) hHeld ?_
            · (try dsimp only at hSw); go_simp
            simp only [Act.put, List.setIfInBounds_toArray, List.set_cons_zero, List.set_cons_succ]
            refine take_at (i := 10) 8 (v := v8) rfl (by kernel_rfl) (by kernel_rfl) (by kernel_rfl) rfl (fun _ _ _ h => h) (by rfl) (fun w hSw => ?_) hHeld ?_
            · (try dsimp only at hSw); go_simp
            simp only [Act.put, List.setIfInBounds_toArray, List.set_cons_zero, List.set_cons_succ]
            refine wpAnyH_done (by kernel_rfl) ?_ _
            clear hHeld
            go_wp2_with fail
            go_meet
            exact ⟨vf, v8, rfl, rfl, HP3, by rw [← HUS.out]; exact O3, HU3⟩
  case rest =>
    obtain ⟨u7, u8, rfl, rfl, HPP, HYY, HB2⟩ := hcut
    rename World => w2
    obtain ⟨na, nn, nc, rfl⟩ := ownP_sh HPP.out
    obtain ⟨ya, yn2, yc2, rfl⟩ := ownV_sh HYY.out
    have HP2 : Hid (∀ w', Below w2.heap.size w2 w' → IsPr w' (.slice na nn nc) l) := fun w' hb => isPr_below (ownP_isPr HPP.out (by omega)) hb
    have HY2 : Hid (∀ w', Below w2.heap.size w2 w' → IsV w' (.slice ya yn2 yc2) (zs.map zv)) := fun w' hb => isV_below (ownV_isV HYY.out (by rw [List.length_map]; omega)) hb
    clear HPP HYY
    have VA : Hid (∀ w', Below w2.heap.size w2 w' → Calls Try.prog 19 #[.int .i64 n, .slice na nn nc] w' fun e w'' => e = .returned (.bool (validP n l)) ∧ w'' = w') := fun w' hb => valid_any n _ l w' (HP2.out w' hb)
    have A0 : Hid (∀ w', Below w2.heap.size w2 w' → Calls Try.prog 41 #[.int .i64 n, .slice na nn nc, .slice ya yn2 yc2] w' (RetS w' n l zs (.bool false) fun s x w'' => x = .bool ((dsp n.toNat l).adm s))) := fun w' hb => pAdmissible_any n _ _ l zs w' (HP2.out w' hb) (HY2.out w' hb)
    have D0 : Hid (∀ w', Below w2.heap.size w2 w' → Calls Try.prog 42 #[.int .i64 n, .slice na nn nc, .slice ya yn2 yc2] w' (RetS w' n l zs (.slice none 0 0) fun s x w'' => OwnV w'' w'.heap.size 3 x ((elems ((dsp n.toNat l).dfd s)).map iv))) := fun w' hb => pDefends_any n _ _ l zs w' (HP2.out w' hb) (HY2.out w' hb)
    cases hva : validP n l with
    | false =>
      have C1 := hid (rets_bad1 (A0.out w2 (Below.refl _ _)) hva)
      have C2 : Hid (∀ w', Below w2.heap.size w2 w' → Calls Try.prog 42 #[.int .i64 n, .slice na nn nc, .slice ya yn2 yc2] w' fun e w'' => e = .returned (.tuple #[.slice none 0 0, .int .i64 1]) ∧ Below w'.heap.size w' w'') := fun w' hb => rets_bad1 (D0.out w' hb) hva
      rw [hva] at VA
      clear hva HP2 HY2 A0 D0
      go_wp2_with (first
        | (go_at_call 41; refine C1.out.mono ?_; rintro e w3 ⟨rfl, hb3⟩; have HB3 := hid hb3; clear hb3)
        | (go_at_call 42; refine (C2.out _ HB3.out).mono ?_; rintro e w4 ⟨rfl, hb4⟩; have HB4 := hid (below_step HB3.out hb4); clear hb4)
        | (go_at_call 19; refine (VA.out _ HB4.out).mono ?_; rintro e w5 ⟨rfl, rfl⟩)
        | (go_at_call 20; refine (lives_any _).mono ?_; rintro e w7 ⟨rfl, hb7⟩; have HB7 := hid (below_step HB4.out hb7); clear hb7)
        | fail)
      go_ret
      exact ⟨rfl, below_step HB2.out HB7.out⟩
    | true =>
      obtain ⟨hn1, hn12⟩ := valid_n hva
      obtain ⟨m, rfl⟩ : ∃ m : Nat, n = (m : Int) := ⟨n.toNat, by omega⟩
      have hm12 : m ≤ 12 := by omega
      have SE : Hid (∀ w', Below w2.heap.size w2 w' → Calls Try.prog 43 #[.slice ya yn2 yc2, .int .i64 (m : Int)] w' fun e w'' => ((okS (m : Int) zs = true ∧ e = .returned (.tuple #[.int .i64 ((setS zs : Nat) : Int), .bool true])) ∨ (okS (m : Int) zs = false ∧ e = .returned (.tuple #[.int .i64 0, .bool false]))) ∧ Below w'.heap.size w' w'') := fun w' hb => rSet_any _ zs m w' (HY2.out w' hb) hm12
      cases hok : okS (m : Int) zs with
      | false =>
        have C1 := hid (rets_bad2 (A0.out w2 (Below.refl _ _)) hva hok)
        have C2 : Hid (∀ w', Below w2.heap.size w2 w' → Calls Try.prog 42 #[.int .i64 (m : Int), .slice na nn nc, .slice ya yn2 yc2] w' fun e w'' => e = .returned (.tuple #[.slice none 0 0, .int .i64 2]) ∧ Below w'.heap.size w' w'') := fun w' hb => rets_bad2 (D0.out w' hb) hva hok
        have C3 : Hid (∀ w', Below w2.heap.size w2 w' → Calls Try.prog 43 #[.slice ya yn2 yc2, .int .i64 (m : Int)] w' fun e w'' => e = .returned (.tuple #[.int .i64 0, .bool false]) ∧ Below w'.heap.size w' w'') := fun w' hb => (SE.out w' hb).mono fun e w'' h => ⟨set_no hok h.1, h.2⟩
        rw [hva] at VA
        clear hva hok HP2 HY2 A0 D0 SE hn1 hn12
        go_wp2_with (first
          | (go_at_call 41; refine C1.out.mono ?_; rintro e w3 ⟨rfl, hb3⟩; have HB3 := hid hb3; clear hb3)
          | (go_at_call 42; refine (C2.out _ HB3.out).mono ?_; rintro e w4 ⟨rfl, hb4⟩; have HB4 := hid (below_step HB3.out hb4); clear hb4)
          | (go_at_call 19; refine (VA.out _ HB4.out).mono ?_; rintro e w5 ⟨rfl, rfl⟩)
          | (go_at_call 43; refine (C3.out _ HB4.out).mono ?_; rintro e w6 ⟨rfl, hb6⟩; have HB4 := hid (below_step HB4.out hb6); clear hb6)
          | (go_at_call 20; refine (lives_any _).mono ?_; rintro e w7 ⟨rfl, hb7⟩; have HB7 := hid (below_step HB4.out hb7); clear hb7)
          | fail)
        go_ret
        exact ⟨rfl, below_step HB2.out HB7.out⟩
      | true =>
        have hsl : setS zs < 2 ^ m := setS_lt (n := (m : Int)) (by omega) hok
        have C1 : Hid (Calls Try.prog 41 #[.int .i64 (m : Int), .slice na nn nc, .slice ya yn2 yc2] w2 fun e w'' => e = .returned (.tuple #[.bool ((dsp m l).adm (setS zs)), .int .i64 0]) ∧ Below w2.heap.size w2 w'') := (rets_ok (A0.out w2 (Below.refl _ _)) hva hok).mono fun e w'' ⟨x, he, hx, hb⟩ => ⟨by rw [he, hx]; rfl, hb⟩
        have C2 : Hid (∀ w', Below w2.heap.size w2 w' → Calls Try.prog 42 #[.int .i64 (m : Int), .slice na nn nc, .slice ya yn2 yc2] w' fun e w'' => ∃ x, e = .returned (.tuple #[x, .int .i64 0]) ∧ OwnV w'' w'.heap.size 3 x ((elems ((dsp m l).dfd (setS zs))).map iv) ∧ Below w'.heap.size w' w'') := fun w' hb => rets_ok (D0.out w' hb) hva hok
        have C3 : Hid (∀ w', Below w2.heap.size w2 w' → Calls Try.prog 43 #[.slice ya yn2 yc2, .int .i64 (m : Int)] w' fun e w'' => e = .returned (.tuple #[.int .i64 ((setS zs : Nat) : Int), .bool true]) ∧ Below w'.heap.size w' w'') := fun w' hb => (SE.out w' hb).mono fun e w'' h => ⟨set_yes hok h.1, h.2⟩
        have CO : Hid (∀ w', Below w2.heap.size w2 w' → Calls Try.prog 21 #[.int .i64 (m : Int), .slice na nn nc] w' fun e w'' => ∃ b1 b2, e = .returned (Dv b1 b2 (dsp m l)) ∧ RDd w'' b1 b2 (dsp m l) ∧ Below w'.heap.size w' w'') := fun w' hb => rOf_any m _ l w' (HP2.out w' hb) hva
        change setS zs < 2 ^ (dsp m l).n at hsl
        have hd12 : (dsp m l).n ≤ 12 := hm12
        have HDF : Hid ((dsp m l).dfd (setS zs) < 2 ^ 16) := Nat.lt_of_lt_of_le ((dsp m l).dfd_lt _) (pow_small (by omega))
        rw [hva] at VA
        clear hva hok HP2 HY2 A0 D0 SE hn1 hn12 hm12
        generalize dsp m l = d at *
        generalize setS zs = s at *
        go_upto_region 13 with (first
          | (go_at_call 41; refine C1.out.mono ?_; rintro e w3 ⟨rfl, hb3⟩; have HB3 := hid hb3; clear hb3)
          | (go_at_call 42; refine (C2.out _ HB3.out).mono ?_; rintro e w4 ⟨x4, rfl, ho4, hb4⟩; have HX4 := hid (ownV_isV ho4 (by rw [List.length_map]; exact elems_le _)); have HB4 := hid (below_step HB3.out hb4); clear hb4 ho4)
          | (go_at_call 19; refine (VA.out _ HB4.out).mono ?_; rintro e w5 ⟨rfl, rfl⟩)
          | (go_at_call 43; refine (C3.out _ HB4.out).mono ?_; rintro e w6 ⟨rfl, hb6⟩; have HX6 := hid (isV_below HX4.out hb6); have HB6 := hid (below_step HB4.out hb6); clear hb6)
          | fail)
        go_upto_region 14 with (first | (go_at_call 21; refine (CO.out _ HB6.out).mono ?_; rintro e w7 ⟨b1, b2, rfl, hr7, hb7⟩; unfold Dv; have HR7 := hid hr7; have HX7 := hid (isV_below HX6.out hb7); have HB7 := hid (below_step HB6.out hb7); clear hr7 hb7) | fail)
        have HD := hid (heap_alloc_new w7 (.cells #[.int .i64 (d.n : Int), .slice (some ⟨b1, 0, none⟩) d.n d.n, .slice (some ⟨b2, 0, none⟩) d.n d.n] 34))
        have HB8 := hid (ba w7 (.cells #[.int .i64 (d.n : Int), .slice (some ⟨b1, 0, none⟩) d.n d.n, .slice (some ⟨b2, 0, none⟩) d.n d.n] 34))
        obtain ⟨D, hD⟩ : ∃ D, D = w7.heap.size := ⟨_, rfl⟩
        obtain ⟨wd, hwd⟩ : ∃ v, v = w7.alloc (.cells #[.int .i64 (d.n : Int), .slice (some ⟨b1, 0, none⟩) d.n d.n, .slice (some ⟨b2, 0, none⟩) d.n d.n] 34) := ⟨_, rfl⟩
        rw [← hwd] at HD HB8 ⊢
        rw [← hD] at HD ⊢
        have KD : Hid (∀ w', Below wd.heap.size wd w' → w'.cell? ⟨D, 0, none⟩ = some (.int .i64 (d.n : Int)) ∧ w'.cell? ⟨D, 1, none⟩ = some (.slice (some ⟨b1, 0, none⟩) d.n d.n) ∧ w'.cell? ⟨D, 2, none⟩ = some (.slice (some ⟨b2, 0, none⟩) d.n d.n)) := fun w' hb => cells3_of ((hb.block _ (heap_lt HD.out)).trans HD.out)
        have HRd : Hid (∀ w', Below wd.heap.size wd w' → RDd w' b1 b2 d) := fun w' hb => rdd_below HR7.out (below_step HB8.out hb)
        have HXd : Hid (∀ w', Below wd.heap.size wd w' → IsV w' x4 ((elems (d.dfd s)).map iv)) := fun w' hb => isV_below HX7.out (below_step HB8.out hb)
        have HBd := hid (below_step HB7.out HB8.out)
        obtain ⟨xa, xc, rfl⟩ := isV_slice HX7.out
        clear hD hwd HB8 HB7 HR7 HD HX7 HX6 HX4 C1 C2 C3 CO VA
        have E1 : Hid (Calls Try.prog 44 #[.agg #[.int .i64 (d.n : Int), .slice (some ⟨b1, 0, none⟩) d.n d.n, .slice (some ⟨b2, 0, none⟩) d.n d.n], .int .i64 (s : Int)] wd fun e w'' => e = .returned (.bool (d.adm s)) ∧ Below wd.heap.size wd w'') := rAdm_any b1 b2 d s wd (HRd.out wd (Below.refl _ _)) hsl
        have E2 : Hid (∀ w', Below wd.heap.size wd w' → Calls Try.prog 45 #[.agg #[.int .i64 (d.n : Int), .slice (some ⟨b1, 0, none⟩) d.n d.n, .slice (some ⟨b2, 0, none⟩) d.n d.n], .int .i64 (s : Int)] w' fun e w'' => e = .returned (.int .i64 ((d.dfd s : Nat) : Int)) ∧ Below w'.heap.size w' w'') := fun w' hb => rDefends_any b1 b2 d s w' (HRd.out w' hb) hsl
        obtain ⟨x0, x1, x2⟩ := KD.out wd (Below.refl _ _)
        generalize ((elems (d.dfd s)).map iv).length = xm at *
        generalize d.adm s = ab at *
        go_wp2_with (first
          | (go_at_call 44; refine E1.out.mono ?_; rintro e w9 ⟨rfl, hb9⟩; have HE9 := hid hb9; obtain ⟨y0, y1, y2⟩ := KD.out _ hb9; clear hb9)
          | (go_at_call 45; refine (E2.out _ HE9.out).mono ?_; rintro e w10 ⟨rfl, hb10⟩; have HE10 := hid (below_step HE9.out hb10); clear hb10)
          | (go_at_call 24; refine (rList_any (d.dfd s) _ HDF.out).mono ?_; rintro e w11 ⟨v11, rfl, ho11, hb11⟩; have HL11 := hid (ownV_isV ho11 (by rw [List.length_map]; exact elems_le _)); have HE11 := hid (below_step HE10.out hb11); clear ho11 hb11)
          | (go_at_call 23; refine (same01_any _ _ _ _ _ (HXd.out _ HE11.out) HL11.out).mono ?_; rintro e w12 ⟨rfl, hb12⟩; rw [beq_self_eq_true]; have HE12 := hid (below_step HE11.out hb12); clear hb12)
          | (go_at_call 20; refine (lives_any _).mono ?_; rintro e w13 ⟨rfl, hb13⟩; have HE13 := hid (below_step HE12.out hb13); clear hb13)
          | fail)
        go_ret
        exact ⟨rfl, below_step HB2.out (below_step HBd.out HE13.out)⟩
end Go.Proofs.Ytaedbkdimpdngaa
