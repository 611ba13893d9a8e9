/-
  Repeat (41).
-/
import Derived.Test.YtlhmidecjiihcaaDoorRhyA
import Derived.Test.YtlhmidecjiihcaaDoorShelf
import Derived.Laws.CopyOwn
namespace Go.Proofs.YtlhmidecjiihcaaDoor
open Go.RowKit
section
variable {md : Region.Mode} {ops : Array Oper} {Q : Exit → Act → World → Prop} {S : World → Prop} {fuel : Nat} {listed : Array Bool} {a : Act} {w : World} {i : Nat} {o : Oper} {rs : List Nat}
theorem node_copy (d kd ks : Nat) (dT sT : TypeId) (hi : ops[i]? = some o) (hgd : o.guard = none) (ho : o.op = .call { callee := .builtin .copy, args := #[.tmp kd, .tmp ks], argTypes := #[dT, sT] }) (hd' : o.dst = some d)
    (elem : TypeId) (hu : Tryd.prog.underlying dT = some (.slice elem)) (hsz : (Tryd.prog.info? elem).map (·.size) = some 1)
    (dp sp : Option Addr) (dLen dCap sLen sCap : Nat) (hd : a.tmps[kd]?.getD undef = .slice dp dLen dCap) (hs' : a.tmps[ks]?.getD undef = .slice sp sLen sCap)
    (g off : Nat) (cur : List Value) (t : TypeId) (hg : w.heap[g]? = some (.cells cur.toArray t (0, 0))) (cs : List Value) (hn : cs.length = Nat.min sLen dLen)
    (hpos : 0 < cs.length → dp = some ⟨g, off, none⟩ ∧ ∃ ad, sp = some ad ∧ ∀ j v, cs[j]? = some v → w.cell? (ad.add j) = some v)
    (hfit : off + cs.length ≤ cur.length) (h1 : ∀ v ∈ cs, v.oneCell' = true) (B : Nat) (w0 : World) (hb : Below B w0 w) (hBg : B ≤ g)
    (h : ∀ w', Hid (w'.heap[g]? = some (.cells (splice cur off cs).toArray t (0, 0))) → Below B w0 w' → S w' ∧ wpAnyH Tryd.prog md ops Q S fuel (listed.setIfInBounds i true) (a.put (some d) (goInt cs.length)) w')
    (hs : AllReadyH Tryd.prog md ops Q S fuel listed a w rs) : AllReadyH Tryd.prog md ops Q S fuel listed a w (i :: rs) := by
  refine AllReadyH.cons hi (fun K hK => ?_) hs
  refine step_copy_splice hgd (.tmp kd) (.tmp ks) dT sT ho elem hu hsz dp sp dLen dCap sLen sCap (by simpa [Act.eval] using hd) (by simpa [Act.eval] using hs') g off cur t hg cs hn hpos hfit h1 B w0 hb hBg ?_
  intro w' hg' hb'
  have h5 := h w' hg' hb'
  rw [hd']
  exact hK.out _ _ h5.1 (fun _ => h5.2)
end
theorem size3 : (Tryd.prog.info? 3).map (·.size) = some 1 := by kernel_rfl
theorem make_ints (n : Nat) (hn : n ≤ 100) : ∀ w : World, (Instr.makeSlice 30 (.int .i64 (n : Int)) (.int .i64 (n : Int))).run Tryd.prog w = .ok (.slice (some ⟨w.heap.size, 0, none⟩) n n) (w.alloc (.cells (List.replicate n (Value.int .i64 0)).toArray 3)) := by
  cases hi0 : Tryd.prog.info? 3 with
  | none => have := info3; rw [hi0] at this; cases this
  | some i =>
    have h := info3
    rw [hi0] at h
    simp only [Option.map_some, Option.some.injEq, Prod.mk.injEq] at h
    obtain ⟨h1, h2, h3⟩ := h
    intro w
    have := run_make (P := Tryd.prog) (w := w) 30 3 i (.int .i64 0) Tryd.underlying30 hi0 h1 .i64 .i64 (n : Int) (n : Int) (by omega) (by omega) (by rw [h3]; omega) (by omega)
    rw [this, h2]
    have e : madeCells (Value.int .i64 0).cells (n * 1) = (List.replicate n (Value.int .i64 0)).toArray := by
      rw [Nat.mul_one]
      have := made1 (.int .i64 0) n
      rw [← this]; rfl
    simp only [Int.toNat_natCast]
    rw [e]
set_option maxRecDepth 100000 in
set_option maxHeartbeats 4000000 in
theorem repeat_any (n sb : Nat) (w : World) (hn : 1 ≤ n ∧ n ≤ 50) (hs : w.cell? ⟨sb, 0, none⟩ = some (.int .i64 (-1))) :
    Calls Tryd.prog 41 #[.slice (some ⟨sb, 0, none⟩) 1 1, .int .i64 (n : Int)] w fun e w' => ∃ g, e = .returned (.slice (some ⟨g, 0, none⟩) n n) ∧ Hid (w'.heap[g]? = some (.cells (List.replicate n (Value.int .i64 (-1))).toArray 3)) ∧ Hid (w.heap.size ≤ g) ∧ Below w.heap.size w w' := by
  obtain ⟨hn1, hn50⟩ := hn
  have MC := hid (Tryd.bits_Mul 1 n (by omega) (by omega) w)
  have e1 : 1 * n / 18446744073709551616 = 0 := by omega
  have e2 : 1 * n % 18446744073709551616 = n := by omega
  rw [e1, e2] at MC
  have hmk := make_ints n (by omega) w
  obtain ⟨cz, hcz⟩ : ∃ cs : Array Value, cs = (List.replicate n (Value.int .i64 0)).toArray := ⟨_, rfl⟩
  rw [← hcz] at hmk
  have HCZ := hid hcz
  clear hcz
  have HB1 := hid (ba w (.cells cz 3))
  have HG1 := hid (heap_alloc_new w (.cells cz 3))
  have HS1 := hid hs
  clear hs e1 e2
  go_enter Tryd.func41, Tryd.ntmps41
  go_upto_region 7 with (first | (go_at_call 60; refine MC.out.mono ?_; rintro e w2 ⟨rfl, hw2⟩; rw [hw2]; clear hw2) | fail)
  clear hmk
  obtain ⟨g, hg⟩ : ∃ g, g = w.heap.size := ⟨_, rfl⟩
  have HGB : Hid (w.heap.size ≤ g) := by show _ ≤ _; omega
  rw [← hg] at HG1 ⊢
  have HSB : Hid (sb < w.heap.size) := World.block_lt_of_cell? w _ HS1.out
  have hs1 : (w.alloc (.cells cz 3)).cell? ⟨sb, 0, none⟩ = some (.int .i64 (-1)) := (HB1.out.cell HSB.out).trans HS1.out
  obtain ⟨w1, hw1⟩ : ∃ v, v = w.alloc (.cells cz 3) := ⟨_, rfl⟩
  rw [← hw1] at HB1 HG1 hs1 ⊢
  have HS2 := hid hs1
  rw [HCZ.out] at HG1
  have HSP : Hid (splice (List.replicate n (Value.int .i64 0)) 0 [.int .i64 (-1)] = List.replicate 1 (Value.int .i64 (-1)) ++ List.replicate (n - 1) (Value.int .i64 0)) := by
    show _ = _
    unfold splice
    simp
  clear hg hw1 hs1 HS1
  obtain ⟨w3, hcp, hg3, hb3⟩ : ∃ w3, (Builtin.copy_ #[30, 30] 3 #[.slice (some ⟨g, 0, none⟩) n n, .slice (some ⟨sb, 0, none⟩) 1 1]).run Tryd.prog w1 = .ok (.int .i64 1) w3 ∧ Hid (w3.heap[g]? = some (.cells (List.replicate 1 (Value.int .i64 (-1)) ++ List.replicate (n - 1) (Value.int .i64 0)).toArray 3)) ∧ Hid (Below w.heap.size w w3) := by
    have h := run_copy_row (P := Tryd.prog) w1 30 30 3 3 g 0 n n ⟨sb, 0, none⟩ 1 1 (List.replicate n (Value.int .i64 0)).toArray 3 [.int .i64 (-1)] Tryd.underlying30 size3 HG1.out (by show 1 = min 1 n; omega) (fun j v hv => by
      cases j with
      | zero => (simp at hv; rw [← hv]; exact HS2.out)
      | succ j => simp at hv) (by simp; omega) (fun v hv => by simp at hv; rw [hv]; rfl)
    refine ⟨_, h, ?_, below_setRow HB1.out HGB.out _⟩
    have h2 := setRow_heap w1 g (List.replicate n (Value.int .i64 0)).toArray (splice (List.replicate n (Value.int .i64 0)) 0 [.int .i64 (-1)]).toArray 3 (0, 0) HG1.out
    rw [HSP.out] at h2
    show _ = _
    rw [← HSP.out]
    have e : (List.take 0 (List.replicate n (Value.int .i64 0)).toArray.toList ++ [Value.int .i64 (-1)] ++ List.drop (0 + [Value.int .i64 (-1)].length) (List.replicate n (Value.int .i64 0)).toArray.toList) = splice (List.replicate n (Value.int .i64 0)) 0 [.int .i64 (-1)] := by
      unfold splice
      simp
    rw [e, HSP.out]
    exact h2
  have HG3 := hg3
  have HB3 := hb3
  clear hg3 hb3 HS2 HSP HG1 HB1
  go_wp2_with fail
  clear hcp
  go_loopw [8] (fun cv wr => ∃ c : Nat, cv = .int .i64 c ∧ 1 ≤ c ∧ c ≤ n ∧ Hid (wr.heap[g]? = some (.cells (List.replicate c (Value.int .i64 (-1)) ++ List.replicate (n - c) (Value.int .i64 0)).toArray 3)) ∧ Hid (Below w.heap.size w wr)) (fun cv _ => n - (intOf cv).toNat)
  case atStart => exact ⟨1, rfl, Nat.le_refl _, hn1, HG3, HB3⟩
  case round =>
    obtain ⟨c, rfl, hc1, hcn, HGr, HBr⟩ := hrel
    rename World => wr
    by_cases hlt : c < n
    · go_upto_region 9 with fail
      refine wp_region_held_drew (S := fun w' => True) (by kernel_rfl) trivial (fun hHeld => ?_)
      have HBU := hid (HBr.out.drew)
      have HGU := hid (((Below.refl _ wr).drew.block g (heap_lt HGr.out)).trans HGr.out)
      generalize wr.drew = u0 at *
      obtain ⟨k, hk⟩ : ∃ k, k = min c (n - c) := ⟨_, rfl⟩
      have hkc : k ≤ n - c := by omega
      have hk0 : 0 < k := by omega
      have hkk : k ≤ c := by omega
      have HK := hid hk
      have HKC : Hid (c + k ≤ n) := by show _ ≤ _; omega
      have HGR : Hid (u0.heap[g]? = some (.cells (List.replicate c (Value.int .i64 (-1)) ++ List.replicate (n - c) (Value.int .i64 0)).toArray 3 (0, 0))) := HGU.out
      have HSRC : Hid (∀ (j : Nat) v, (List.replicate k (Value.int .i64 (-1)))[j]? = some v → u0.cell? ((⟨g, 0, none⟩ : Addr).add j) = some v) := fun j v hv => by
        have hj : j < k := by
          have := (List.getElem?_eq_some_iff.1 hv).1
          simpa using this
        have e : (⟨g, 0, none⟩ : Addr).add j = ⟨g, j, none⟩ := by unfold Addr.add; split <;> simp_all
        rw [e]
        have h2 : v = .int .i64 (-1) := by
          have := List.mem_of_getElem? hv
          exact List.eq_of_mem_replicate this
        rw [h2]
        simp [World.cell?, HGU.out, List.getElem?_append, Nat.lt_of_lt_of_le hj hkk]
      have HSPL : Hid (splice (List.replicate c (Value.int .i64 (-1)) ++ List.replicate (n - c) (Value.int .i64 0)) c (List.replicate k (Value.int .i64 (-1))) = List.replicate (c + k) (Value.int .i64 (-1)) ++ List.replicate (n - (c + k)) (Value.int .i64 0)) := by
        show _ = _
        unfold splice
        rw [List.take_append_of_le_length (by simp), List.take_of_length_le (by simp), List.drop_append, List.drop_eq_nil_of_le (by simp), List.nil_append, List.length_replicate, List.length_replicate, List.drop_replicate, ← List.replicate_append_replicate, List.append_assoc]
        congr 3
        omega
      clear hk
      refine take_at (i := 0) 38 (v := .int .i64 (c : Int)) rfl (by kernel_rfl) (by kernel_rfl) (by kernel_rfl) rfl (fun _ _ _ h => h) (by rfl) (fun w hSw => ?_) hHeld ?_
      · (try dsimp only at hSw); go_simp
      simp only [Act.put, List.setIfInBounds_toArray, List.set_cons_zero, List.set_cons_succ]
      refine take_at (i := 1) 39 (v := .slice (some ⟨g, 0, none⟩) n n) rfl (by kernel_rfl) (by kernel_rfl) (by kernel_rfl) rfl (fun _ _ _ h => h) (by rfl) (fun w hSw => ?_) hHeld ?_
      · (try dsimp only at hSw); go_simp
      simp only [Act.put, List.setIfInBounds_toArray, List.set_cons_zero, List.set_cons_succ]
      refine take_at (i := 2) 40 (v := .int .i64 (c : Int)) rfl (by kernel_rfl) (by kernel_rfl) (by kernel_rfl) rfl (fun _ _ _ h => h) (by rfl) (fun w hSw => ?_) hHeld ?_
      · (try dsimp only at hSw); go_simp
      simp only [Act.put, List.setIfInBounds_toArray, List.set_cons_zero, List.set_cons_succ]
      refine take_at (i := 3) 41 (v := .slice (some ⟨g, c, none⟩) (n - c) (n - c)) rfl (by kernel_rfl) (by kernel_rfl) (by kernel_rfl) rfl (fun _ _ _ h => h) (by rfl) (fun w hSw => ?_) hHeld ?_
      · (try dsimp only at hSw); go_simp; first | done | omega
      simp only [Act.put, List.setIfInBounds_toArray, List.set_cons_zero, List.set_cons_succ]
      refine take_at (i := 4) 42 (v := .slice (some ⟨g, 0, none⟩) n n) rfl (by kernel_rfl) (by kernel_rfl) (by kernel_rfl) rfl (fun _ _ _ h => h) (by rfl) (fun w hSw => ?_) hHeld ?_
      · (try dsimp only at hSw); go_simp
      simp only [Act.put, List.setIfInBounds_toArray, List.set_cons_zero, List.set_cons_succ]
      refine take_at (i := 5) 43 (v := .int .i64 (c : Int)) rfl (by kernel_rfl) (by kernel_rfl) (by kernel_rfl) rfl (fun _ _ _ h => h) (by rfl) (fun w hSw => ?_) hHeld ?_
      · (try dsimp only at hSw); go_simp
      simp only [Act.put, List.setIfInBounds_toArray, List.set_cons_zero, List.set_cons_succ]
      refine take_at (i := 6) 44 (v := .slice (some ⟨g, 0, none⟩) c n) rfl (by kernel_rfl) (by kernel_rfl) (by kernel_rfl) rfl (fun _ _ _ h => h) (by rfl) (fun w hSw => ?_) hHeld ?_
      · (try dsimp only at hSw); go_simp; first | done | (simp; omega)
      simp only [Act.put, List.setIfInBounds_toArray, List.set_cons_zero, List.set_cons_succ]
      refine wpAnyH_ready (rs := [7]) (by kernel_rfl) (by simp) ?_
      refine node_copy 45 41 44 30 30 rfl rfl rfl rfl 3 Tryd.underlying30 size3 _ _ (n - c) (n - c) c n rfl rfl g c _ 3 HGR.out (List.replicate k (Value.int .i64 (-1))) (by rw [List.length_replicate, HK.out]) (fun _ => ⟨rfl, ⟨g, 0, none⟩, rfl, fun j v hv => HSRC.out j v hv⟩) (by rw [List.length_replicate, List.length_append, List.length_replicate, List.length_replicate]; have := HKC.out; omega) (fun v hv => by rw [List.eq_of_mem_replicate hv]; rfl) w.heap.size w HBU.out HGB.out ?_ AllReadyH.nil
      · intro w2 hg2 hb2
        have HG2 := hid hg2
        have HB2 := hid hb2
        rw [HSPL.out] at HG2
        rw [show (goInt (List.replicate k (Value.int .i64 (-1))).length) = .int .i64 (k : Int) by simp [goInt]]
        clear hg2 hb2
        refine ⟨trivial, ?_⟩
        simp only [Act.put, List.setIfInBounds_toArray, List.set_cons_zero, List.set_cons_succ]
        refine take_at (i := 8) 46 (v := .int .i64 ((c + k : Nat) : Int)) rfl (by kernel_rfl) (by kernel_rfl) (by kernel_rfl) rfl (fun _ _ _ h => h) (by rfl) (fun w hSw => ?_) hHeld ?_
        · (try dsimp only at hSw); go_simp; first | done | (rw [IntKind.wrap_i64]; omega) | (simp)
        simp only [Act.put, List.setIfInBounds_toArray, List.set_cons_zero, List.set_cons_succ]
        refine take_at (i := 9) 8 (v := .int .i64 ((c + k : Nat) : Int)) rfl (by kernel_rfl) (by kernel_rfl) (by kernel_rfl) rfl (fun _ _ _ h => h) (by rfl) (fun w hSw => ?_) hHeld ?_
        · (try dsimp only at hSw); go_simp
        simp only [Act.put, List.setIfInBounds_toArray, List.set_cons_zero, List.set_cons_succ]
        refine wpAnyH_done (by kernel_rfl) ?_ _
        clear hHeld
        go_wp2_with fail
        go_roundw
        case rel => exact ⟨c + k, by go_num, by omega, by omega, HG2, HB2⟩
        case measure => simp [intOf]; omega
    · obtain rfl : c = n := by omega
      go_wp2_with fail
      go_ret
      exact ⟨g, rfl, by have h := HGr.out; simp at h; exact h, HGB, HBr.out⟩
end Go.Proofs.YtlhmidecjiihcaaDoor
