/-
  Walks over chapter 12: the steps of the granted set; Granted and Steps.
-/
import Derived.Test.YtaedbkdimpdngaaWalkD
namespace Go.Proofs.Ytaedbkdimpdngaa
open Go.RowKit
def lenOf : Value → Nat
  | .slice _ n _ => n
  | _ => 0
theorem ownV_one (w : World) (B : Nat) (e : TypeId) (x : Value) (hB : B ≤ w.heap.size) : OwnV (w.alloc (.cells #[x] e)) B e (.slice (some ⟨w.heap.size, 0, none⟩) 1 1) [x] :=
  ⟨rfl, .inr ⟨w.heap.size, 1, #[x], rfl, hB, heap_alloc_new _ _, Nat.le_refl _, by decide, rfl, rfl⟩⟩
theorem ownV_some {w : World} {B : Nat} {e : TypeId} {v : Value} {xs : List Value} (h : OwnV w B e v xs) (h0 : 0 < xs.length) : ∃ g c, v = .slice (some ⟨g, 0, none⟩) xs.length c ∧ B ≤ g ∧ g < w.heap.size := by
  have hlt := h.lt
  obtain ⟨_, ⟨rfl, h3⟩ | ⟨g, cap, cur, rfl, hB, _⟩⟩ := h
  · omega
  · exact ⟨g, cap, rfl, hB, (hlt g rfl).2⟩
def Dsp.stepsL (d : Dsp) (k : Nat) : List Nat := (List.range (k + 1)).map d.F
theorem stepsL_len (d : Dsp) (k : Nat) : (d.stepsL k).length = k + 1 := by simp [Dsp.stepsL]
theorem stepsL_last (d : Dsp) (k : Nat) : (d.stepsL k).getD k 0 = d.F k := by
  unfold Dsp.stepsL
  rw [List.getD_eq_getElem?_getD, List.getElem?_map, List.getElem?_range (by omega)]; rfl
theorem stepsL_succ (d : Dsp) (k : Nat) : d.stepsL (k + 1) = d.stepsL k ++ [d.F (k + 1)] := by
  unfold Dsp.stepsL
  rw [List.range_succ, List.map_append]; rfl
set_option maxRecDepth 100000 in
theorem granted_any (D : Nat) (d : Dsp) (w : World) (hd : DAt w D d) (hn : d.n ≤ 12) :
    Calls Try.prog 48 #[.pointer (some ⟨D, 0, none⟩)] w fun e w' => ∃ v, e = .returned v ∧ OwnV w' w.heap.size 75 v ((d.stepsL d.last).map sv) ∧ Below w.heap.size w w' := by
  have HF : Hid (∀ w', Below w.heap.size w w' → ∀ k, Calls Try.prog 65 #[.pointer (some ⟨D, 0, none⟩), .int .u16 ((d.F k : Nat) : Int)] w' fun e w'' => e = .returned (.int .u16 ((d.F (k + 1) : Nat) : Int)) ∧ Below w'.heap.size w' w'') := fun w' hb k => defended_any D d (d.F k) w' (dAt_below hd hb) hn (d.F_lt k)
  obtain ⟨hl1, hl2, hl3⟩ := d.last_spec
  have HS1 := hid hl2
  have HS2 := hid hl3
  have hlast : d.last ≤ 12 := by omega
  clear hd hl2 hl3
  go_enter Try.func48, Try.ntmps48
  go_wp2_with fail
  go_loopw [3] (fun ov wr => ∃ k : Nat, k ≤ d.last ∧ lenOf ov = k + 1 ∧ Hid (OwnV wr w.heap.size 75 ov ((d.stepsL k).map sv)) ∧ Hid (Below w.heap.size w wr)) (fun ov _ => d.last + 1 - lenOf ov)
  case atStart => exact ⟨0, Nat.zero_le _, rfl, ownV_one w w.heap.size 75 (.int .u16 0) (Nat.le_refl _), (Below.refl _ _).alloc (Nat.le_refl _) _⟩
  case round =>
    obtain ⟨k, hk, hlen, HT, HBr⟩ := hrel
    obtain ⟨g, c, rfl, hg1, hg2⟩ := ownV_some HT.out (by rw [List.length_map, stepsL_len]; omega)
    have hc := ownV_cell HT.out k (by rw [List.length_map, stepsL_len]; omega)
    rw [getD_map sv _ 0 k (by rw [stepsL_len]; omega), stepsL_last] at hc
    rw [List.length_map, stepsL_len] at HT ⊢
    have hcall := HF.out wr HBr.out k
    have HSU := hid (stepsL_succ d k)
    have hst : d.still k = (d.F (k + 1) == d.F k) := rfl
    have hFl := lt12 hn (d.F_lt (k + 1))
    have HNL : Hid (((d.stepsL k).map sv).length < 1000000) := by show _ < _; rw [List.length_map, stepsL_len]; omega
    unfold sv at hc
    generalize d.F (k + 1) = y at *
    generalize d.F k = x at *
    clear hlen
    have HC := hid hcall
    clear hcall
    by_cases hkl : k < d.last
    · have hne : ¬ y = x := fun h => by have := HS2.out k hkl; rw [hst, h] at this; simp at this
      clear hst
      go_wp2_with (first | (go_at_call 65; refine HC.out.mono ?_; rintro e w6 ⟨rfl, hb6⟩; have HB6 := hid hb6; clear hb6) | (at_builtin; refine wpl_app_set _ _ _ (.slice (some ⟨g, 0, none⟩) (k + 1) c) w.heap.size _ (by rfl) (by rfl) (by rfl) (by rfl) (ownV_below HT.out HB6.out) HNL.out (Nat.le_trans HBr.out.size HB6.out.size) ?_; intro v' w7 ho7 hb7 hg7; obtain ⟨sa, sc, rfl⟩ := ownV_slice ho7; have HO7 := hid ho7; have HB7 := hid hb7; clear ho7 hb7 hg7) | fail)
      go_roundw
      case rel => exact ⟨k + 1, by omega, by simp [lenOf, stepsL_len], by show OwnV _ _ _ _ _; rw [HSU.out, List.map_append]; simpa [stepsL_len, sv] using HO7.out, (HBr.out.trans (HB6.out.mono HBr.out.size)).trans HB7.out⟩
      case measure => simp [lenOf, stepsL_len]; omega
    · obtain rfl : k = d.last := by omega
      have he : y = x := by have := HS1.out; rw [hst] at this; exact beq_iff_eq.1 this
      subst he
      clear hst
      go_wp2_with (first | (go_at_call 65; refine HC.out.mono ?_; rintro e w6 ⟨rfl, hb6⟩; have HB6 := hid hb6; clear hb6) | fail)
      go_ret
      exact ⟨_, rfl, ownV_below HT.out HB6.out, HBr.out.trans (HB6.out.mono HBr.out.size)⟩
theorem read_no {n : Int} {v : Value} {l : List Pr} {w : World} (hv : IsPr w v l) (h : validP n l = false) :
    Calls Try.prog 47 #[.int .i64 n, v] w fun e w' => e = .returned (.tuple #[.pointer none, .bool false]) ∧ Below w.heap.size w w' :=
  (read_any n v l w hv).mono fun e w' ⟨hb, hc⟩ => by
    rcases hc with ⟨_, he⟩ | ⟨h2, _⟩
    · exact ⟨he, hb⟩
    · rw [h] at h2; cases h2
theorem read_ok {n : Int} {v : Value} {l : List Pr} {w : World} (hv : IsPr w v l) (h : validP n l = true) :
    Calls Try.prog 47 #[.int .i64 n, v] w fun e w' => ∃ D, e = .returned (.tuple #[.pointer (some ⟨D, 0, none⟩), .bool true]) ∧ DAt w' D (dsp n.toNat l) ∧ Below w.heap.size w w' :=
  (read_any n v l w hv).mono fun e w' ⟨hb, hc⟩ => by
    rcases hc with ⟨h2, _⟩ | ⟨_, D, he, hd⟩
    · rw [h] at h2; cases h2
    · exact ⟨D, he, hd, hb⟩
theorem valid_n {n : Int} {l : List Pr} (h : validP n l = true) : 1 ≤ n ∧ n ≤ 12 := by
  unfold validP at h
  simp only [Bool.and_eq_true, decide_eq_true_eq] at h
  exact h.1.1
theorem valid_n12 {n : Int} {l : List Pr} (h : validP n l = true) : (dsp n.toNat l).n ≤ 12 := by
  have := valid_n h
  show n.toNat ≤ 12
  omega
/-- what a call hands back at a dispute that is not valid, or at one that is -/
def Ret (w : World) (n : Int) (l : List Pr) (no : Value) (ok : Value → World → Prop) (e : Ending) (w' : World) : Prop :=
  Below w.heap.size w w' ∧ ((validP n l = false ∧ e = .returned no) ∨ (validP n l = true ∧ ∃ u, e = .returned u ∧ ok u w'))
set_option maxRecDepth 100000 in
theorem pGranted_any (n : Int) (v : Value) (l : List Pr) (w : World) (hv : IsPr w v l) :
    Calls Try.prog 17 #[.int .i64 n, v] w (Ret w n l (.tuple #[.slice none 0 0, .int .i64 1]) fun u w' => ∃ x, u = .tuple #[x, .int .i64 0] ∧ OwnV w' w.heap.size 3 x ((elems (dsp n.toNat l).grd).map iv)) := by
  cases hva : validP n l with
  | false =>
    have HR := hid (read_no hv hva)
    have HVA := hid hva
    clear hv hva
    go_enter Try.func17, Try.ntmps17
    go_wp2_with (first | (go_at_call 47; refine (HR.out).mono ?_; rintro e w6 ⟨rfl, hb6⟩; have HB6 := hid hb6; clear hb6) | fail)
    go_ret2
    exact ⟨HB6.out, .inl ⟨HVA.out, rfl⟩⟩
  | true =>
    have HR := hid (read_ok hv hva)
    have hn := valid_n12 hva
    have HVA := hid hva
    clear hv hva
    generalize hd : dsp n.toNat l = d at *
    clear hd
    have HG : Hid (∀ w' D, DAt w' D d → Calls Try.prog 48 #[.pointer (some ⟨D, 0, none⟩)] w' fun e w'' => ∃ v, e = .returned v ∧ OwnV w'' w'.heap.size 75 v ((d.stepsL d.last).map sv) ∧ Below w'.heap.size w' w'') := fun w' D h => granted_any D d w' h hn
    have HL : Hid (∀ w' : World, Calls Try.prog 49 #[.int .u16 ((d.grd : Nat) : Int)] w' fun e w'' => ∃ v, e = .returned v ∧ OwnV w'' w'.heap.size 3 v ((elems d.grd).map iv) ∧ Below w'.heap.size w' w'') := fun w' => list_any d.grd w' (lt12 hn (d.F_lt _))
    have hl12 : d.last ≤ 12 := by have := d.last_spec.1; omega
    have hlast : (d.stepsL d.last).getD d.last 0 = d.grd := stepsL_last d d.last
    generalize d.grd = x at *
    generalize d.last = k at *
    have HLA := hid hlast
    clear hlast
    go_enter Try.func17, Try.ntmps17
    go_upto_region 5 with (first | (go_at_call 47; refine (HR.out).mono ?_; rintro e w6 ⟨D, rfl, hd6, hb6⟩; have HD6 := hid hd6; have HB6 := hid hb6; clear hd6 hb6) | (go_at_call 48; refine (HG.out _ _ HD6.out).mono ?_; rintro e w7 ⟨v7, rfl, ho7, hb7⟩; obtain ⟨g7, c7, rfl, hg7, -⟩ := ownV_some ho7 (by rw [List.length_map, stepsL_len]; omega); have HO7 := hid ho7; have HB7 := hid hb7; clear ho7 hb7) | fail)
    have hc := ownV_cell HO7.out k (by rw [List.length_map, stepsL_len]; omega)
    rw [getD_map sv _ 0 k (by rw [stepsL_len]; omega), HLA.out] at hc
    unfold sv at hc
    simp only [stepsL_len]
    go_wp2_with (first | (go_at_call 49; refine (HL.out _).mono ?_; rintro e w8 ⟨v8, rfl, ho8, hb8⟩; have HO8 := hid ho8; have HB8 := hid hb8; clear ho8 hb8) | fail)
    go_ret2
    exact ⟨(HB6.out.trans (HB7.out.mono HB6.out.size)).trans (HB8.out.mono (Nat.le_trans HB6.out.size HB7.out.size)), .inr ⟨HVA.out, _, rfl, _, rfl, ownV_mono HO8.out (Nat.le_trans HB6.out.size HB7.out.size)⟩⟩
/-- in how many steps a claim is granted, as the program says it -/
def stepsV (d : Dsp) (c : Nat) : Value := match d.stepOf c with
  | some k => .tuple #[.int .i64 (k : Int), .int .i64 0]
  | none => .tuple #[.int .i64 0, .int .i64 5]
theorem steps_at (d : Dsp) (k j : Nat) (h : j < k + 1) : (d.stepsL k).getD j 0 = d.F j := by
  unfold Dsp.stepsL
  rw [List.getD_eq_getElem?_getD, List.getElem?_map, List.getElem?_range h]; rfl
theorem idx_steps (d : Dsp) (c : Nat) : idx (fun s => s.testBit c) (d.stepsL d.last) = match d.stepOf c with | some k => (k : Int) | none => -1 := by
  cases h : d.stepOf c with
  | some k =>
    obtain ⟨h1, h2, h3⟩ := d.stepOf_some h
    refine idx_hit (by rw [stepsL_len]; omega) (by rw [steps_at d _ _ (by omega)]; exact h2) fun j hj => ?_
    rw [steps_at d _ _ (by omega)]; exact h3 j hj
  | none =>
    refine idx_none fun j hj => ?_
    rw [stepsL_len] at hj
    rw [steps_at d _ _ hj]
    exact d.stepOf_none h j
theorem stepsL_lt (d : Dsp) (hn : d.n ≤ 12) (k : Nat) : ∀ s, s ∈ d.stepsL k → s < 4096 := by
  intro s hs
  unfold Dsp.stepsL at hs
  rw [List.mem_map] at hs
  obtain ⟨j, _, rfl⟩ := hs
  exact lt12 hn (d.F_lt j)
theorem eg51 : ∀ args w, (callFunc 51 args).run Try.prog w = .ok (.enter 51 args) w := enters_of Try.func51 (by kernel_rfl) rfl
set_option maxRecDepth 100000 in
theorem pSteps_any (n : Int) (v : Value) (l : List Pr) (c : Int) (w : World) (hv : IsPr w v l) :
    Calls Try.prog 18 #[.int .i64 n, v, .int .i64 c] w fun e w' => Below w.heap.size w w' ∧ (((validP n l = false ∨ c < 0 ∨ n ≤ c) ∧ e = .returned (.tuple #[.int .i64 0, .int .i64 1])) ∨ (validP n l = true ∧ ∃ m : Nat, c = (m : Int) ∧ c < n ∧ e = .returned (stepsV (dsp n.toNat l) m))) := by
  have hb0 : Below w.heap.size w (w.alloc (.cells #[.int .i64 c] 3)) := (Below.refl _ _).alloc (Nat.le_refl _) _
  have HB0 := hid hb0
  have hv0 := isPr_below hv hb0
  have hz := heap_alloc_new w (.cells #[.int .i64 c] 3)
  obtain ⟨w0, hw0⟩ : ∃ w0, w0 = w.alloc (.cells #[.int .i64 c] 3) := ⟨_, rfl⟩
  rw [← hw0] at hv0 hz HB0
  have HZ := hid hz
  have HW0 := hid hw0
  clear hb0 hz
  cases hva : validP n l with
  | false =>
    have HR := hid (read_no hv0 hva)
    have HVA := hid hva
    clear hv hv0 hva hw0
    go_enter Try.func18, Try.ntmps18
    go_upto_region 1 with fail
    rw [← HW0.out]
    go_wp2_with (first | (go_at_call 47; refine (HR.out).mono ?_; rintro e w6 ⟨rfl, hb6⟩; have HB6 := hid hb6; clear hb6) | fail)
    go_ret2
    exact ⟨HB0.out.trans (HB6.out.mono HB0.out.size), .inl ⟨.inl (by first | trivial | exact HVA.out), rfl⟩⟩
  | true =>
    have HR := hid (read_ok hv0 hva)
    have hn := valid_n12 hva
    have hnn := valid_n hva
    have HVA := hid hva
    clear hv hv0 hva hw0
    generalize hd : dsp n.toNat l = d at *
    have hdn : d.n = n.toNat := by rw [← hd]; rfl
    clear hd
    by_cases hc0 : c < 0
    · have e1 : decide (c < 0) = true := decide_eq_true hc0
      go_enter Try.func18, Try.ntmps18
      go_upto_region 1 with fail
      rw [← HW0.out]
      go_wp2_with (first | (go_at_call 47; refine (HR.out).mono ?_; rintro e w6 ⟨D, rfl, hd6, hb6⟩; have HB6 := hid hb6; have x0 := box1 ((hb6.block _ (heap_lt HZ.out)).trans HZ.out); clear hb6 hd6) | fail)
      go_ret2
      exact ⟨HB0.out.trans (HB6.out.mono HB0.out.size), .inl ⟨.inr (.inl hc0), rfl⟩⟩
    · have e1 : decide (c < 0) = false := decide_eq_false hc0
      by_cases hc1 : n ≤ c
      · have e2 : decide (n ≤ c) = true := decide_eq_true hc1
        go_enter Try.func18, Try.ntmps18
        go_upto_region 1 with fail
        rw [← HW0.out]
        go_wp2_with (first | (go_at_call 47; refine (HR.out).mono ?_; rintro e w6 ⟨D, rfl, hd6, hb6⟩; have HB6 := hid hb6; have x0 := box1 ((hb6.block _ (heap_lt HZ.out)).trans HZ.out); clear hb6 hd6) | fail)
        go_ret2
        exact ⟨HB0.out.trans (HB6.out.mono HB0.out.size), .inl ⟨.inr (.inr hc1), rfl⟩⟩
      · have e2 : decide (n ≤ c) = false := decide_eq_false hc1
        obtain ⟨m, rfl⟩ : ∃ m : Nat, c = (m : Int) := ⟨c.toNat, by omega⟩
        have hm : m < 12 := by omega
        have HG : Hid (∀ w' D, DAt w' D d → Calls Try.prog 48 #[.pointer (some ⟨D, 0, none⟩)] w' fun e w'' => ∃ v, e = .returned v ∧ OwnV w'' w'.heap.size 75 v ((d.stepsL d.last).map sv) ∧ Below w'.heap.size w' w'') := fun w' D h => granted_any D d w' h hn
        have hl12 : d.last ≤ 12 := by have := d.last_spec.1; omega
        have HX := hid (idx_steps d m)
        have HSL := hid (stepsL_lt d hn d.last)
        have HF : Hid (∀ w', Below w0.heap.size w0 w' → FnB 51 #[.pointer (some ⟨w.heap.size, 0, none⟩)] 4096 (fun s => .bool (s.testBit m)) w') := fun w' hb W hW s hs => steps1_any s m w.heap.size W hs hm (box1 (((hb.trans (hW.mono hb.size)).block _ (heap_lt HZ.out)).trans HZ.out))
        have HLN : Hid ((d.stepsL d.last).length ≤ 1000000) := by show _ ≤ _; rw [stepsL_len]; omega
        generalize d.stepsL d.last = L at *
        clear hl12
        go_enter Try.func18, Try.ntmps18
        go_upto_region 1 with fail
        rw [← HW0.out]
        go_upto_region 5 with (first | (go_at_call 47; refine (HR.out).mono ?_; rintro e w6 ⟨D, rfl, hd6, hb6⟩; have HB6 := hid hb6; have HD6 := hid hd6; have x0 := box1 ((hb6.block _ (heap_lt HZ.out)).trans HZ.out); clear hb6 hd6) | (go_at_call 48; refine (HG.out _ _ HD6.out).mono ?_; rintro e w7 ⟨v7, rfl, ho7, hb7⟩; have HI7 := hid (ownV_isV ho7 (by rw [List.length_map]; exact HLN.out)); have HB7 := hid (below_step HB6.out hb7); clear hb7 ho7) | (go_at_call 50; refine (index_any 51 _ (fun s => s.testBit m) eg51 _ L _ HI7.out 4096 HSL.out (HF.out _ HB7.out)).mono ?_; rintro e w8 ⟨rfl, hb8⟩; have HB8 := hid (below_step HB7.out hb8); clear hb8) | fail)
        clear x0
        rw [HX.out]
        cases hso : d.stepOf m with
        | some k =>
          go_wp2_with fail
          go_ret2
          exact ⟨HB0.out.trans (HB8.out.mono HB0.out.size), .inr ⟨by first | trivial | exact HVA.out, m, rfl, by omega, by unfold stepsV; rw [hso]; rfl⟩⟩
        | none =>
          go_wp2_with fail
          go_ret2
          exact ⟨HB0.out.trans (HB8.out.mono HB0.out.size), .inr ⟨by first | trivial | exact HVA.out, m, rfl, by omega, by unfold stepsV; rw [hso]; rfl⟩⟩
end Go.Proofs.Ytaedbkdimpdngaa
