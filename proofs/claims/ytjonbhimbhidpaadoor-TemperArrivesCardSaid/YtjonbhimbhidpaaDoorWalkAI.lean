/-
  Walks over chapter 6: Reach.
-/
import Derived.Test.YtjonbhimbhidpaaDoorWalkAH
import Derived.Laws.EntriesVeiled
namespace Go.Proofs.YtjonbhimbhidpaaDoor
open Go.RowKit
section
variable {md : Region.Mode} {ops : Array Oper} {Q : Exit → Act → World → Prop} {S : World → Prop} {fuel : Nat} {listed : Array Bool} {a : Act} {w : World} {i : Nat} {o : Oper} {rs : List Nat}
theorem node_f55 (d : Nat) (k1 k2 k3 k4 : Nat) (v1 v2 v3 v4 : Value) (hi : ops[i]? = some o) (hgd : Region.wanted o (yielded ops a.tmps) = true) (ho : o.op = .call { callee := .value (.func 55), args := #[.tmp k1, .tmp k2, .tmp k3, .tmp k4], argTypes := #[22, 3, 3, 3] }) (hd : o.dst = some d)
    (hp1 : a.tmps[k1]?.getD undef = v1)    (hp2 : a.tmps[k2]?.getD undef = v2)    (hp3 : a.tmps[k3]?.getD undef = v3)    (hp4 : a.tmps[k4]?.getD undef = v4)
    (h : Calls Tryd.prog 55 #[v1, v2, v3, v4] w fun e w' => ∃ u, e = .returned u ∧ S w' ∧ wpAnyH Tryd.prog md ops Q S fuel (listed.setIfInBounds i true) (a.put (some d) u) w')
    (hs : AllReadyH Tryd.prog md ops Q S fuel listed a w rs) : AllReadyH Tryd.prog md ops Q S fuel listed a w (i :: rs) := by
  refine AllReadyH.cons hi (fun K hK => ?_) hs
  rw [if_pos hgd]
  unfold Oper.wp execOp
  simp [ho, go_sem, hp1, hp2, hp3, hp4]
  refine h.mono ?_
  rintro e w' ⟨u, rfl, h1, h2⟩
  have hk := hK.out _ _ h1 (fun _ => h2)
  rw [hd]
  exact hk
end
section
variable {md : Region.Mode} {ops : Array Oper} {Q : Exit → Act → World → Prop} {S : World → Prop} {fuel : Nat} {listed : Array Bool} {a : Act} {w : World} {i : Nat} {o : Oper} {rs : List Nat}
theorem node_f54 (d : Nat) (k1 k2 : Nat) (v1 v2 : Value) (hi : ops[i]? = some o) (hgd : Region.wanted o (yielded ops a.tmps) = true) (ho : o.op = .call { callee := .value (.func 54), args := #[.tmp k1, .tmp k2], argTypes := #[85, 22] }) (hd : o.dst = some d)
    (hp1 : a.tmps[k1]?.getD undef = v1)    (hp2 : a.tmps[k2]?.getD undef = v2)
    (h : Calls Tryd.prog 54 #[v1, v2] w fun e w' => ∃ u, e = .returned u ∧ S w' ∧ wpAnyH Tryd.prog md ops Q S fuel (listed.setIfInBounds i true) (a.put (some d) u) w')
    (hs : AllReadyH Tryd.prog md ops Q S fuel listed a w rs) : AllReadyH Tryd.prog md ops Q S fuel listed a w (i :: rs) := by
  refine AllReadyH.cons hi (fun K hK => ?_) hs
  rw [if_pos hgd]
  unfold Oper.wp execOp
  simp [ho, go_sem, hp1, hp2]
  refine h.mono ?_
  rintro e w' ⟨u, rfl, h1, h2⟩
  have hk := hK.out _ _ h1 (fun _ => h2)
  rw [hd]
  exact hk
end
/-- what Reach returns -/
def reachV (o : Ov) (g : Grid) (c : Sp) : Value :=
  if (o.valid && o.ex c) = true then
    if formB o.P o.R o.C g = true then
      match o.NN g c with
      | some 0 => .tuple #[.int .i64 0, .int .i64 (-1), .int .i64 0]
      | some (k + 1) => .tuple #[.int .i64 ((k : Int) + 1), .int .i64 (o.move (o.G g k) c), .int .i64 0]
      | none => .tuple #[.int .i64 0, .int .i64 0, .int .i64 5]
    else .tuple #[.int .i64 0, .int .i64 0, .int .i64 2]
  else .tuple #[.int .i64 0, .int .i64 0, .int .i64 1]
/-- what stands while Reach goes on: two boxes, the safe cells, the cells that are near -/
structure RSt (w5 : World) (bi m1 bn mn : Nat) (LA LN : List Sp) (w : World) : Prop where
  below : Below w5.heap.size w5 w
  bi : w.heap[bi]? = some (.cells #[.map (some m1)] 90)
  bn : w.heap[bn]? = some (.cells #[.map (some mn)] 90)
  all : SetW w m1 LA
  near : SetW w mn LN
  q : w5.heap.size ≤ mn
  ne : m1 ≠ mn
section
variable {w5 : World} {bi m1 bn mn : Nat} {LA LN LN' : List Sp} {w w' : World}
theorem RSt.more (h : RSt w5 bi m1 bn mn LA LN w) (hb : Below w.heap.size w w') : RSt w5 bi m1 bn mn LA LN w' :=
  ⟨h.below.trans (hb.mono h.below.size), (hb.block _ (heap_lt h.bi)).trans h.bi, (hb.block _ (heap_lt h.bn)).trans h.bn, setW_below h.all hb (setW_lt h.all), setW_below h.near hb (setW_lt h.near), h.q, h.ne⟩
theorem RSt.put (h : RSt w5 bi m1 bn mn LA LN w) (hg : w.grownBy w' (some mn)) (hN : SetW w' mn LN') : RSt w5 bi m1 bn mn LA LN' w' := by
  have e : ∀ {g : Nat} {cs : Array Value} {t : TypeId}, w.heap[g]? = some (.cells cs t) → w'.heap[g]? = some (.cells cs t) := fun hh => (hg.block _ (heap_lt hh) (fun e => ne_set h.near hh (Option.some.inj e))).trans hh
  exact ⟨h.below.grown hg h.below.size (fun k hk => Option.some.inj hk ▸ h.q), e h.bi, e h.bn, setW_kept h.all hg (fun e => h.ne (Option.some.inj e)), hN, h.q, h.ne⟩
theorem RSt.next {r : Nat} (h : RSt w5 bi m1 bn mn LA LN w) (hg : w.grownBy w' (some r)) (hr : w5.heap.size ≤ r) (h1 : r ≠ bi) (h2 : r ≠ bn) (h3 : r ≠ m1) (h4 : r ≠ mn) : RSt w5 bi m1 bn mn LA LN w' :=
  ⟨h.below.grown hg h.below.size (fun k hk => by cases hk; exact hr), (hg.block _ (heap_lt h.bi) (fun e => h1 (Option.some.inj e).symm)).trans h.bi, (hg.block _ (heap_lt h.bn) (fun e => h2 (Option.some.inj e).symm)).trans h.bn, setW_kept h.all hg (fun e => h3 (Option.some.inj e).symm), setW_kept h.near hg (fun e => h4 (Option.some.inj e).symm), h.q, h.ne⟩
end
theorem mem_skip {Lg T LN : List Sp} {S : Sp → Bool} {c : Sp} (hn : T.Nodup) (h : ∀ d, d ∈ LN ↔ d ∈ Lg ∧ d ∉ T ∧ S d = true) (hc : S c = false) : ∀ d, d ∈ LN ↔ d ∈ Lg ∧ d ∉ T.erase c ∧ S d = true := by
  intro d
  rw [h d, hn.mem_erase_iff]
  constructor
  · rintro ⟨h1, h2, h3⟩
    exact ⟨h1, fun h4 => h2 h4.2, h3⟩
  · rintro ⟨h1, h2, h3⟩
    refine ⟨h1, fun h4 => h2 ⟨?_, h4⟩, h3⟩
    rintro rfl
    rw [hc] at h3; cases h3
theorem mem_took {Lg T LN : List Sp} {S : Sp → Bool} {c : Sp} (hn : T.Nodup) (h : ∀ d, d ∈ LN ↔ d ∈ Lg ∧ d ∉ T ∧ S d = true) (hcL : c ∈ Lg) (hcT : c ∈ T) (hc : S c = true) : c ∉ LN ∧ ∀ d, d ∈ LN ++ [c] ↔ d ∈ Lg ∧ d ∉ T.erase c ∧ S d = true := by
  refine ⟨fun h1 => ((h c).1 h1).2.1 hcT, fun d => ?_⟩
  rw [List.mem_append, List.mem_singleton, h d, hn.mem_erase_iff]
  constructor
  · rintro (⟨h1, h2, h3⟩ | rfl)
    · exact ⟨h1, fun h4 => h2 h4.2, h3⟩
    · exact ⟨hcL, fun h4 => h4.1 rfl, hc⟩
  · rintro ⟨h1, h2, h3⟩
    by_cases e : d = c
    · exact .inr e
    · exact .inl ⟨h1, fun h4 => h2 ⟨e, h4⟩, h3⟩
theorem mem_done {o : Ov} {g : Grid} {LN : List Sp} (h : ∀ d, d ∈ LN ↔ d ∈ o.cells.filter (inG g) ∧ d ∉ ([] : List Sp) ∧ inG o.safe d = true) : ∀ d, d ∈ LN ↔ o.G g 0 d = true := by
  intro d
  rw [h d, List.mem_filter, mem_cells]
  simp only [Ov.G, Bool.and_eq_true]
  constructor
  · rintro ⟨⟨h1, h2⟩, _, h3⟩; exact ⟨⟨h1, h3⟩, h2⟩
  · rintro ⟨⟨h1, h3⟩, h2⟩; exact ⟨⟨h1, h2⟩, by simp, h3⟩
theorem dec_G {o : Ov} {g : Grid} {k : Nat} {LN : List Sp} (h : ∀ d, d ∈ LN ↔ o.G g k d = true) : (fun d => decide (d ∈ LN)) = o.G g k := by
  funext d
  rw [Bool.eq_iff_iff, decide_eq_true_eq, h d]
def Ov.newL (o : Ov) (g : Grid) (k : Nat) : List Sp := o.cells.filter (o.newF g k)
theorem newL_le (o : Ov) (g : Grid) (k : Nat) : (o.newL g k).length ≤ o.N := by
  unfold Ov.newL
  have := List.length_filter_le (o.newF g k) o.cells
  rw [cells_len] at this
  exact this
theorem new_take (o : Ov) (g : Grid) (k i : Nat) : ((o.cells.take i).filter (o.newF g k)).length ≤ o.N := by
  refine Nat.le_trans (List.length_filter_le _ _) ?_
  rw [List.length_take, cells_len]
  omega
theorem newL_notin {o : Ov} {g : Grid} {k : Nat} {LN : List Sp} (h : ∀ d, d ∈ LN ↔ o.G g k d = true) (i : Nat) (hi : i < (o.newL g k).length) : (o.newL g k)[i] ∉ LN ++ (o.newL g k).take i := by
  rw [List.mem_append]
  rintro (h1 | h1)
  · have h2 := List.mem_filter.1 (List.getElem_mem hi)
    have h3 := (h _).1 h1
    have h4 := h2.2
    unfold Ov.newF at h4
    simp only [Bool.and_eq_true, Bool.not_eq_true'] at h4
    rw [h4.1] at h3; cases h3
  · have hnd : (o.newL g k).Nodup := (nodup_cells o).sublist List.filter_sublist
    obtain ⟨j, hj, e⟩ := List.mem_take_iff_getElem.1 h1
    exact List.pairwise_iff_getElem.1 hnd j i (by omega) hi (by omega) e
theorem newL_end {o : Ov} {g : Grid} {k : Nat} {LN : List Sp} (h : ∀ d, d ∈ LN ↔ o.G g k d = true) : ∀ d, d ∈ LN ++ o.newL g k ↔ o.G g (k + 1) d = true := by
  intro d
  rw [List.mem_append, h d]
  unfold Ov.newL
  rw [List.mem_filter, mem_cells]
  cases hx : o.ex d
  · rw [G_no o g _ d hx, G_no o g _ d hx]; simp
  · rw [G_new o g k d hx, Bool.or_eq_true]; simp
theorem reachV_val {o : Ov} {g : Grid} {c : Sp} (h1 : (o.valid && o.ex c) = true) (h2 : formB o.P o.R o.C g = true) : reachV o g c = (match o.NN g c with
      | some 0 => .tuple #[.int .i64 0, .int .i64 (-1), .int .i64 0]
      | some (k + 1) => .tuple #[.int .i64 ((k : Int) + 1), .int .i64 (o.move (o.G g k) c), .int .i64 0]
      | none => .tuple #[.int .i64 0, .int .i64 0, .int .i64 5]) := by
  unfold reachV
  rw [if_pos h1, if_pos h2]
theorem reachV_0 {o : Ov} {g : Grid} {c : Sp} (h1 : (o.valid && o.ex c) = true) (h2 : formB o.P o.R o.C g = true) (h : o.G g 0 c = true) : reachV o g c = .tuple #[.int .i64 0, .int .i64 (-1), .int .i64 0] := by
  rw [reachV_val h1 h2, (NN_some o g c 0).2 ⟨h, fun i hi => by omega⟩]
theorem reachV_s {o : Ov} {g : Grid} {c : Sp} {k : Nat} (h1 : (o.valid && o.ex c) = true) (h2 : formB o.P o.R o.C g = true) (h : o.G g k c = false) (h3 : o.newF g k c = true) : reachV o g c = .tuple #[.int .i64 ((k : Int) + 1), .int .i64 (o.move (o.G g k) c), .int .i64 0] := by
  have hx : o.ex c = true := by rw [Bool.and_eq_true] at h1; exact h1.2
  rw [reachV_val h1 h2, (NN_some o g c (k + 1)).2 ⟨by rw [G_new o g k c hx, h3, Bool.or_true], fun i hi => ?_⟩]
  cases e : o.G g i c
  · rfl
  · rw [G_le o g (by omega : i ≤ k) c e] at h; cases h
theorem reachV_n {o : Ov} {g : Grid} {c : Sp} {k : Nat} (h1 : (o.valid && o.ex c) = true) (h2 : formB o.P o.R o.C g = true) (h : o.G g k c = false) (h3 : o.stillG g k) : reachV o g c = .tuple #[.int .i64 0, .int .i64 0, .int .i64 5] := by
  rw [reachV_val h1 h2, (NN_none o g c).2 fun j => ?_]
  by_cases hj : j ≤ k
  · cases e : o.G g j c
    · rfl
    · rw [G_le o g hj c e] at h; cases h
  · rw [congrFun (stillG_up o g h3 j (by omega)) c]; exact h
set_option maxHeartbeats 16000000 in
set_option maxRecDepth 100000 in
theorem reachP_any (vs vm vj u : Value) (o : Ov) (gg : Grid) (c : Sp) (w : World) (ho : IsOv w vs vm vj o) (hn : o.Num) (hg : IsGrid w u gg) (hs : ShortG gg) :
    Calls Tryd.prog 40 #[.agg #[vs, vm, vj], u, spv c] w fun e w' => e = .returned (reachV o gg c) ∧ Below w.heap.size w w' := by
  have hmf : ∀ (fn : Fn) (first cap : Array Value) (w : World), (Instr.makeFunc fn first cap).run Tryd.prog w = .ok (.func fn first cap) w := fun _ _ _ _ => rfl
  have hmm := @run_makeMap Tryd.prog
  obtain ⟨p, x, y⟩ := c
  obtain ⟨hb2, hz2, k0, k1⟩ := alloc2 w (.cells #[vs, vm, vj] 26) (.cells #[.int .i64 p, .int .i64 x, .int .i64 y] 28)
  obtain ⟨W, hW⟩ : ∃ W, W = ((w.alloc (.cells #[vs, vm, vj] 26)).alloc (.cells #[.int .i64 p, .int .i64 x, .int .i64 y] 28)) := ⟨_, rfl⟩
  rw [← hW] at hb2 hz2 k0 k1
  have cr := hid (at_any _ _ _ o (p, x, y) W (isOv_below ho hb2) hn)
  have HGW := hid (isGrid_below hg hb2)
  have HSG := hid hs
  obtain ⟨ug, uc, rfl, _, _⟩ := hg
  obtain ⟨⟨av, cv, rfl, _, _⟩, _, _⟩ := ho
  have HB := hid hb2
  obtain ⟨P, hP⟩ : ∃ P, P = o.P := ⟨_, rfl⟩
  rw [show o.safe.length = P from hP.symm] at cr hW ⊢
  obtain ⟨un, hun⟩ : ∃ un, un = gg.length := ⟨_, rfl⟩
  rw [← hun] at HGW ⊢
  have HW := hid hW
  have HP := hid hP
  unfold spv at cr ⊢
  simp only
  clear hn hs hb2 hz2 k0 k1 hW hun
  cases hv : (o.valid && o.ex (p, x, y))
  · have HR : Hid (reachV o gg (p, x, y) = .tuple #[.int .i64 0, .int .i64 0, .int .i64 1]) := by unfold reachV; rw [if_neg (by rw [hv]; decide)]; exact rfl
    have cr2 : Hid (Calls Tryd.prog 44 #[.agg #[.slice av P cv, vm, vj], .agg #[.int .i64 p, .int .i64 x, .int .i64 y]] W (fun e w' => e = .returned (.tuple #[.pointer none, .agg #[.int .i64 0, .int .i64 0, .int .i64 0], .int .i64 1]) ∧ Below W.heap.size W w')) := (cr.out).mono (by
      rintro e w4 ⟨hb4, h4⟩
      rw [hv, if_neg (by decide)] at h4
      exact ⟨h4, hb4⟩)
    clear hv cr hP
    go_enter Tryd.func40, Tryd.ntmps40
    go_wp2_with (first | (go_at_call 44; rw [← HW.out]; refine (cr2.out).mono ?_; rintro e w4 ⟨rfl, hb4⟩; have HB4 := hid (below_step HB.out hb4); clear hb4) | fail)
    (try simp only [Exit.inBlock, Exit.then])
    refine bodyPost_ret (results_tmp3 rfl _ _ _) rfl ?_
    exact ⟨ret_eq HR.out.symm, (HB4.out.alloc HB4.out.size _).alloc (Nat.le_trans HB4.out.size (by simp)) _⟩
  · have HOK : Hid o.Ok := by rw [Bool.and_eq_true] at hv; exact ok_of_valid hv.1
    have HEX : Hid (o.ex (p, x, y) = true) := by rw [Bool.and_eq_true] at hv; exact hv.2
    have cr2 : Hid (Calls Tryd.prog 44 #[.agg #[.slice av P cv, vm, vj], .agg #[.int .i64 p, .int .i64 x, .int .i64 y]] W (fun e w' => ∃ xb, e = .returned (.tuple #[.pointer (some ⟨xb, 0, none⟩), .agg #[.int .i64 p, .int .i64 x, .int .i64 y], .int .i64 0]) ∧ OvAt w' xb (.slice av P cv) vm vj o ∧ Below W.heap.size W w')) := (cr.out).mono (by
      rintro e w4 ⟨hb4, h4⟩
      rw [hv, if_pos rfl] at h4
      obtain ⟨xb, h5, h6⟩ := h4
      exact ⟨xb, h5, h6, hb4⟩)
    have HV := hid hv
    obtain ⟨R, hR⟩ : ∃ R, R = o.R := ⟨_, rfl⟩
    obtain ⟨C, hC⟩ : ∃ C, C = o.C := ⟨_, rfl⟩
    have HRR := hid hR
    have HCC := hid hC
    have b1 := HOK.out.p
    have b2 := HOK.out.r
    have b3 := HOK.out.c
    rw [← hP] at b1
    rw [← hR] at b2
    rw [← hC] at b3
    clear hv cr hP hR hC
    go_enter Tryd.func40, Tryd.ntmps40
    go_upto_region 4 with (first | (go_at_call 44; rw [← HW.out]; refine (cr2.out).mono ?_; rintro e w4 ⟨xb, rfl, hov, hb4⟩; have HOV := hid hov; have HB4 := hid hb4; clear hb4 hov) | fail)
    obtain ⟨hb5, hz5, k9, k10⟩ := alloc2 w4 (.cells #[.pointer (some ⟨xb, 0, none⟩)] 85) (.cells #[.int .i64 p, .int .i64 x, .int .i64 y] 87)
    obtain ⟨w5, hw5⟩ : ∃ w5, w5 = ((w4.alloc (.cells #[.pointer (some ⟨xb, 0, none⟩)] 85)).alloc (.cells #[.int .i64 p, .int .i64 x, .int .i64 y] 87)) := ⟨_, rfl⟩
    obtain ⟨b9, hb9⟩ : ∃ b9, b9 = w4.heap.size := ⟨_, rfl⟩
    obtain ⟨b10, hb10⟩ : ∃ b10, b10 = w4.heap.size + 1 := ⟨_, rfl⟩
    rw [← hw5] at hb5 hz5 k9 k10
    rw [← hb9] at k9
    rw [← hb10] at k10
    rw [← hw5, ← hb10, ← hb9]
    have HOV5 := hid (ovAt_below HOV.out hb5)
    have HG5 := hid (isGrid_below HGW.out (HB4.out.trans (hb5.mono HB4.out.size)))
    have HBW : Hid (Below w.heap.size w w5) := below_step (below_step HB.out HB4.out) hb5
    have HK9 := hid k9
    have HK10 := hid k10
    have KEEP : Hid (∀ w', Below w5.heap.size w5 w' → w'.cell? ⟨b9, 0, none⟩ = some (.pointer (some ⟨xb, 0, none⟩)) ∧ w'.cell? ⟨xb, 0, none⟩ = some (.slice av P cv) ∧ w'.cell? ⟨xb, 3, none⟩ = some (.int .i64 R) ∧ w'.cell? ⟨xb, 4, none⟩ = some (.int .i64 C) ∧ Hid (Below w5.heap.size w5 w')) := by
      intro w' hb
      have h := ovAt_below HOV5.out hb
      exact ⟨box1 ((hb.block b9 (heap_lt HK9.out)).trans HK9.out), h.c0, by rw [HRR.out]; exact h.c3, by rw [HCC.out]; exact h.c4, hb⟩
    clear hw5 hb9 hb10 hb5 hz5 k9 k10 HOV HB4
    cases hf : formB P R C gg
    · have HR : Hid (reachV o gg (p, x, y) = .tuple #[.int .i64 0, .int .i64 0, .int .i64 2]) := by
        rw [HP.out, HRR.out, HCC.out] at hf
        unfold reachV; rw [if_pos HV.out, if_neg (by rw [hf]; decide)]; exact rfl
      have CF : Hid (∀ w', Below w5.heap.size w5 w' → Calls Tryd.prog 55 #[.slice ug un uc, .int .i64 P, .int .i64 R, .int .i64 C] w' fun e w'' => e = .returned (.bool false) ∧ Below w'.heap.size w' w'') := fun w' hb => by
        have h := rowed_any (.slice ug un uc) gg P R C w' (isGrid_below HG5.out hb) HSG.out (by omega) (by omega) (by omega)
        rw [hf] at h
        exact h
      clear hf
      refine wp_region_held_drew (S := fun w' => w'.cell? ⟨b9, 0, none⟩ = some (.pointer (some ⟨xb, 0, none⟩)) ∧ w'.cell? ⟨xb, 0, none⟩ = some (.slice av P cv) ∧ w'.cell? ⟨xb, 3, none⟩ = some (.int .i64 R) ∧ w'.cell? ⟨xb, 4, none⟩ = some (.int .i64 C) ∧ Hid (Below w5.heap.size w5 w')) (by kernel_rfl) (KEEP.out _ ((Below.refl _ _).drew)) (fun hHeld => ?_)
      refine take_at (i := 0) 34 (v := .slice ug un uc) rfl (by kernel_rfl) (by kernel_rfl) (by kernel_rfl) rfl (fun _ _ _ h => h) (by rfl) (fun w hSw => ?_) hHeld ?_
      · (try dsimp only at hSw); go_simp
      simp only [Act.put, List.setIfInBounds_toArray, List.set_cons_zero, List.set_cons_succ]
      refine take_at (i := 1) 35 (v := .pointer (some ⟨xb, 0, none⟩)) rfl (by kernel_rfl) (by kernel_rfl) (by kernel_rfl) rfl (fun _ _ _ h => h) (by rfl) (fun w hSw => ?_) hHeld ?_
      · (try dsimp only at hSw); go_simp
      simp only [Act.put, List.setIfInBounds_toArray, List.set_cons_zero, List.set_cons_succ]
      refine take_at (i := 2) 36 (v := .pointer (some ⟨xb, 0, none⟩)) rfl (by kernel_rfl) (by kernel_rfl) (by kernel_rfl) rfl (fun _ _ _ h => h) (by rfl) (fun w hSw => ?_) hHeld ?_
      · (try dsimp only at hSw); go_simp
      simp only [Act.put, List.setIfInBounds_toArray, List.set_cons_zero, List.set_cons_succ]
      refine take_at (i := 3) 37 (v := .pointer (some ⟨xb, 0, none⟩)) rfl (by kernel_rfl) (by kernel_rfl) (by kernel_rfl) rfl (fun _ _ _ h => h) (by rfl) (fun w hSw => ?_) hHeld ?_
      · (try dsimp only at hSw); go_simp
      simp only [Act.put, List.setIfInBounds_toArray, List.set_cons_zero, List.set_cons_succ]
      refine take_at (i := 4) 38 (v := .pointer (some ⟨xb, 0, none⟩)) rfl (by kernel_rfl) (by kernel_rfl) (by kernel_rfl) rfl (fun _ _ _ h => h) (by rfl) (fun w hSw => ?_) hHeld ?_
      · (try dsimp only at hSw); go_simp
      simp only [Act.put, List.setIfInBounds_toArray, List.set_cons_zero, List.set_cons_succ]
      refine take_at (i := 5) 39 (v := .slice av P cv) rfl (by kernel_rfl) (by kernel_rfl) (by kernel_rfl) rfl (fun _ _ _ h => h) (by rfl) (fun w hSw => ?_) hHeld ?_
      · (try dsimp only at hSw); go_simp
      simp only [Act.put, List.setIfInBounds_toArray, List.set_cons_zero, List.set_cons_succ]
      refine take_at (i := 6) 40 (v := .int .i64 P) rfl (by kernel_rfl) (by kernel_rfl) (by kernel_rfl) rfl (fun _ _ _ h => h) (by rfl) (fun w hSw => ?_) hHeld ?_
      · (try dsimp only at hSw); go_simp
      simp only [Act.put, List.setIfInBounds_toArray, List.set_cons_zero, List.set_cons_succ]
      refine take_at (i := 7) 41 (v := .pointer (some ⟨xb, 0, none⟩)) rfl (by kernel_rfl) (by kernel_rfl) (by kernel_rfl) rfl (fun _ _ _ h => h) (by rfl) (fun w hSw => ?_) hHeld ?_
      · (try dsimp only at hSw); go_simp
      simp only [Act.put, List.setIfInBounds_toArray, List.set_cons_zero, List.set_cons_succ]
      refine take_at (i := 8) 42 (v := .pointer (some ⟨xb, 0, none⟩)) rfl (by kernel_rfl) (by kernel_rfl) (by kernel_rfl) rfl (fun _ _ _ h => h) (by rfl) (fun w hSw => ?_) hHeld ?_
      · (try dsimp only at hSw); go_simp
      simp only [Act.put, List.setIfInBounds_toArray, List.set_cons_zero, List.set_cons_succ]
      refine take_at (i := 9) 43 (v := .pointer (some ⟨xb, 3, none⟩)) rfl (by kernel_rfl) (by kernel_rfl) (by kernel_rfl) rfl (fun _ _ _ h => h) (by rfl) (fun w hSw => ?_) hHeld ?_
      · (try dsimp only at hSw); go_simp
      simp only [Act.put, List.setIfInBounds_toArray, List.set_cons_zero, List.set_cons_succ]
      refine take_at (i := 10) 44 (v := .int .i64 R) rfl (by kernel_rfl) (by kernel_rfl) (by kernel_rfl) rfl (fun _ _ _ h => h) (by rfl) (fun w hSw => ?_) hHeld ?_
      · (try dsimp only at hSw); go_simp
      simp only [Act.put, List.setIfInBounds_toArray, List.set_cons_zero, List.set_cons_succ]
      refine take_at (i := 11) 45 (v := .pointer (some ⟨xb, 0, none⟩)) rfl (by kernel_rfl) (by kernel_rfl) (by kernel_rfl) rfl (fun _ _ _ h => h) (by rfl) (fun w hSw => ?_) hHeld ?_
      · (try dsimp only at hSw); go_simp
      simp only [Act.put, List.setIfInBounds_toArray, List.set_cons_zero, List.set_cons_succ]
      refine take_at (i := 12) 46 (v := .pointer (some ⟨xb, 0, none⟩)) rfl (by kernel_rfl) (by kernel_rfl) (by kernel_rfl) rfl (fun _ _ _ h => h) (by rfl) (fun w hSw => ?_) hHeld ?_
      · (try dsimp only at hSw); go_simp
      simp only [Act.put, List.setIfInBounds_toArray, List.set_cons_zero, List.set_cons_succ]
      refine take_at (i := 13) 47 (v := .pointer (some ⟨xb, 4, none⟩)) rfl (by kernel_rfl) (by kernel_rfl) (by kernel_rfl) rfl (fun _ _ _ h => h) (by rfl) (fun w hSw => ?_) hHeld ?_
      · (try dsimp only at hSw); go_simp
      simp only [Act.put, List.setIfInBounds_toArray, List.set_cons_zero, List.set_cons_succ]
      refine take_at (i := 14) 48 (v := .int .i64 C) rfl (by kernel_rfl) (by kernel_rfl) (by kernel_rfl) rfl (fun _ _ _ h => h) (by rfl) (fun w hSw => ?_) hHeld ?_
      · (try dsimp only at hSw); go_simp
      simp only [Act.put, List.setIfInBounds_toArray, List.set_cons_zero, List.set_cons_succ]
      refine wpAnyH_ready (rs := [15]) (by kernel_rfl) (by simp) ?_
      refine node_f55 49 34 40 44 48 _ _ _ _ rfl (by rfl) rfl rfl rfl rfl rfl rfl ((CF.out _ ((Below.refl _ _).drew)).mono ?_) AllReadyH.nil
      · rintro e w6 ⟨rfl, hb6⟩
        have HB6 : Hid (Below w5.heap.size w5 w6) := below_step ((Below.refl _ _).drew) hb6
        have hHeld := KEEP.out _ HB6.out
        refine ⟨_, rfl, hHeld, ?_⟩
        clear hb6
        simp only [Act.put, List.setIfInBounds_toArray, List.set_cons_zero, List.set_cons_succ]
        refine take_at (i := 16) 50 (v := .bool true) rfl (by kernel_rfl) (by kernel_rfl) (by kernel_rfl) rfl (fun _ _ _ h => h) (by rfl) (fun w hSw => ?_) hHeld ?_
        · (try dsimp only at hSw); go_simp
        simp only [Act.put, List.setIfInBounds_toArray, List.set_cons_zero, List.set_cons_succ]
        refine take_at (i := 17) 33 (v := .bool true) rfl (by kernel_rfl) (by kernel_rfl) (by kernel_rfl) rfl (fun _ _ _ h => h) (by rfl) (fun w hSw => ?_) hHeld ?_
        · (try dsimp only at hSw); go_simp
        simp only [Act.put, List.setIfInBounds_toArray, List.set_cons_zero, List.set_cons_succ]
        refine wpAnyH_done (by kernel_rfl) ?_ _
        clear hHeld
        go_wp2_with fail
        (try simp only [Exit.inBlock, Exit.then])
        refine bodyPost_ret (results_tmp3 rfl _ _ _) rfl ?_
        exact ⟨ret_eq HR.out.symm, HBW.out.trans (HB6.out.mono HBW.out.size)⟩
    · have hf2 : formB o.P o.R o.C gg = true := by rw [← HP.out, ← HRR.out, ← HCC.out]; exact hf
      have HF2 := hid hf2
      have CF : Hid (∀ w', Below w5.heap.size w5 w' → Calls Tryd.prog 55 #[.slice ug un uc, .int .i64 P, .int .i64 R, .int .i64 C] w' fun e w'' => e = .returned (.bool true) ∧ Below w'.heap.size w' w'') := fun w' hb => by
        have h := rowed_any (.slice ug un uc) gg P R C w' (isGrid_below HG5.out hb) HSG.out (by omega) (by omega) (by omega)
        rw [hf] at h
        exact h
      clear hf hf2
      refine wp_region_held_drew (S := fun w' => w'.cell? ⟨b9, 0, none⟩ = some (.pointer (some ⟨xb, 0, none⟩)) ∧ w'.cell? ⟨xb, 0, none⟩ = some (.slice av P cv) ∧ w'.cell? ⟨xb, 3, none⟩ = some (.int .i64 R) ∧ w'.cell? ⟨xb, 4, none⟩ = some (.int .i64 C) ∧ Hid (Below w5.heap.size w5 w')) (by kernel_rfl) (KEEP.out _ ((Below.refl _ _).drew)) (fun hHeld => ?_)
      refine take_at (i := 0) 34 (v := .slice ug un uc) rfl (by kernel_rfl) (by kernel_rfl) (by kernel_rfl) rfl (fun _ _ _ h => h) (by rfl) (fun w hSw => ?_) hHeld ?_
      · (try dsimp only at hSw); go_simp
      simp only [Act.put, List.setIfInBounds_toArray, List.set_cons_zero, List.set_cons_succ]
      refine take_at (i := 1) 35 (v := .pointer (some ⟨xb, 0, none⟩)) rfl (by kernel_rfl) (by kernel_rfl) (by kernel_rfl) rfl (fun _ _ _ h => h) (by rfl) (fun w hSw => ?_) hHeld ?_
      · (try dsimp only at hSw); go_simp
      simp only [Act.put, List.setIfInBounds_toArray, List.set_cons_zero, List.set_cons_succ]
      refine take_at (i := 2) 36 (v := .pointer (some ⟨xb, 0, none⟩)) rfl (by kernel_rfl) (by kernel_rfl) (by kernel_rfl) rfl (fun _ _ _ h => h) (by rfl) (fun w hSw => ?_) hHeld ?_
      · (try dsimp only at hSw); go_simp
      simp only [Act.put, List.setIfInBounds_toArray, List.set_cons_zero, List.set_cons_succ]
      refine take_at (i := 3) 37 (v := .pointer (some ⟨xb, 0, none⟩)) rfl (by kernel_rfl) (by kernel_rfl) (by kernel_rfl) rfl (fun _ _ _ h => h) (by rfl) (fun w hSw => ?_) hHeld ?_
      · (try dsimp only at hSw); go_simp
      simp only [Act.put, List.setIfInBounds_toArray, List.set_cons_zero, List.set_cons_succ]
      refine take_at (i := 4) 38 (v := .pointer (some ⟨xb, 0, none⟩)) rfl (by kernel_rfl) (by kernel_rfl) (by kernel_rfl) rfl (fun _ _ _ h => h) (by rfl) (fun w hSw => ?_) hHeld ?_
      · (try dsimp only at hSw); go_simp
      simp only [Act.put, List.setIfInBounds_toArray, List.set_cons_zero, List.set_cons_succ]
      refine take_at (i := 5) 39 (v := .slice av P cv) rfl (by kernel_rfl) (by kernel_rfl) (by kernel_rfl) rfl (fun _ _ _ h => h) (by rfl) (fun w hSw => ?_) hHeld ?_
      · (try dsimp only at hSw); go_simp
      simp only [Act.put, List.setIfInBounds_toArray, List.set_cons_zero, List.set_cons_succ]
      refine take_at (i := 6) 40 (v := .int .i64 P) rfl (by kernel_rfl) (by kernel_rfl) (by kernel_rfl) rfl (fun _ _ _ h => h) (by rfl) (fun w hSw => ?_) hHeld ?_
      · (try dsimp only at hSw); go_simp
      simp only [Act.put, List.setIfInBounds_toArray, List.set_cons_zero, List.set_cons_succ]
      refine take_at (i := 7) 41 (v := .pointer (some ⟨xb, 0, none⟩)) rfl (by kernel_rfl) (by kernel_rfl) (by kernel_rfl) rfl (fun _ _ _ h => h) (by rfl) (fun w hSw => ?_) hHeld ?_
      · (try dsimp only at hSw); go_simp
      simp only [Act.put, List.setIfInBounds_toArray, List.set_cons_zero, List.set_cons_succ]
      refine take_at (i := 8) 42 (v := .pointer (some ⟨xb, 0, none⟩)) rfl (by kernel_rfl) (by kernel_rfl) (by kernel_rfl) rfl (fun _ _ _ h => h) (by rfl) (fun w hSw => ?_) hHeld ?_
      · (try dsimp only at hSw); go_simp
      simp only [Act.put, List.setIfInBounds_toArray, List.set_cons_zero, List.set_cons_succ]
      refine take_at (i := 9) 43 (v := .pointer (some ⟨xb, 3, none⟩)) rfl (by kernel_rfl) (by kernel_rfl) (by kernel_rfl) rfl (fun _ _ _ h => h) (by rfl) (fun w hSw => ?_) hHeld ?_
      · (try dsimp only at hSw); go_simp
      simp only [Act.put, List.setIfInBounds_toArray, List.set_cons_zero, List.set_cons_succ]
      refine take_at (i := 10) 44 (v := .int .i64 R) rfl (by kernel_rfl) (by kernel_rfl) (by kernel_rfl) rfl (fun _ _ _ h => h) (by rfl) (fun w hSw => ?_) hHeld ?_
      · (try dsimp only at hSw); go_simp
      simp only [Act.put, List.setIfInBounds_toArray, List.set_cons_zero, List.set_cons_succ]
      refine take_at (i := 11) 45 (v := .pointer (some ⟨xb, 0, none⟩)) rfl (by kernel_rfl) (by kernel_rfl) (by kernel_rfl) rfl (fun _ _ _ h => h) (by rfl) (fun w hSw => ?_) hHeld ?_
      · (try dsimp only at hSw); go_simp
      simp only [Act.put, List.setIfInBounds_toArray, List.set_cons_zero, List.set_cons_succ]
      refine take_at (i := 12) 46 (v := .pointer (some ⟨xb, 0, none⟩)) rfl (by kernel_rfl) (by kernel_rfl) (by kernel_rfl) rfl (fun _ _ _ h => h) (by rfl) (fun w hSw => ?_) hHeld ?_
      · (try dsimp only at hSw); go_simp
      simp only [Act.put, List.setIfInBounds_toArray, List.set_cons_zero, List.set_cons_succ]
      refine take_at (i := 13) 47 (v := .pointer (some ⟨xb, 4, none⟩)) rfl (by kernel_rfl) (by kernel_rfl) (by kernel_rfl) rfl (fun _ _ _ h => h) (by rfl) (fun w hSw => ?_) hHeld ?_
      · (try dsimp only at hSw); go_simp
      simp only [Act.put, List.setIfInBounds_toArray, List.set_cons_zero, List.set_cons_succ]
      refine take_at (i := 14) 48 (v := .int .i64 C) rfl (by kernel_rfl) (by kernel_rfl) (by kernel_rfl) rfl (fun _ _ _ h => h) (by rfl) (fun w hSw => ?_) hHeld ?_
      · (try dsimp only at hSw); go_simp
      simp only [Act.put, List.setIfInBounds_toArray, List.set_cons_zero, List.set_cons_succ]
      refine wpAnyH_ready (rs := [15]) (by kernel_rfl) (by simp) ?_
      refine node_f55 49 34 40 44 48 _ _ _ _ rfl (by rfl) rfl rfl rfl rfl rfl rfl ((CF.out _ ((Below.refl _ _).drew)).mono ?_) AllReadyH.nil
      · rintro e w6 ⟨rfl, hb6⟩
        have HB6 : Hid (Below w5.heap.size w5 w6) := below_step ((Below.refl _ _).drew) hb6
        have hHeld := KEEP.out _ HB6.out
        refine ⟨_, rfl, hHeld, ?_⟩
        clear hb6
        simp only [Act.put, List.setIfInBounds_toArray, List.set_cons_zero, List.set_cons_succ]
        refine take_at (i := 16) 50 (v := .bool false) rfl (by kernel_rfl) (by kernel_rfl) (by kernel_rfl) rfl (fun _ _ _ h => h) (by rfl) (fun w hSw => ?_) hHeld ?_
        · (try dsimp only at hSw); go_simp
        simp only [Act.put, List.setIfInBounds_toArray, List.set_cons_zero, List.set_cons_succ]
        refine take_at (i := 17) 33 (v := .bool false) rfl (by kernel_rfl) (by kernel_rfl) (by kernel_rfl) rfl (fun _ _ _ h => h) (by rfl) (fun w hSw => ?_) hHeld ?_
        · (try dsimp only at hSw); go_simp
        simp only [Act.put, List.setIfInBounds_toArray, List.set_cons_zero, List.set_cons_succ]
        refine wpAnyH_done (by kernel_rfl) ?_ _
        clear hHeld KEEP
        go_upto_region 6 with fail
        have HOV6 := hid (ovAt_below HOV5.out HB6.out)
        have HG6 := hid (isGrid_below HG5.out HB6.out)
        have KEEP6 : Hid (∀ w', Below w6.heap.size w6 w' → w'.cell? ⟨b9, 0, none⟩ = some (.pointer (some ⟨xb, 0, none⟩)) ∧ w'.cell? ⟨xb, 0, none⟩ = some (.slice av P cv) ∧ Hid (Below w6.heap.size w6 w')) := fun w' hb => ⟨box1 (((HB6.out.trans (hb.mono HB6.out.size)).block b9 (heap_lt HK9.out)).trans HK9.out), (ovAt_below HOV6.out hb).c0, hb⟩
        have HK9' : Hid (w6.heap[b9]? = _) := (HB6.out.block b9 (heap_lt HK9.out)).trans HK9.out
        have HK10' : Hid (w6.heap[b10]? = _) := (HB6.out.block b10 (heap_lt HK10.out)).trans HK10.out
        have HBW6 : Hid (Below w.heap.size w w6) := below_step HBW.out HB6.out
        clear CF HG5 HOV5 HK9 HK10
        go_cut [12, 13] (fun v12 v13 wx => ∃ bi m1 m2, v12 = .pointer (some ⟨bi, 0, none⟩) ∧ v13 = .map (some m2) ∧ w6.heap.size ≤ bi ∧ wx.heap[bi]? = some (.cells #[.map (some m1)] 90) ∧ Hid (SetW wx m1 (o.cells.filter (inG o.safe))) ∧ Hid (SetW wx m2 (o.cells.filter (inG gg))) ∧ Hid (Below w6.heap.size w6 wx))
        case first =>
          refine wp_region_held_drew (S := fun w' => w'.cell? ⟨b9, 0, none⟩ = some (.pointer (some ⟨xb, 0, none⟩)) ∧ w'.cell? ⟨xb, 0, none⟩ = some (.slice av P cv) ∧ Hid (Below w6.heap.size w6 w')) (by kernel_rfl) (KEEP6.out _ ((Below.refl _ _).drew)) (fun hHeld => ?_)
          have R0 := R2.start w6 (o.cells.filter (inG o.safe)) (o.cells.filter (inG gg))
          refine take_at (i := 0) 51 (v := .pointer (some ⟨xb, 0, none⟩)) rfl (by kernel_rfl) (by kernel_rfl) (by kernel_rfl) rfl (fun _ _ _ h => h) (by rfl) (fun w hSw => ?_) hHeld ?_
          · (try dsimp only at hSw); go_simp
          simp only [Act.put, List.setIfInBounds_toArray, List.set_cons_zero, List.set_cons_succ]
          refine take_at (i := 1) 52 (v := .pointer (some ⟨xb, 0, none⟩)) rfl (by kernel_rfl) (by kernel_rfl) (by kernel_rfl) rfl (fun _ _ _ h => h) (by rfl) (fun w hSw => ?_) hHeld ?_
          · (try dsimp only at hSw); go_simp
          simp only [Act.put, List.setIfInBounds_toArray, List.set_cons_zero, List.set_cons_succ]
          refine take_at (i := 2) 53 (v := .pointer (some ⟨xb, 0, none⟩)) rfl (by kernel_rfl) (by kernel_rfl) (by kernel_rfl) rfl (fun _ _ _ h => h) (by rfl) (fun w hSw => ?_) hHeld ?_
          · (try dsimp only at hSw); go_simp
          simp only [Act.put, List.setIfInBounds_toArray, List.set_cons_zero, List.set_cons_succ]
          refine take_at (i := 3) 54 (v := .pointer (some ⟨xb, 0, none⟩)) rfl (by kernel_rfl) (by kernel_rfl) (by kernel_rfl) rfl (fun _ _ _ h => h) (by rfl) (fun w hSw => ?_) hHeld ?_
          · (try dsimp only at hSw); go_simp
          simp only [Act.put, List.setIfInBounds_toArray, List.set_cons_zero, List.set_cons_succ]
          refine take_at (i := 4) 55 (v := .pointer (some ⟨xb, 0, none⟩)) rfl (by kernel_rfl) (by kernel_rfl) (by kernel_rfl) rfl (fun _ _ _ h => h) (by rfl) (fun w hSw => ?_) hHeld ?_
          · (try dsimp only at hSw); go_simp
          simp only [Act.put, List.setIfInBounds_toArray, List.set_cons_zero, List.set_cons_succ]
          refine take_at (i := 5) 56 (v := .slice av P cv) rfl (by kernel_rfl) (by kernel_rfl) (by kernel_rfl) rfl (fun _ _ _ h => h) (by rfl) (fun w hSw => ?_) hHeld ?_
          · (try dsimp only at hSw); go_simp
          simp only [Act.put, List.setIfInBounds_toArray, List.set_cons_zero, List.set_cons_succ]
          refine take_at (i := 7) 58 (v := .pointer (some ⟨xb, 0, none⟩)) rfl (by kernel_rfl) (by kernel_rfl) (by kernel_rfl) rfl (fun _ _ _ h => h) (by rfl) (fun w hSw => ?_) hHeld ?_
          · (try dsimp only at hSw); go_simp
          simp only [Act.put, List.setIfInBounds_toArray, List.set_cons_zero, List.set_cons_succ]
          refine take_at (i := 8) 59 (v := .slice ug un uc) rfl (by kernel_rfl) (by kernel_rfl) (by kernel_rfl) rfl (fun _ _ _ h => h) (by rfl) (fun w hSw => ?_) hHeld ?_
          · (try dsimp only at hSw); go_simp
          simp only [Act.put, List.setIfInBounds_toArray, List.set_cons_zero, List.set_cons_succ]
          refine wpAnyH_ready (rs := [6, 10]) (by kernel_rfl) (by simp) ?_
          refine node_f54 57 51 56 _ _ rfl (by rfl) rfl rfl rfl rfl ((in_any xb _ vm vj o (.slice av P cv) o.safe _ (ovAt_below HOV6.out R0.below) HOK.out (ovAt_below HOV6.out R0.below).ov.safe HOK.out.form).mono ?_) ?_
          · rintro e v6 ⟨m1, rfl, hm1, hs1, hb6⟩
            have R1 := R0.call1 hb6 hs1
            have hHeld := KEEP6.out _ R1.below
            refine ⟨_, rfl, hHeld, ?_⟩
            clear hm1 hs1 hb6 R0
            simp only [Act.put, List.setIfInBounds_toArray, List.set_cons_zero, List.set_cons_succ]
            refine wpAnyH_ready (rs := [9, 10]) (by kernel_rfl) (by simp) ?_
            refine node_f54 60 58 59 _ _ rfl (by rfl) rfl rfl rfl rfl ((in_any xb _ vm vj o (.slice ug un uc) gg _ (ovAt_below HOV6.out R1.below) HOK.out (isGrid_below HG6.out R1.below) HF2.out).mono ?_) ?_
            · rintro e v7 ⟨m2, rfl, hm2, hs2, hb6⟩
              have R2 := R1.call2 hb6 hs2
              have hHeld := KEEP6.out _ R2.below
              refine ⟨_, rfl, hHeld, ?_⟩
              clear hm2 hs2 hb6 R1
              simp only [Act.put, List.setIfInBounds_toArray, List.set_cons_zero, List.set_cons_succ]
              refine wpAnyH_ready (rs := [10]) (by kernel_rfl) (by simp) ?_
              refine node_alloc90 12 rfl rfl rfl rfl (KEEP6.out _ R2.box.below) (fun hHeld => ?_) AllReadyH.nil
              · have R3 := R2.box
                clear R2
                simp only [Act.put, List.setIfInBounds_toArray, List.set_cons_zero, List.set_cons_succ]
                have hf := R3.fin
                refine wpAnyH_ready (rs := [11]) (by kernel_rfl) (by simp) ?_
                refine node_store90 12 57 _ _ rfl rfl rfl rfl rfl rfl (R3.hx _ rfl).2 (KEEP6.out _ hf.2.2.2.2) ?_ AllReadyH.nil
                · have hHeld := KEEP6.out _ hf.2.2.2.2
                  refine take_at (i := 12) 13 (v := .map (some m2)) rfl (by kernel_rfl) (by kernel_rfl) (by kernel_rfl) rfl (fun _ _ _ h => h) (by rfl) (fun w hSw => ?_) hHeld ?_
                  · (try dsimp only at hSw); go_simp
                  simp only [Act.put, List.setIfInBounds_toArray, List.set_cons_zero, List.set_cons_succ]
                  refine wpAnyH_done (by kernel_rfl) ?_ _
                  clear hHeld
                  go_wp2_with fail
                  go_meet
                  exact ⟨_, _, _, rfl, rfl, hf.1, hf.2.1, hf.2.2.1, hf.2.2.2.1, hf.2.2.2.2⟩
            refine node_alloc90 12 rfl rfl rfl rfl (KEEP6.out _ R1.box.below) (fun hHeld => ?_) AllReadyH.nil
            · have R2 := R1.box
              clear R1
              simp only [Act.put, List.setIfInBounds_toArray, List.set_cons_zero, List.set_cons_succ]
              refine wpAnyH_ready (rs := [9]) (by kernel_rfl) (by simp) ?_
              refine node_f54 60 58 59 _ _ rfl (by rfl) rfl rfl rfl rfl ((in_any xb _ vm vj o (.slice ug un uc) gg _ (ovAt_below HOV6.out R2.below) HOK.out (isGrid_below HG6.out R2.below) HF2.out).mono ?_) AllReadyH.nil
              · rintro e v7 ⟨m2, rfl, hm2, hs2, hb6⟩
                have R3 := R2.call2 hb6 hs2
                have hHeld := KEEP6.out _ R3.below
                refine ⟨_, rfl, hHeld, ?_⟩
                clear hm2 hs2 hb6 R2
                simp only [Act.put, List.setIfInBounds_toArray, List.set_cons_zero, List.set_cons_succ]
                have hf := R3.fin
                refine wpAnyH_ready (rs := [11]) (by kernel_rfl) (by simp) ?_
                refine node_store90 12 57 _ _ rfl rfl rfl rfl rfl rfl (R3.hx _ rfl).2 (KEEP6.out _ hf.2.2.2.2) ?_ AllReadyH.nil
                · have hHeld := KEEP6.out _ hf.2.2.2.2
                  refine take_at (i := 12) 13 (v := .map (some m2)) rfl (by kernel_rfl) (by kernel_rfl) (by kernel_rfl) rfl (fun _ _ _ h => h) (by rfl) (fun w hSw => ?_) hHeld ?_
                  · (try dsimp only at hSw); go_simp
                  simp only [Act.put, List.setIfInBounds_toArray, List.set_cons_zero, List.set_cons_succ]
                  refine wpAnyH_done (by kernel_rfl) ?_ _
                  clear hHeld
                  go_wp2_with fail
                  go_meet
                  exact ⟨_, _, _, rfl, rfl, hf.1, hf.2.1, hf.2.2.1, hf.2.2.2.1, hf.2.2.2.2⟩
          refine node_alloc90 12 rfl rfl rfl rfl (KEEP6.out _ R0.box.below) (fun hHeld => ?_) AllReadyH.nil
          · have R1 := R0.box
            clear R0
            simp only [Act.put, List.setIfInBounds_toArray, List.set_cons_zero, List.set_cons_succ]
            refine wpAnyH_ready (rs := [6]) (by kernel_rfl) (by simp) ?_
            refine node_f54 57 51 56 _ _ rfl (by rfl) rfl rfl rfl rfl ((in_any xb _ vm vj o (.slice av P cv) o.safe _ (ovAt_below HOV6.out R1.below) HOK.out (ovAt_below HOV6.out R1.below).ov.safe HOK.out.form).mono ?_) AllReadyH.nil
            · rintro e v6 ⟨m1, rfl, hm1, hs1, hb6⟩
              have R2 := R1.call1 hb6 hs1
              have hHeld := KEEP6.out _ R2.below
              refine ⟨_, rfl, hHeld, ?_⟩
              clear hm1 hs1 hb6 R1
              simp only [Act.put, List.setIfInBounds_toArray, List.set_cons_zero, List.set_cons_succ]
              refine wpAnyH_ready (rs := [9]) (by kernel_rfl) (by simp) ?_
              refine node_f54 60 58 59 _ _ rfl (by rfl) rfl rfl rfl rfl ((in_any xb _ vm vj o (.slice ug un uc) gg _ (ovAt_below HOV6.out R2.below) HOK.out (isGrid_below HG6.out R2.below) HF2.out).mono ?_) AllReadyH.nil
              · rintro e v7 ⟨m2, rfl, hm2, hs2, hb6⟩
                have R3 := R2.call2 hb6 hs2
                have hHeld := KEEP6.out _ R3.below
                refine ⟨_, rfl, hHeld, ?_⟩
                clear hm2 hs2 hb6 R2
                simp only [Act.put, List.setIfInBounds_toArray, List.set_cons_zero, List.set_cons_succ]
                have hf := R3.fin
                refine wpAnyH_ready (rs := [11]) (by kernel_rfl) (by simp) ?_
                refine node_store90 12 57 _ _ rfl rfl rfl rfl rfl rfl (R3.hx _ rfl).2 (KEEP6.out _ hf.2.2.2.2) ?_ AllReadyH.nil
                · have hHeld := KEEP6.out _ hf.2.2.2.2
                  refine take_at (i := 12) 13 (v := .map (some m2)) rfl (by kernel_rfl) (by kernel_rfl) (by kernel_rfl) rfl (fun _ _ _ h => h) (by rfl) (fun w hSw => ?_) hHeld ?_
                  · (try dsimp only at hSw); go_simp
                  simp only [Act.put, List.setIfInBounds_toArray, List.set_cons_zero, List.set_cons_succ]
                  refine wpAnyH_done (by kernel_rfl) ?_ _
                  clear hHeld
                  go_wp2_with fail
                  go_meet
                  exact ⟨_, _, _, rfl, rfl, hf.1, hf.2.1, hf.2.2.1, hf.2.2.2.1, hf.2.2.2.2⟩
        case rest =>
          obtain ⟨bi, m1, m2, rfl, rfl, hbi, hbx, HS1, HS2, HBC⟩ := hcut
          have hl1 := setW_lt HS1.out
          have hl2 := setW_lt HS2.out
          go_upto_region 8 with fail
          have hlb := heap_lt hbx
          obtain ⟨hb7, hz7, k14, k15⟩ := alloc2 wc (.map #[] 0) (.cells #[.map (some wc.heap.size)] 90)
          obtain ⟨mn, hmn⟩ : ∃ mn, mn = wc.heap.size := ⟨_, rfl⟩
          obtain ⟨bn, hbn⟩ : ∃ bn, bn = wc.heap.size + 1 := ⟨_, rfl⟩
          obtain ⟨w7, hw7⟩ : ∃ w7, w7 = ((wc.alloc (.map #[] 0)).alloc (.cells #[.map (some wc.heap.size)] 90)) := ⟨_, rfl⟩
          rw [← hw7] at hb7 hz7 k14 k15
          rw [← hw7, ← hbn, ← hmn]
          rw [← hmn] at k14
          rw [← hbn, ← hmn] at k15
          have HR7 : Hid (RSt w6 bi m1 bn mn (o.cells.filter (inG o.safe)) [] w7) := ⟨HBC.out.trans (hb7.mono HBC.out.size), (hb7.block bi hlb).trans hbx, k15, setW_below HS1.out hb7 hl1, setW_of_block k14, by rw [hmn]; exact HBC.out.size, by omega⟩
          have HS7 := hid (setW_below HS2.out hb7 hl2)
          have hq2 : m2 ≠ mn ∧ m2 ≠ bn := by omega
          have hq3 : mn < w7.heap.size ∧ bn < w7.heap.size ∧ bi < w7.heap.size ∧ m1 < w7.heap.size ∧ m2 < w7.heap.size ∧ w6.heap.size ≤ w7.heap.size := by have := HBC.out.size; omega
          clear hw7 hmn hbn hb7 hz7 k14 k15 hbx HS1 HS2 hl1 hl2 hlb HBC hmm
          have K910 : Hid (∀ w', Below w6.heap.size w6 w' → w'.cell? ⟨b9, 0, none⟩ = some (.pointer (some ⟨xb, 0, none⟩)) ∧ w'.cell? ⟨b10, 0, none⟩ = some (.int .i64 p) ∧ w'.cell? ⟨b10, 1, none⟩ = some (.int .i64 x) ∧ w'.cell? ⟨b10, 2, none⟩ = some (.int .i64 y) ∧ b9 < w'.heap.size ∧ b10 < w'.heap.size) := fun w' hb => by
            have h9 := (hb.block b9 (heap_lt HK9'.out)).trans HK9'.out
            have h10 := (hb.block b10 (heap_lt HK10'.out)).trans HK10'.out
            obtain ⟨e0, e1, e2⟩ := cells3_of h10
            exact ⟨box1 h9, e0, e1, e2, heap_lt h9, heap_lt h10⟩
          go_upto_block 1 with (first
            | (at_range; refine wpl_range_set rfl _ m2 (o.cells.filter (inG gg)) rfl rfl HS7.out ?_; intro w8 hr8 hg8 hz8; have HRS8 := hid hr8; have hb8 := Below.grown (Below.refl w7.heap.size w7) hg8 (Nat.le_refl _) (fun k hk => by cases hk); have HR8 := hid (HR7.out.more hb8); clear hr8 hg8 hb8)
            | fail)
          have hN1 := N_small HOK.out
          go_frame
          go_cut [15] (fun _ wx => ∃ LN, Hid (RSt w6 bi m1 bn mn (o.cells.filter (inG o.safe)) LN wx) ∧ Hid (∀ d, d ∈ LN ↔ o.G gg 0 d = true) ∧ LN.length ≤ o.N)
          case first =>
            go_wp2_with fail
            (try go_frame)
            go_loopw [15] (fun _ wr => ∃ T LN, Hid (RangeS wr m2 w7.heap.size (o.cells.filter (inG gg)) T) ∧ Hid (RSt w6 bi m1 bn mn (o.cells.filter (inG o.safe)) LN wr) ∧ Hid (∀ d, d ∈ LN ↔ d ∈ (o.cells.filter (inG gg)) ∧ d ∉ T ∧ inG o.safe d = true) ∧ LN.length + T.length ≤ o.N) (fun _ wr => wr.rangeLeft m2 w7.heap.size)
            case atStart => exact ⟨_, [], HRS8, HR8, fun d => ⟨fun h => (by simp at h), fun h => absurd h.1 h.2.1⟩, by have := List.length_filter_le (inG gg) o.cells; rw [cells_len] at this; simpa using this⟩
            case round =>
              obtain ⟨T, LN, HRS, HRr, HMM, hlen⟩ := hrel
              have HRN := hid HRS.out.nodup
              have HLEN := hid hlen
              clear hlen
              go_wp2_with (first
                | (at_next; refine wpl_next_set3 rfl _ rfl m2 w7.heap.size _ T rfl HRS.out (fun hT => ?_) (fun dp dx dy v w9 hcT hcL hc hr9 hlt9 hg9 hz9 hen9 => ?_); (have HTN := hid hT; clear hT); rotate_left 1; have HRS9 := hid hr9; have HL9 := hid hlt9; have HR9 := hid (HRr.out.next hg9 hq3.2.2.2.2.2 (by omega) (by omega) (by omega) (by omega)); have HCT := hid hcT; have HCL := hid hcL; have HCR := hid hc; have hal := (Below.refl w9.heap.size w9).alloc (Nat.le_refl _) (.cells #[.int .i64 dp, .int .i64 dx, .int .i64 dy] 87); have HR10 := hid (HR9.out.more hal); have HRS10 := hid (HRS9.out.below hal); have hbi9 := box1 HR10.out.bi; have hbn9 := box1 HR10.out.bn; have hlk := setW_look HR10.out.all hc; have hexc := (mem_cells o _).1 (List.mem_filter.1 hcL).1; rw [congrFun (dec_in o (inG o.safe)) _, hexc, Bool.true_and] at hlk; unfold spv at hlk; simp only at hlk; clear hr9 hlt9 hg9 hcT hcL hc hal hexc; cases hsb : inG o.safe (dp, dx, dy); (rw [hsb] at hlk; have HSB := hid hsb; clear hsb); rotate_left 1; (rw [hsb] at hlk; have HSB := hid hsb; clear hsb))
                | (at_mapUpdate; refine wpl_put_set (by rfl) _ _ _ (by rfl) mn LN (by rfl) HR10.out.near (dp, dx, dy) (by rfl) (by rfl) HCR.out (mem_took HRN.out HMM.out HCL.out HCT.out HSB.out).1 (by have := HLEN.out; omega) ?_; intro w11 h1 h2 h3; have HR11 := hid (HR10.out.put h2 h1); have HRS11 := hid (HRS10.out.1.kept h2 (by intro e; cases e; omega) (by intro e; cases e; omega)); have HLL : Hid (w11.rangeLeft m2 w7.heap.size = _) := hid (left_same (h2.block m2 HRS10.out.1.lt.2.1 (by intro e; cases e; omega)) (h2.block w7.heap.size HRS10.out.1.lt.1 (by intro e; cases e; omega))); clear h1 h2 h3)
                | fail)
              all_goals first
                | (go_roundw
                   case rel =>
                     refine ⟨_, _, _, _, _, _, _, _, _, _, ⟨T.erase (dp, dx, dy), LN ++ [(dp, dx, dy)], HRS11, HR11, (mem_took HRN.out HMM.out HCL.out HCT.out HSB.out).2, ?_⟩, rfl⟩
                     have h1 := HLEN.out
                     have h2 := List.length_erase_of_mem HCT.out
                     have h3 : 0 < T.length := List.length_pos_of_mem HCT.out
                     rw [List.length_append, h2]
                     show LN.length + 1 + (T.length - 1) ≤ o.N
                     omega
                   case measure =>
                     show w11.rangeLeft m2 w7.heap.size < wr.rangeLeft m2 w7.heap.size
                     rw [HLL.out, HRS10.out.2]
                     exact HL9.out)
                | (go_roundw
                   case rel =>
                     refine ⟨_, _, _, _, _, _, _, _, _, _, ⟨T.erase (dp, dx, dy), LN, HRS10.out.1, HR10, mem_skip HRN.out HMM.out HSB.out, ?_⟩, rfl⟩
                     have h1 := HLEN.out
                     have h2 := List.length_erase_of_mem HCT.out
                     rw [h2]; omega
                   case measure =>
                     show (w9.alloc (.cells #[.int .i64 dp, .int .i64 dx, .int .i64 dy] 87)).rangeLeft m2 w7.heap.size < wr.rangeLeft m2 w7.heap.size
                     rw [HRS10.out.2]
                     exact HL9.out)
                | (go_roundw
                   case rel =>
                     refine ⟨T.erase (dp, dx, dy), LN, HRS10.out.1, HR10, mem_skip HRN.out HMM.out HSB.out, ?_⟩
                     have h1 := HLEN.out
                     have h2 := List.length_erase_of_mem HCT.out
                     rw [h2]; omega
                   case measure =>
                     show (w9.alloc (.cells #[.int .i64 dp, .int .i64 dx, .int .i64 dy] 87)).rangeLeft m2 w7.heap.size < wr.rangeLeft m2 w7.heap.size
                     rw [HRS10.out.2]
                     exact HL9.out)
                | (go_meet
                   exact ⟨LN, HRr, mem_done (by have h1 := HMM.out; rw [HTN.out] at h1; exact h1), by have := HLEN.out; omega⟩)
          case rest =>
            obtain ⟨LN, HRr, HMM, hln⟩ := hcut
            rename World => wd
            clear HR7 HRS8 HR8 HS7 hq2 hq3
            have hK := K910.out wd HRr.out.below
            obtain ⟨y0, y1, y2, y3, y4, y5⟩ := hK
            have hbn9 := box1 HRr.out.bn
            have hbi9 := box1 HRr.out.bi
            have hR0 := ex_inR HOK.out HEX.out
            have HRR0 := hid hR0
            have hlk := setW_look HRr.out.near hR0
            rw [congrFun (dec_G HMM.out) _] at hlk
            unfold spv at hlk
            simp only at hlk
            have HLN := hid hln
            clear hR0 hln
            cases hg0 : o.G gg 0 (p, x, y)
            · rw [hg0] at hlk
              have HG0 := hid hg0
              clear hg0
              go_wp2_with fail
              clear hlk hbn9 hbi9 y0 y1 y2 y3 y4 y5
              go_loopw [16] (fun kv wr => ∃ (k : Nat) (LN : List Sp), kv = .int .i64 ((k : Int) + 1) ∧ Hid (RSt w6 bi m1 bn mn (o.cells.filter (inG o.safe)) LN wr) ∧ Hid (∀ d, d ∈ LN ↔ o.G gg k d = true) ∧ Hid (LN.length + (o.restL gg k).length ≤ 2 * o.N ∧ k + (o.restL gg k).length ≤ o.N) ∧ Hid (o.G gg k (p, x, y) = false)) (fun kv _ => (o.restL gg ((intOf kv).toNat - 1)).length)
              case atStart => exact ⟨0, LN, rfl, HRr, HMM, by have := HLN.out; have := rest_le o gg 0; show _ ∧ _; omega, HG0⟩
              case round =>
                clear HRr HMM HLN HG0
                obtain ⟨k, LN, rfl, HRr, HMM, HKN, HG0⟩ := hrel
                rename World => wr
                have hkN : k ≤ 1024 := by have := HKN.out; omega
                obtain ⟨y0, y1, y2, y3, y4, y5⟩ := K910.out wr HRr.out.below
                -- the box of the test
                have hba := (Below.refl wr.heap.size wr).alloc (Nat.le_refl _) (.cells #[(.func (.func 60) #[] #[.pointer (some ⟨bn, 0, none⟩)])] 95)
                obtain ⟨wa, hwa⟩ : ∃ wa, wa = wr.alloc (.cells #[(.func (.func 60) #[] #[.pointer (some ⟨bn, 0, none⟩)])] 95) := ⟨_, rfl⟩
                obtain ⟨bt, hbt⟩ : ∃ bt, bt = wr.heap.size := ⟨_, rfl⟩
                have hxt : wa.heap[bt]? = some (.cells #[(.func (.func 60) #[] #[.pointer (some ⟨bn, 0, none⟩)])] 95) := by rw [hwa, hbt]; exact heap_alloc_new _ _
                rw [← hwa] at hba
                have HRa := hid (HRr.out.more hba)
                have HXT := hid hxt
                have HWA := hid hwa
                have HBT := hid hbt
                have CM : Hid (Calls Tryd.prog 46 #[.pointer (some ⟨xb, 0, none⟩), .agg #[.int .i64 p, .int .i64 x, .int .i64 y], (.func (.func 60) #[] #[.pointer (some ⟨bn, 0, none⟩)])] wa fun e w' => e = .returned (.int .i64 (o.move (o.G gg k) (p, x, y))) ∧ Below wa.heap.size wa w') := by
                  have h := move_any xb _ vm vj o (p, x, y) 60 #[.pointer (some ⟨bn, 0, none⟩)] _ wa (ovAt_below HOV6.out HRa.out.below) HOK.out HEX.out (testC60 (box1 HRa.out.bn) HRa.out.near)
                  rw [dec_G HMM.out] at h
                  exact h
                have hmn := move_nneg o (o.G gg k) (p, x, y)
                have hnf : o.newF gg k (p, x, y) = (inG o.safe (p, x, y) && o.canM (o.G gg k) (p, x, y)) := by unfold Ov.newF; rw [HG0.out]; rfl
                have HNF := hid hnf
                have HMNV : Hid (∀ r, r = o.move (o.G gg k) (p, x, y) → o.newF gg k (p, x, y) = true → reachV o gg (p, x, y) = .tuple #[.int .i64 ((k : Int) + 1), .int .i64 r, .int .i64 0]) := fun r hr h => by rw [hr]; exact reachV_s HV.out HF2.out HG0.out h
                obtain ⟨mv, hmv⟩ : ∃ mv, mv = o.move (o.G gg k) (p, x, y) := ⟨_, rfl⟩
                rw [← hmv] at CM hmn
                have HMV := hid hmv
                clear hba hxt hwa hbt hnf hmv
                go_upto_region 18 with fail
                rw [← HWA.out, ← HBT.out]
                clear y0 y1 y2 y3 y4 y5
                obtain ⟨y0, y1, y2, y3, y4, y5⟩ := K910.out wa HRa.out.below
                have hxt := box1 HXT.out
                go_upto_region 19 with (first | (go_at_call 46; refine (CM.out).mono ?_; rintro e w1 ⟨rfl, hb1⟩; have HR1 := hid (HRa.out.more hb1); have HXT1 := hid ((hb1.block bt (heap_lt HXT.out)).trans HXT.out); clear hb1) | fail)
                clear y0 y1 y2 y3 y4 y5 hxt
                obtain ⟨z0, z1, z2, z3, z4, z5⟩ := K910.out w1 HR1.out.below
                have hbi1 := box1 HR1.out.bi
                have hlk1 := setW_look HR1.out.all HRR0.out
                rw [congrFun (dec_in o (inG o.safe)) _, HEX.out, Bool.true_and] at hlk1
                unfold spv at hlk1
                simp only at hlk1
                obtain ⟨sb, hsb⟩ : ∃ sb, sb = inG o.safe (p, x, y) := ⟨_, rfl⟩
                rw [← hsb] at hlk1 HNF
                obtain ⟨cmv, hcm⟩ : ∃ cmv, cmv = o.canM (o.G gg k) (p, x, y) := ⟨_, rfl⟩
                rw [← hcm] at hmn HNF
                clear hsb hcm
                cases sb
                · have HNW : Hid (o.newF gg k (p, x, y) = false) := by rw [HNF.out]; exact rfl
                  clear hmn
                  have hlM : b9 < w1.heap.size := z4
                  have cc2 := hid (cells_any xb _ vm vj o 62 #[.pointer (some ⟨bi, 0, none⟩), .pointer (some ⟨bn, 0, none⟩), .pointer (some ⟨b9, 0, none⟩), .pointer (some ⟨bt, 0, none⟩), .pointer (some ⟨w1.heap.size, 0, none⟩)]
                    (fun i W => Below w1.heap.size w1 W ∧ ∃ v, W.heap[w1.heap.size]? = some (.cells #[v] 114) ∧ OwnS W (w1.heap.size + 1) 87 v ((o.cells.take i).filter (o.newF gg k)) ∧ ((o.cells.take i).filter (o.newF gg k) = [] → v = .slice none 0 0)) (w1.alloc (.cells #[.slice none 0 0] 114))
                    (fun i W hJ => ovAt_below (ovAt_below HOV6.out HR1.out.below) hJ.1) HOK.out ⟨(Below.refl _ _).alloc (Nat.le_refl _) _, _, heap_alloc_new _ _, by rw [List.take_zero]; exact ownS_nil _ _ _, fun _ => rfl⟩
                    ⟨enters_f Tryd.func62 (by kernel_rfl) rfl, by
                      rintro i W hi ⟨hb, v, hv, hO, hnil⟩
                      refine (reach2_any xb bi bn b9 bt m1 mn _ vm vj o (o.cellAt i) (o.cells.filter (inG o.safe)) LN v _ w1 W _ rfl (box1 HR1.out.bi) (box1 HR1.out.bn) (K910.out w1 HR1.out.below).1 (box1 HXT1.out) (ovAt_below HOV6.out HR1.out.below) HOK.out (cellAt_ex o i hi) HR1.out.all HR1.out.near hb hv hO (by have := new_take o gg k i; omega) (ex_inR HOK.out (cellAt_ex o i hi))).mono ?_
                      rintro e W' ⟨rfl, hb2, v', hv', hO', hn'⟩
                      have e1 : (decide (o.cellAt i ∈ (o.cells.filter (inG o.safe))) && (!decide (o.cellAt i ∈ LN) && o.canM (fun d => decide (d ∈ LN)) (o.cellAt i))) = o.newF gg k (o.cellAt i) := by
                        rw [dec_G HMM.out, show decide (o.cellAt i ∈ LN) = o.G gg k (o.cellAt i) from congrFun (dec_G HMM.out) _, show decide (o.cellAt i ∈ (o.cells.filter (inG o.safe))) = (o.ex (o.cellAt i) && inG o.safe (o.cellAt i)) from congrFun (dec_in o (inG o.safe)) _, cellAt_ex o i hi, Bool.true_and]
                        unfold Ov.newF
                        cases inG o.safe (o.cellAt i) <;> cases o.G gg k (o.cellAt i) <;> rfl
                      rw [e1] at hO' hn'
                      refine ⟨rfl, hb2, v', hv', by rw [filter_take_succ o _ i hi]; exact hO', ?_⟩
                      rw [filter_take_succ o _ i hi]
                      intro h
                      by_cases hf : o.newF gg k (o.cellAt i) = true
                      · rw [if_pos hf] at h; simp at h
                      · rw [if_neg hf] at h
                        rw [hn'.out (by simpa using hf)]
                        exact hnil h⟩)
                  have qnil : ∀ (W : World) (a : Option Addr) (n c : Nat), (binOp .eql 114 (.slice a n c) (.slice none 0 0)).run Tryd.prog W = .ok (.bool a.isNone) W := fun W a n c => Lib.run_eql_slice_nil W 114 87 a n c 0 0 Tryd.underlying114
                  have eN : o.cells.take o.N = o.cells := List.take_of_length_le (by rw [cells_len]; exact Nat.le_refl _)
                  have EN := hid eN
                  clear eN
                  by_cases hout : o.newL gg k = []
                  · have HOUT := hid hout
                    have HST : Hid (o.stillG gg k) := stillG_of o gg k (by
                      rw [List.any_eq_false]
                      intro d hd hnd
                      have : d ∈ o.newL gg k := List.mem_filter.2 ⟨hd, hnd⟩
                      rw [HOUT.out] at this
                      simp at this)
                    clear hout
                    go_wp2_with (first | (go_at_call 61; refine (cc2.out).mono ?_; rintro e w2 ⟨rfl, hb2, v5, hv5, ho5, hn5⟩; obtain rfl := hn5 (by rw [EN.out]; exact HOUT.out); have d1 := box1 hv5; have HR2 := hid (HR1.out.more hb2); clear hv5 ho5 hn5 hb2) | fail)
                    (try simp only [Exit.inBlock, Exit.then])
                    refine bodyPost_ret (results_tmp3 rfl _ _ _) rfl ?_
                    exact ⟨ret_eq (reachV_n HV.out HF2.out HG0.out HST.out).symm, below_step HBW6.out HR2.out.below⟩
                  · have HOUT := hid hout
                    clear hout
                    obtain ⟨len, hlen⟩ : ∃ len, len = (o.newL gg k).length := ⟨_, rfl⟩
                    have hlN : len ≤ o.N := hlen ▸ newL_le o gg k
                    have HLEN := hid hlen
                    clear hlen
                    go_wp2_with (first | (go_at_call 61; refine (cc2.out).mono ?_; rintro e w2 ⟨rfl, hb2, v5, hv5, ho5, hn5⟩; rw [EN.out] at ho5; obtain ⟨gm, sc, rfl, hgm, ⟨gs, hgs⟩, hcells⟩ := ownS_some (xs := o.newL gg k) ho5 HOUT.out; have d1 := box1 hv5; rw [← HLEN.out] at d1 hcells; have HR2 := hid (HR1.out.more hb2); have HL5 := hid hcells; have HG5 := hid hgs; clear hv5 ho5 hn5 hb2 hcells hgs) | fail)
                    go_loopw [99] (fun v wy => ∃ i : Nat, v = .int .i64 i ∧ i ≤ len ∧ Hid (RSt w6 bi m1 bn mn (o.cells.filter (inG o.safe)) (LN ++ (o.newL gg k).take i) wy) ∧ Hid (wy.heap[gm]? = w2.heap[gm]?)) (fun v _ => len - (intOf v).toNat)
                    case atStart => exact ⟨0, rfl, Nat.zero_le _, by rw [List.take_zero, List.append_nil]; exact HR2, rfl⟩
                    case round =>
                      obtain ⟨i, rfl, hi, HRi, HGi⟩ := hrel
                      rename World => wy
                      by_cases hlt : i < len
                      · obtain ⟨e0, e1, e2⟩ := HL5.out i hlt
                        have hgl : gm < wy.heap.size := heap_lt (HGi.out.trans HG5.out)
                        rw [← cell_of_heap HGi.out] at e0 e1 e2
                        obtain ⟨c, hc⟩ : ∃ c, c = sAt (o.newL gg k) i := ⟨_, rfl⟩
                        rw [← hc] at e0 e1 e2
                        have f1 := box1 HRi.out.bn
                        have hl1 := heap_lt HRi.out.bn
                        have hlt' : i < (o.newL gg k).length := by rw [← HLEN.out]; exact hlt
                        have hc' : c = (o.newL gg k)[i] := by rw [hc]; simp [sAt, hlt']
                        have HIN : Hid (InR c) := by
                          have h1 := List.mem_filter.1 (List.getElem_mem hlt')
                          rw [← hc'] at h1
                          exact ex_inR HOK.out ((mem_cells o c).1 h1.1)
                        have HNI : Hid (c ∉ LN ++ (o.newL gg k).take i) := by rw [hc']; exact newL_notin HMM.out i hlt'
                        have HLL : Hid ((LN ++ (o.newL gg k).take i) ++ [c] = LN ++ (o.newL gg k).take (i + 1)) := by
                          show _ = _
                          rw [List.take_succ_eq_append_getElem hlt', ← hc', List.append_assoc]
                        have HLZ : Hid ((LN ++ (o.newL gg k).take i).length < 1000000) := by
                          have := HKN.out
                          show _ < _
                          rw [List.length_append, List.length_take]
                          omega
                        have HRa2 := hid (HRi.out.more ((Below.refl _ _).alloc (Nat.le_refl _) (Obj.cells #[.int .i64 c.1, .int .i64 c.2.1, .int .i64 c.2.2] 87)))
                        have HBX := hid (heap_alloc_new wy (Obj.cells #[.int .i64 c.1, .int .i64 c.2.1, .int .i64 c.2.2] 87))
                        have HGa : Hid ((wy.alloc (Obj.cells #[.int .i64 c.1, .int .i64 c.2.1, .int .i64 c.2.2] 87)).heap[gm]? = w2.heap[gm]?) := (Below.heap_alloc _ _ _ hgl).trans HGi.out
                        clear hc hc' hlt'
                        go_wp2_with (first
                          | (at_mapUpdate; refine wpl_put_set (by rfl) _ _ _ (by rfl) mn (LN ++ (o.newL gg k).take i) (by rfl) HRa2.out.near c (by rfl) (by rfl) HIN.out HNI.out HLZ.out ?_; intro w9 h1 h2 h3; rw [HLL.out] at h1; have HR9 := hid (HRa2.out.put h2 h1); have HG9 : Hid (w9.heap[gm]? = w2.heap[gm]?) := hid ((h2.block _ (heap_lt (HGa.out.trans HG5.out)) (fun e => ne_set HRa2.out.near (HGa.out.trans HG5.out) (Option.some.inj e))).trans HGa.out); clear h1 h2 h3)
                          | fail)
                        go_roundw
                        case rel => exact ⟨i + 1, by go_num, by omega, HR9, HG9⟩
                        case measure => simp [intOf]; omega
                      · obtain rfl : i = len := by omega
                        have hcnt := count_new o gg k
                        have hlq : (o.newL gg k).length = (o.cells.filter (o.newF gg k)).length := rfl
                        have hne : (o.newL gg k).length ≠ 0 := fun h => HOUT.out (List.length_eq_zero_iff.1 h)
                        have HRe : Hid (RSt w6 bi m1 bn mn (o.cells.filter (inG o.safe)) (LN ++ o.newL gg k) wy) := by
                          have h1 := HRi.out
                          rw [HLEN.out, List.take_length] at h1
                          exact h1
                        have HMe := hid (newL_end HMM.out)
                        have HX : Hid (((LN ++ o.newL gg k).length + (o.restL gg (k + 1)).length ≤ 2 * o.N ∧ k + 1 + (o.restL gg (k + 1)).length ≤ o.N) ∧ (o.restL gg (k + 1)).length < (o.restL gg k).length) := by
                          have := HKN.out
                          show _ ∧ _
                          rw [List.length_append]
                          omega
                        have HGe : Hid (o.G gg (k + 1) (p, x, y) = false) := by
                          show _ = _
                          rw [G_new o gg k _ HEX.out, HG0.out, HNW.out]
                          rfl
                        clear hcnt hne hlq
                        go_wp2_with fail
                        go_roundw
                        case rel => exact ⟨k + 1, LN ++ o.newL gg k, by go_num, HRe, HMe, HX.out.1, HGe⟩
                        case measure =>
                          have := HX.out.2
                          simp only [intOf]
                          rw [show ((k : Int) + 1 + 1).toNat - 1 = k + 1 by omega, show ((k : Int) + 1).toNat - 1 = k by omega]
                          exact this
                · cases cmv
                  · have HNW : Hid (o.newF gg k (p, x, y) = false) := by rw [HNF.out]; exact rfl
                    have hmv1 : mv < 0 := by
                      by_cases h : 0 ≤ mv
                      · have := hmn.1 h; cases this
                      · omega
                    have hmv2 : ¬ 0 ≤ mv := by omega
                    clear hmn
                    have hlM : b9 < w1.heap.size := z4
                    have cc2 := hid (cells_any xb _ vm vj o 62 #[.pointer (some ⟨bi, 0, none⟩), .pointer (some ⟨bn, 0, none⟩), .pointer (some ⟨b9, 0, none⟩), .pointer (some ⟨bt, 0, none⟩), .pointer (some ⟨w1.heap.size, 0, none⟩)]
                      (fun i W => Below w1.heap.size w1 W ∧ ∃ v, W.heap[w1.heap.size]? = some (.cells #[v] 114) ∧ OwnS W (w1.heap.size + 1) 87 v ((o.cells.take i).filter (o.newF gg k)) ∧ ((o.cells.take i).filter (o.newF gg k) = [] → v = .slice none 0 0)) (w1.alloc (.cells #[.slice none 0 0] 114))
                      (fun i W hJ => ovAt_below (ovAt_below HOV6.out HR1.out.below) hJ.1) HOK.out ⟨(Below.refl _ _).alloc (Nat.le_refl _) _, _, heap_alloc_new _ _, by rw [List.take_zero]; exact ownS_nil _ _ _, fun _ => rfl⟩
                      ⟨enters_f Tryd.func62 (by kernel_rfl) rfl, by
                        rintro i W hi ⟨hb, v, hv, hO, hnil⟩
                        refine (reach2_any xb bi bn b9 bt m1 mn _ vm vj o (o.cellAt i) (o.cells.filter (inG o.safe)) LN v _ w1 W _ rfl (box1 HR1.out.bi) (box1 HR1.out.bn) (K910.out w1 HR1.out.below).1 (box1 HXT1.out) (ovAt_below HOV6.out HR1.out.below) HOK.out (cellAt_ex o i hi) HR1.out.all HR1.out.near hb hv hO (by have := new_take o gg k i; omega) (ex_inR HOK.out (cellAt_ex o i hi))).mono ?_
                        rintro e W' ⟨rfl, hb2, v', hv', hO', hn'⟩
                        have e1 : (decide (o.cellAt i ∈ (o.cells.filter (inG o.safe))) && (!decide (o.cellAt i ∈ LN) && o.canM (fun d => decide (d ∈ LN)) (o.cellAt i))) = o.newF gg k (o.cellAt i) := by
                          rw [dec_G HMM.out, show decide (o.cellAt i ∈ LN) = o.G gg k (o.cellAt i) from congrFun (dec_G HMM.out) _, show decide (o.cellAt i ∈ (o.cells.filter (inG o.safe))) = (o.ex (o.cellAt i) && inG o.safe (o.cellAt i)) from congrFun (dec_in o (inG o.safe)) _, cellAt_ex o i hi, Bool.true_and]
                          unfold Ov.newF
                          cases inG o.safe (o.cellAt i) <;> cases o.G gg k (o.cellAt i) <;> rfl
                        rw [e1] at hO' hn'
                        refine ⟨rfl, hb2, v', hv', by rw [filter_take_succ o _ i hi]; exact hO', ?_⟩
                        rw [filter_take_succ o _ i hi]
                        intro h
                        by_cases hf : o.newF gg k (o.cellAt i) = true
                        · rw [if_pos hf] at h; simp at h
                        · rw [if_neg hf] at h
                          rw [hn'.out (by simpa using hf)]
                          exact hnil h⟩)
                    have qnil : ∀ (W : World) (a : Option Addr) (n c : Nat), (binOp .eql 114 (.slice a n c) (.slice none 0 0)).run Tryd.prog W = .ok (.bool a.isNone) W := fun W a n c => Lib.run_eql_slice_nil W 114 87 a n c 0 0 Tryd.underlying114
                    have eN : o.cells.take o.N = o.cells := List.take_of_length_le (by rw [cells_len]; exact Nat.le_refl _)
                    have EN := hid eN
                    clear eN
                    by_cases hout : o.newL gg k = []
                    · have HOUT := hid hout
                      have HST : Hid (o.stillG gg k) := stillG_of o gg k (by
                        rw [List.any_eq_false]
                        intro d hd hnd
                        have : d ∈ o.newL gg k := List.mem_filter.2 ⟨hd, hnd⟩
                        rw [HOUT.out] at this
                        simp at this)
                      clear hout
                      go_wp2_with (first | (go_at_call 61; refine (cc2.out).mono ?_; rintro e w2 ⟨rfl, hb2, v5, hv5, ho5, hn5⟩; obtain rfl := hn5 (by rw [EN.out]; exact HOUT.out); have d1 := box1 hv5; have HR2 := hid (HR1.out.more hb2); clear hv5 ho5 hn5 hb2) | fail)
                      (try simp only [Exit.inBlock, Exit.then])
                      refine bodyPost_ret (results_tmp3 rfl _ _ _) rfl ?_
                      exact ⟨ret_eq (reachV_n HV.out HF2.out HG0.out HST.out).symm, below_step HBW6.out HR2.out.below⟩
                    · have HOUT := hid hout
                      clear hout
                      obtain ⟨len, hlen⟩ : ∃ len, len = (o.newL gg k).length := ⟨_, rfl⟩
                      have hlN : len ≤ o.N := hlen ▸ newL_le o gg k
                      have HLEN := hid hlen
                      clear hlen
                      go_wp2_with (first | (go_at_call 61; refine (cc2.out).mono ?_; rintro e w2 ⟨rfl, hb2, v5, hv5, ho5, hn5⟩; rw [EN.out] at ho5; obtain ⟨gm, sc, rfl, hgm, ⟨gs, hgs⟩, hcells⟩ := ownS_some (xs := o.newL gg k) ho5 HOUT.out; have d1 := box1 hv5; rw [← HLEN.out] at d1 hcells; have HR2 := hid (HR1.out.more hb2); have HL5 := hid hcells; have HG5 := hid hgs; clear hv5 ho5 hn5 hb2 hcells hgs) | fail)
                      go_loopw [99] (fun v wy => ∃ i : Nat, v = .int .i64 i ∧ i ≤ len ∧ Hid (RSt w6 bi m1 bn mn (o.cells.filter (inG o.safe)) (LN ++ (o.newL gg k).take i) wy) ∧ Hid (wy.heap[gm]? = w2.heap[gm]?)) (fun v _ => len - (intOf v).toNat)
                      case atStart => exact ⟨0, rfl, Nat.zero_le _, by rw [List.take_zero, List.append_nil]; exact HR2, rfl⟩
                      case round =>
                        obtain ⟨i, rfl, hi, HRi, HGi⟩ := hrel
                        rename World => wy
                        by_cases hlt : i < len
                        · obtain ⟨e0, e1, e2⟩ := HL5.out i hlt
                          have hgl : gm < wy.heap.size := heap_lt (HGi.out.trans HG5.out)
                          rw [← cell_of_heap HGi.out] at e0 e1 e2
                          obtain ⟨c, hc⟩ : ∃ c, c = sAt (o.newL gg k) i := ⟨_, rfl⟩
                          rw [← hc] at e0 e1 e2
                          have f1 := box1 HRi.out.bn
                          have hl1 := heap_lt HRi.out.bn
                          have hlt' : i < (o.newL gg k).length := by rw [← HLEN.out]; exact hlt
                          have hc' : c = (o.newL gg k)[i] := by rw [hc]; simp [sAt, hlt']
                          have HIN : Hid (InR c) := by
                            have h1 := List.mem_filter.1 (List.getElem_mem hlt')
                            rw [← hc'] at h1
                            exact ex_inR HOK.out ((mem_cells o c).1 h1.1)
                          have HNI : Hid (c ∉ LN ++ (o.newL gg k).take i) := by rw [hc']; exact newL_notin HMM.out i hlt'
                          have HLL : Hid ((LN ++ (o.newL gg k).take i) ++ [c] = LN ++ (o.newL gg k).take (i + 1)) := by
                            show _ = _
                            rw [List.take_succ_eq_append_getElem hlt', ← hc', List.append_assoc]
                          have HLZ : Hid ((LN ++ (o.newL gg k).take i).length < 1000000) := by
                            have := HKN.out
                            show _ < _
                            rw [List.length_append, List.length_take]
                            omega
                          have HRa2 := hid (HRi.out.more ((Below.refl _ _).alloc (Nat.le_refl _) (Obj.cells #[.int .i64 c.1, .int .i64 c.2.1, .int .i64 c.2.2] 87)))
                          have HBX := hid (heap_alloc_new wy (Obj.cells #[.int .i64 c.1, .int .i64 c.2.1, .int .i64 c.2.2] 87))
                          have HGa : Hid ((wy.alloc (Obj.cells #[.int .i64 c.1, .int .i64 c.2.1, .int .i64 c.2.2] 87)).heap[gm]? = w2.heap[gm]?) := (Below.heap_alloc _ _ _ hgl).trans HGi.out
                          clear hc hc' hlt'
                          go_wp2_with (first
                            | (at_mapUpdate; refine wpl_put_set (by rfl) _ _ _ (by rfl) mn (LN ++ (o.newL gg k).take i) (by rfl) HRa2.out.near c (by rfl) (by rfl) HIN.out HNI.out HLZ.out ?_; intro w9 h1 h2 h3; rw [HLL.out] at h1; have HR9 := hid (HRa2.out.put h2 h1); have HG9 : Hid (w9.heap[gm]? = w2.heap[gm]?) := hid ((h2.block _ (heap_lt (HGa.out.trans HG5.out)) (fun e => ne_set HRa2.out.near (HGa.out.trans HG5.out) (Option.some.inj e))).trans HGa.out); clear h1 h2 h3)
                            | fail)
                          go_roundw
                          case rel => exact ⟨i + 1, by go_num, by omega, HR9, HG9⟩
                          case measure => simp [intOf]; omega
                        · obtain rfl : i = len := by omega
                          have hcnt := count_new o gg k
                          have hlq : (o.newL gg k).length = (o.cells.filter (o.newF gg k)).length := rfl
                          have hne : (o.newL gg k).length ≠ 0 := fun h => HOUT.out (List.length_eq_zero_iff.1 h)
                          have HRe : Hid (RSt w6 bi m1 bn mn (o.cells.filter (inG o.safe)) (LN ++ o.newL gg k) wy) := by
                            have h1 := HRi.out
                            rw [HLEN.out, List.take_length] at h1
                            exact h1
                          have HMe := hid (newL_end HMM.out)
                          have HX : Hid (((LN ++ o.newL gg k).length + (o.restL gg (k + 1)).length ≤ 2 * o.N ∧ k + 1 + (o.restL gg (k + 1)).length ≤ o.N) ∧ (o.restL gg (k + 1)).length < (o.restL gg k).length) := by
                            have := HKN.out
                            show _ ∧ _
                            rw [List.length_append]
                            omega
                          have HGe : Hid (o.G gg (k + 1) (p, x, y) = false) := by
                            show _ = _
                            rw [G_new o gg k _ HEX.out, HG0.out, HNW.out]
                            rfl
                          clear hcnt hne hlq
                          go_wp2_with fail
                          go_roundw
                          case rel => exact ⟨k + 1, LN ++ o.newL gg k, by go_num, HRe, HMe, HX.out.1, HGe⟩
                          case measure =>
                            have := HX.out.2
                            simp only [intOf]
                            rw [show ((k : Int) + 1 + 1).toNat - 1 = k + 1 by omega, show ((k : Int) + 1).toNat - 1 = k by omega]
                            exact this
                  · have HNW : Hid (o.newF gg k (p, x, y) = true) := by rw [HNF.out]; exact rfl
                    have hmv2 : 0 ≤ mv := hmn.2 rfl
                    clear hmn
                    go_wp2_with fail
                    (try simp only [Exit.inBlock, Exit.then])
                    refine bodyPost_ret (results_tmp3 rfl _ _ _) rfl ?_
                    exact ⟨ret_eq (HMNV.out mv HMV.out HNW.out).symm, below_step HBW6.out HR1.out.below⟩
            · rw [hg0] at hlk
              have HG0 := hid hg0
              clear hg0
              go_wp2_with fail
              (try simp only [Exit.inBlock, Exit.then])
              refine bodyPost_ret (results_tmp3 rfl _ _ _) rfl ?_
              exact ⟨ret_eq (reachV_0 HV.out HF2.out HG0.out).symm, below_step HBW6.out HRr.out.below⟩
          
end Go.Proofs.YtjonbhimbhidpaaDoor
