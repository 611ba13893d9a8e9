/-
  The walk over chapter 1: balanced rhythms, in the program.
-/
import Derived.Test.YtpoekblolicehaaDoorWalkP
import Derived.Test.YtpoekblolicehaaDoorPlainK
import Derived.Laws.World
namespace Go.Proofs.YtpoekblolicehaaDoor
open Go.RowKit Go.Shelf

attribute [local go_sem] Oper.semAt_some

theorem trim_ab (s : ByteArray) (w : World) (hs : s.size ≤ 1000) :
    Calls Tryd.prog 66 #[.string s, .string ⟨#[97, 98]⟩] w fun e w' => e = .returned (.string ⟨(Lib.trimS s.data.toList [97, 98]).toArray⟩) ∧ Below w.heap.size w w' :=
  Tryd.strings_Trim_set s ⟨#[97, 98]⟩ w (by omega) (by decide) (ascii_of_all (by decide))
theorem ab_trim (l : Str) (h : l.all letter = true) : (Lib.trimS l [97, 98]).isEmpty = ab l := by
  rw [Bool.eq_iff_iff, List.isEmpty_iff, trimS_nil]
  unfold ab
  rw [List.all_eq_true, List.all_eq_true]
  rw [List.all_eq_true] at h
  refine forall_congr' fun c => forall_congr' fun hc => ?_
  have hl := h c hc
  unfold letter at hl
  have : ∀ d : UInt8, c = d ↔ c.toNat = d.toNat := fun d => UInt8.toNat_inj.symm
  simp only [List.contains_cons, List.contains_nil, Bool.or_false, Bool.or_eq_true, beq_iff_eq, Bool.and_eq_true, decide_eq_true_eq, this] at hl ⊢
  simp
  omega

theorem pxs_map (s : ByteArray) (m : Nat) : ∀ k, k ≤ s.size + 1 - m → (pxs s m k).map (·.1) = List.range k
  | 0, _ => rfl
  | k + 1, h => by rw [pxs_succ _ _ _ (by omega), List.map_append, pxs_map s m k (by omega), List.range_succ]; rfl
/-- the marks that loops over functions have left among the deferred calls: the youngest ahead -/
def Marks (B : Nat) : Nat → World → List Deferred → Prop
  | _, _, [] => True
  | T, W, d :: ds => ∃ D, d = { target := .collected D, args := #[] } ∧ B ≤ D ∧ D < T ∧ W.heap[D]? = some (.deferred (some [])) ∧ Marks B D W ds
theorem marks_below {B : Nat} : ∀ {T : Nat} {W W' : World} {ds : List Deferred}, Marks B T W ds → Below T W W' → Marks B T W' ds
  | _, _, _, [], _, _ => trivial
  | _, _, _, _ :: _, ⟨D, h1, h2, h3, h4, h5⟩, hb => ⟨D, h1, h2, h3, by rw [hb.block D h3]; exact h4, marks_below h5 (hb.mono (Nat.le_of_lt h3))⟩
theorem marks_mono {B : Nat} : ∀ {T T' : Nat} {W : World} {ds : List Deferred}, Marks B T W ds → T ≤ T' → Marks B T' W ds
  | _, _, _, [], _, _ => trivial
  | _, _, _, _ :: _, ⟨D, h1, h2, h3, h4, h5⟩, h => ⟨D, h1, h2, Nat.lt_of_lt_of_le h3 h, h4, h5⟩
theorem putObj_below (W : World) (D : Nat) (o : Obj) (h : D < W.heap.size) {B : Nat} (hB : B ≤ D) : Below B W (W.putObj D o) :=
  (Below.refl B W).grown (grownBy_putObj' W D o) (by omega) (fun k e => by cases e; exact hB)
theorem leaves_marks {F : Fence} {n : Nat} {fn : Func} {tmps : Array Value} {R : Ending → World → Prop} {B : Nat} : ∀ (ds : List Deferred) (T : Nat) (W : World), Marks B T W ds →
    (∀ W', Below B W W' → ∃ v, (results fn tmps).run Tryd.prog W' = .ok v W' ∧ R (.returned v) W') → LeavesInM F n Tryd.prog fn tmps R ds .returning W
  | [], _, W, _, h => h W (Below.refl _ _)
  | _ :: ds, _, W, ⟨D, h1, h2, h3, h4, h5⟩, h => by
    subst h1
    have hD := (Array.getElem?_eq_some_iff.1 h4).1
    refine ⟨by simp, .inl ⟨D, _, rfl, run_takeDeferred h4, ?_⟩⟩
    exact leaves_marks ds D _ (marks_below h5 (putObj_below W D _ hD (Nat.le_refl _))) fun W' hW' => h W' ((putObj_below W D _ hD h2).trans hW')

/-- what a round of the inner loop leaves -/
theorem bal_round {W w' : World} {S lo hi ct B : Nat} (hc1 : W.cell? ⟨S, 0, none⟩ = some (.int .i64 (lo : Int))) (hf1 : W.frozen? ⟨S, 0, none⟩ = false)
    (hc2 : W.cell? ⟨S + 1, 0, none⟩ = some (.int .i64 (hi : Int))) (hf2 : W.frozen? ⟨S + 1, 0, none⟩ = false) (hB : Below S w' W) {X : World}
    (hX : X = ((W.setCell ⟨S, 0, none⟩ (.int .i64 (min (lo : Int) (ct : Int)))).setCell ⟨S + 1, 0, none⟩ (.int .i64 (max (hi : Int) (ct : Int)))).drew) :
    KeepsFrom B W X ∧ Keep2 (S + 1 + 1 + 1) (S + 1 + 1) W X ∧ ((X.cell? ⟨S, 0, none⟩ = some (.int .i64 ((min lo ct : Nat) : Int)) ∧ X.frozen? ⟨S, 0, none⟩ = false) ∧ (X.cell? ⟨S + 1, 0, none⟩ = some (.int .i64 ((max hi ct : Nat) : Int)) ∧ X.frozen? ⟨S + 1, 0, none⟩ = false)) ∧ Below S w' X := by
  have e1 : ((min lo ct : Nat) : Int) = min (lo : Int) (ct : Int) := by omega
  have e2 : ((max hi ct : Nat) : Int) = max (hi : Int) (ct : Int) := by omega
  have hne : (⟨S + 1, 0, none⟩ : Addr) ≠ ⟨S, 0, none⟩ := fun h => by injection h with h; omega
  rw [e1, e2, hX]
  refine ⟨(((KeepsOthers.setCell _ _ _).trans (KeepsOthers.setCell _ _ _)).trans (KeepsOthers.drew _)).from _, keep2_t (keep2_set _ _ _ _ _ (by show S + 1 + 1 + 1 ≠ S; omega) (by show S + 1 + 1 ≠ S; omega)) (keep2_set _ _ _ _ _ (by show S + 1 + 1 + 1 ≠ S + 1; omega) (by show S + 1 + 1 ≠ S + 1; omega)), ⟨⟨?_, ?_⟩, ?_, ?_⟩, ?_⟩
  · show ((W.setCell _ _).setCell _ _).cell? _ = _
    rw [World.cell?_setCell_other _ _ _ _ hne]
    exact World.cell?_setCell_same _ _ _ hc1
  · show ((W.setCell _ _).setCell _ _).frozen? _ = _
    rw [World.frozen?_setCell, World.frozen?_setCell]; exact hf1
  · show ((W.setCell _ _).setCell _ _).cell? _ = _
    exact World.cell?_setCell_same _ _ _ ((World.cell?_setCell_other _ _ _ _ (fun h => hne h.symm)).trans hc2)
  · show ((W.setCell _ _).setCell _ _).frozen? _ = _
    rw [World.frozen?_setCell, World.frozen?_setCell]; exact hf2
  · exact ((hB.setCell (p := ⟨S, 0, none⟩) (Nat.le_refl _) _).setCell (p := ⟨S + 1, 0, none⟩) (Nat.le_succ _) _).drew
theorem alloc4 (w : World) (a b c d : Obj) : ((((w.alloc a).alloc b).alloc c).alloc d).heap.size = w.heap.size + 4 ∧ Below w.heap.size w ((((w.alloc a).alloc b).alloc c).alloc d) ∧
    ((((w.alloc a).alloc b).alloc c).alloc d).heap[w.heap.size]? = some a ∧ ((((w.alloc a).alloc b).alloc c).alloc d).heap[w.heap.size + 1]? = some b ∧ ((((w.alloc a).alloc b).alloc c).alloc d).heap[w.heap.size + 2]? = some c ∧ ((((w.alloc a).alloc b).alloc c).alloc d).heap[w.heap.size + 3]? = some d := by
  have s1 : (w.alloc a).heap.size = w.heap.size + 1 := by simp
  have s2 : ((w.alloc a).alloc b).heap.size = w.heap.size + 2 := by simp
  have s3 : (((w.alloc a).alloc b).alloc c).heap.size = w.heap.size + 3 := by simp
  have s4 : ((((w.alloc a).alloc b).alloc c).alloc d).heap.size = w.heap.size + 4 := by simp
  refine ⟨s4, ((((Below.refl _ _).alloc (Nat.le_refl _) _).alloc (by omega) _).alloc (by omega) _).alloc (by omega) _, ?_, ?_, ?_, ?_⟩
  · rw [Below.heap_alloc _ _ _ (by omega), Below.heap_alloc _ _ _ (by omega), Below.heap_alloc _ _ _ (by omega)]
    exact World.alloc_heap_new w a
  · rw [Below.heap_alloc _ _ _ (by omega), Below.heap_alloc _ _ _ (by omega), ← s1]
    exact World.alloc_heap_new (w.alloc a) b
  · rw [Below.heap_alloc _ _ _ (by omega), ← s2]
    exact World.alloc_heap_new ((w.alloc a).alloc b) c
  · rw [← s3]
    exact World.alloc_heap_new (((w.alloc a).alloc b).alloc c) d

set_option maxHeartbeats 2000000 in
set_option maxRecDepth 100000 in
theorem balanced_ok (s : ByteArray) (w : World) (hs : s.size ≤ 1000) (hc : chk s.data.toList = 0) :
    Calls Tryd.prog 52 #[.string s] w fun e w' => e = .returned (.tuple #[.bool (balanced s.data.toList), .int .i64 0]) ∧ Below w.heap.size w w' := by
  have hck := check_any s w hs
  rw [hc] at hck
  have hab := ab_trim s.data.toList (chk_ok hc).2.2
  have ct := hid (fun w => trim_ab s w hs)
  obtain ⟨R, hR⟩ : ∃ R, R = balanced s.data.toList := ⟨_, rfl⟩
  rw [← hR]
  have HR := hid hR
  have HAB := hid hab
  clear hR hc hab
  generalize Lib.trimS s.data.toList [97, 98] = tr at *
  refine (callsIn_wide (n := 6)).1 ?_
  refine callsIn_of_wp_marks Tryd.func52 rfl trivial ?_ rfl
  simp only [Tryd.ntmps52, List.size_toArray, List.length_cons, List.length_nil, Nat.reduceAdd, Nat.reduceSub, Array.replicate_succ, Array.replicate_zero, List.push_toArray, List.append_toArray, List.nil_append, List.cons_append]
  gi_wp2
  refine ⟨trivial, (callsIn_wide.2 hck).mono ?_⟩
  rintro e w1 ⟨rfl, hb1⟩
  have Hb1 := hid hb1
  clear hb1
  gi_wp2
  refine ⟨trivial, (callsIn_wide.2 (ct.out _)).mono ?_⟩
  rintro e w2 ⟨rfl, hb2⟩
  have Hb2 := hid (Hb1.out.trans (hb2.mono Hb1.out.size))
  clear hb2 Hb1 hck
  cases tr with
  | cons c tr =>
    have he : ((⟨(c :: tr).toArray⟩ : ByteArray).toList == []) = false := by rw [toList_data]; rfl
    have hR0 : R = false := by
      rw [HR.out]; unfold balanced; rw [← HAB.out]; rfl
    gi_wp2
    refine leaves_marks (B := w.heap.size) [] 0 _ trivial fun W' hW' => ⟨_, results_tmp2 rfl _ _ _, ?_⟩
    rw [hR0]
    exact ⟨rfl, Hb2.out.trans hW'⟩
  | nil =>
    have he : ((⟨([] : List UInt8).toArray⟩ : ByteArray).toList == []) = true := by rw [toList_data]; rfl
    gi_wp2
    refine wpIn_loop (fun a' w' => ∃ (k : Nat) (ds : List Deferred) (u6 u7 u9 u10 u19 u20 u21 u22 u23 u24 u25 u26 u27 u28 u29 u30 u31 u32 u33 u34 u35 u36 u37 u38 u39 u40 u41 u42 : Value), k ≤ s.size ∧ Hid (∀ j, j < k → evenAt s.data.toList (j + 1) = true) ∧ Hid (Below w.heap.size w w') ∧ Hid (Marks w.heap.size w'.heap.size w' ds) ∧ a' = { tmps := #[.string s, undef, .bool false, .int .i64 0, .int .i64 0, .int .i64 ((k : Int) + 1), u6, u7, undef, u9, u10, .string s, .int .i64 0, .int .i64 0, .bool false, undef, .string s, .string ⟨#[]⟩, .bool false, u19, u20, u21, u22, u23, u24, u25, u26, u27, u28, u29, u30, u31, u32, u33, u34, u35, u36, u37, u38, u39, u40, u41, u42], defers := ds }) (fun a' _ => s.size + 1 - (intOf (a'.tmps.getD 5 undef)).toNat) ?_ ?_
    · exact ⟨0, [], undef, undef, undef, undef, undef, undef, undef, undef, undef, undef, undef, undef, undef, undef, undef, undef, undef, undef, undef, undef, undef, undef, undef, undef, undef, undef, undef, undef, Nat.zero_le _, fun j hj => absurd hj (by omega), Hb2.out, trivial, rfl⟩
    · rintro a' w' ⟨k, ds, u6, u7, u9, u10, u19, u20, u21, u22, u23, u24, u25, u26, u27, u28, u29, u30, u31, u32, u33, u34, u35, u36, u37, u38, u39, u40, u41, u42, hk, HE, HB, HM, rfl⟩
      have hbz := HB.out.size
      by_cases hlt : k < s.size
      · have i1 : (k : Int) + 1 ≤ s.size := by omega
        gi_wp2
        refine ⟨trivial, (parts_in Fence.wide 5 trivial rfl s _ _).mono ?_⟩
        rintro e w3 ⟨rfl, rfl⟩
        gi_wp2
        obtain ⟨S, hS⟩ : ∃ S, S = w'.heap.size := ⟨_, rfl⟩
        rw [← hS]
        have HS := hid hS
        obtain ⟨W0, hW0⟩ : ∃ W0, W0 = ((((w'.alloc (Obj.cells #[Value.int IntKind.i64 ((k : Int) + 1)] 3)).alloc (Obj.cells #[Value.int IntKind.i64 0] 3)).alloc (Obj.cells #[Value.string s] 9)).alloc (Obj.cells #[Value.int IntKind.i64 ((k : Int) + 1)] 3)) := ⟨_, rfl⟩
        rw [← hW0]
        obtain ⟨z0, bel0, blk⟩ := alloc4 w' (Obj.cells #[Value.int IntKind.i64 ((k : Int) + 1)] 3) (Obj.cells #[Value.int IntKind.i64 0] 3) (Obj.cells #[Value.string s] 9) (Obj.cells #[Value.int IntKind.i64 ((k : Int) + 1)] 3)
        rw [← hW0, ← hS] at z0 bel0 blk
        clear hS
        have HW0 := hid hW0
        clear hW0
        have cellb : ∀ g v t, W0.heap[g]? = some (.cells #[v] t (0, 0)) → W0.cell? ⟨g, 0, none⟩ = some v ∧ W0.frozen? ⟨g, 0, none⟩ = false := by
          intro g v t h
          constructor
          · rw [cell_of_row _ _ 0 _ _ _ h]; rfl
          · simp [World.frozen?, h]
        have cL := cellb _ _ _ blk.1
        have cH := cellb _ _ _ blk.2.1
        have cS := cellb _ _ _ blk.2.2.1
        have cN := cellb _ _ _ blk.2.2.2
        refine wpIn_rangeFunc_ownG rfl (by decide) (gf := 69) (lb := #[.pointer (some ⟨S + 1 + 1 + 1, 0, none⟩), .pointer (some ⟨S + 1 + 1, 0, none⟩)]) rfl trivial (enters_of Tryd.func69 (by kernel_rfl) rfl)
          (parts_stops Fence.wide 5 trivial rfl (by decide) (S + 1 + 1 + 1) (S + 1 + 1) s (k + 1) hs (by omega) W0 (by omega) (by omega) cN.1 cS.1) keep2_t (keep2_b (by omega) (by omega)) (Below.refl _ _) (fun _ => rfl)
          (fun pre W => ((W.cell? ⟨S, 0, none⟩ = some (.int .i64 (lowL s.data.toList (k + 1) (pre.map (·.1)) : Nat)) ∧ W.frozen? ⟨S, 0, none⟩ = false) ∧ (W.cell? ⟨S + 1, 0, none⟩ = some (.int .i64 (highL s.data.toList (k + 1) (pre.map (·.1)) : Nat)) ∧ W.frozen? ⟨S + 1, 0, none⟩ = false)) ∧ Below S w' W)
          (fun _ _ _ => False)
          (OwnFrom.and (Own.from (fun s A B row hs hg hr => ⟨⟨cell_kept hs.1.1 hg hr, (frozen_kept hs.1.1 hg hr).trans hs.1.2⟩, ⟨cell_kept hs.2.1 hg hr, (frozen_kept hs.2.1 hg hr).trans hs.2.2⟩⟩) _) (ownFrom_below (by rw [HS.out]; exact Nat.le_refl _) (by omega)))
          (fun _ _ _ _ _ hs _ _ => hs)
          ⟨⟨⟨cL.1, cL.2⟩, ⟨cH.1, cH.2⟩⟩, bel0⟩
          (fun x => { tmps := #[.string s, undef, .bool false, .int .i64 0, .int .i64 0, .int .i64 ((k : Int) + 1), .pointer (some ⟨S, 0, none⟩), .pointer (some ⟨S + 1, 0, none⟩), undef, .string (s.extract x.1 (x.1 + (k + 1))), u10, .string s, .int .i64 0, .int .i64 0, .bool false, undef, .string s, .string ⟨#[]⟩, .bool false, .int .i64 ((k : Int) + 1), .string s, .int .i64 s.size, .bool true, u23, u24, .int .i64 ((k : Int) + 1), .string s, .int .i64 ((k : Int) + 1), .func (.func 69) #[] #[.pointer (some ⟨S + 1 + 1 + 1, 0, none⟩), .pointer (some ⟨S + 1 + 1, 0, none⟩)], .int .i64 (x.1 : Int), .string (s.extract x.1 (x.1 + (k + 1))), u31, u32, u33, u34, u35, u36, u37, u38, u39, u40, u41, u42], defers := [] }) ?assign ?body ?done ?stop
        case assign =>
          intro l x W K hK
          gi_wp2
          exact hK
        case body =>
          rintro l pre x W ⟨⟨⟨hc1, hf1⟩, ⟨hc2, hf2⟩⟩, hB⟩ _
          have hcb : Lib.countByte (s.extract x.1 (x.1 + (k + 1))).data.toList 98 = cb s.data.toList (k + 1) x.1 := by rw [part_eq]; rfl
          have cC := hid (fun W => Tryd.strings_Count_one (s.extract x.1 (x.1 + (k + 1))) 98 W)
          rw [hcb] at cC
          clear hcb
          have hl1 := lowL_le s.data.toList (k + 1) (pre.map (·.1))
          have hh1 := highL_le s.data.toList (k + 1) (pre.map (·.1))
          have hcl := cb_le s.data.toList (k + 1) x.1
          generalize hlo : lowL s.data.toList (k + 1) (pre.map (·.1)) = lo at *
          generalize hhi : highL s.data.toList (k + 1) (pre.map (·.1)) = hi at *
          generalize hct : cb s.data.toList (k + 1) x.1 = ct at *
          have HLO := hid hlo
          have HHI := hid hhi
          have HCT := hid hct
          clear hlo hhi hct
          gi_wp2
          refine ⟨trivial, (CallsIn.inRound l (callsIn_wide.2 (cC.out _))).mono ?_⟩
          rintro e W1 ⟨rfl, rfl⟩
          gi_wp2
          first | gi_region | gi_region_o | gi_region_both
          all_goals gi_wp2
          all_goals
            obtain ⟨k1, k2, ⟨⟨k3, k4⟩, k5, k6⟩, k7⟩ := bal_round (B := W0.heap.size) hc1 hf1 hc2 hf2 hB (ct := ct) rfl
            refine ⟨k1, k2, ⟨⟨?_, k4⟩, ?_, k6⟩, k7⟩
            · rw [List.map_append, List.map_cons, List.map_nil, lowL_snoc, HLO.out, HCT.out]; exact k3
            · rw [List.map_append, List.map_cons, List.map_nil, highL_snoc, HHI.out, HCT.out]; exact k5
        case done =>
          rintro D ys W hD rfl ⟨⟨⟨hc1, hf1⟩, ⟨hc2, hf2⟩⟩, hB⟩ hK
          rw [pxs_map _ _ _ (by omega)] at hc1 hc2
          have hev : evenAt s.data.toList (k + 1) = decide (highL s.data.toList (k + 1) (List.range (s.size + 1 - (k + 1))) ≤ lowL s.data.toList (k + 1) (List.range (s.size + 1 - (k + 1))) + 1) := rfl
          have hl1 := lowL_le s.data.toList (k + 1) (List.range (s.size + 1 - (k + 1)))
          have hh1 := highL_le s.data.toList (k + 1) (List.range (s.size + 1 - (k + 1)))
          generalize lowL s.data.toList (k + 1) (List.range (s.size + 1 - (k + 1))) = lo at *
          generalize highL s.data.toList (k + 1) (List.range (s.size + 1 - (k + 1))) = hi at *
          have HEV := hid hev
          have HK := hid hK
          have HBB := hid hB
          clear hev hK hB
          have hDW : D < W.heap.size := (Array.getElem?_eq_some_iff.1 HK.out).1
          have hM2 : Hid (Marks w.heap.size W.heap.size W ({ target := .collected D, args := #[] } :: ds)) := by
            have hSS := HS.out
            exact ⟨D, rfl, by omega, hDW, HK.out, marks_mono (marks_below HM.out (by rw [← hSS]; exact HBB.out)) (by omega)⟩
          have hend := hid (HB.out.trans (HBB.out.mono (by rw [HS.out]; exact hbz)))
          have hwr : IntKind.i64.wrap ((hi : Int) - (lo : Int)) = (hi : Int) - lo := IntWalk.i64_in _ (by omega)
          by_cases hle : hi ≤ lo + 1
          · have hd : decide ((hi : Int) - lo > 1) = false := by simp; omega
            have hd2 : ¬ (1 : Int) < (hi : Int) - lo := by omega
            gi_wp2
            refine ⟨⟨k + 1, by omega, fun j hj => ?_, by omega⟩, ?_⟩
            · by_cases hjk : j < k
              · exact HE.out j hjk
              · obtain rfl : j = k := by omega
                rw [HEV.out]; exact decide_eq_true hle
            · simp [intOf]; omega
          · have hd : decide ((hi : Int) - lo > 1) = true := by simp; omega
            have hd2 : (1 : Int) < (hi : Int) - lo := by omega
            gi_wp2
            refine leaves_marks (B := w.heap.size) _ _ _ hM2.out fun W' hW' => ⟨_, results_tmp2 rfl _ _ _, ?_⟩
            have hR1 : R = false := by
              rw [HR.out]; unfold balanced
              rw [balTo_no _ k _ (by rw [data_size]; exact hlt) (by rw [HEV.out]; exact decide_eq_false hle), Bool.and_false]
            rw [hR1]
            exact ⟨rfl, hend.out.trans hW'⟩
        case stop =>
          rintro D c pre W _ _ h _
          exact h.elim
      · have i1 : ¬ (k : Int) + 1 ≤ s.size := by omega
        gi_wp2
        refine leaves_marks (B := w.heap.size) _ _ _ HM.out fun W' hW' => ⟨_, results_tmp2 rfl _ _ _, ?_⟩
        have hR1 : R = true := by
          rw [HR.out]; unfold balanced; rw [← HAB.out, balTo_yes _ _ (fun j hj => HE.out j (by rw [data_size] at hj; omega))]; rfl
        rw [hR1]
        exact ⟨rfl, HB.out.trans hW'⟩
end Go.Proofs.YtpoekblolicehaaDoor
