/-
  The walk over chapter 1: the numbers of different parts, in the program.
-/
import Derived.Test.YtpoekblolicehaaDoorWalkS
namespace Go.Proofs.YtpoekblolicehaaDoor
open Go.RowKit Go.Shelf

attribute [local go_sem] Oper.semAt_some

/-- marks stay where a row of cells, or nothing that was there, turns -/
theorem marks_row {B : Nat} {row : Option Nat} : ∀ {T : Nat} {W W' : World} {ds : List Deferred}, Marks B T W ds → W.grownBy W' row → T ≤ W.heap.size → (∀ g, row = some g → ∃ o, W.heap[g]? = some o ∧ o.isCells = true) → Marks B T W' ds
  | _, _, _, [], _, _, _, _ => trivial
  | _, _, _, _ :: _, ⟨D, h1, h2, h3, h4, h5⟩, hg, hT, hr => ⟨D, h1, h2, h3, by
      rw [hg.block D (by omega) (fun e => by
        obtain ⟨o, ho, hc⟩ := hr D e.symm
        rw [h4] at ho
        injection ho with ho
        rw [← ho] at hc
        cases hc)]
      exact h4, marks_row h5 hg (by omega) hr⟩
theorem own_cells {w : World} {B : Nat} {e : TypeId} {v : Value} {xs : List Value} (h : Own w B e v xs) : ∀ g, v.ownBlock = some g → ∃ o, w.heap[g]? = some o ∧ o.isCells = true := by
  intro g hg
  obtain ⟨h1, ⟨rfl, _⟩ | ⟨g', cap, cur, rfl, hB, hh, _⟩⟩ := h
  · cases hg
  · injection hg with hg
    subst hg
    exact ⟨_, hh, rfl⟩
/-- append of one int inside a fence -/
theorem wplIn_app_int {F : Fence} {n : Nat} {ops : Array Oper} {rest : List Oper} {o : Oper} {a : Act} {Q : Exit → Act → World → Prop} {W : World} {z : Int}
    (s x : Operand) (v : Value) (B : Nat) (xs : List Int)
    (hgd : o.guard = none) (ho : o.op = .call { callee := .builtin .append, args := #[s, x], argTypes := #[23, 23] })
    (hs : a.eval s = v) (hx : a.eval x = .slice (some ⟨W.heap.size, 0, none⟩) 1 1)
    (hown : Own W B 3 v (ints xs)) (hlen : xs.length < 1099511627776) (hB : B ≤ W.heap.size)
    (h : ∀ v' w', Own w' B 3 v' (ints (xs ++ [z])) → (W.alloc (.cells #[.int .i64 z] 3)).grownBy w' v.ownBlock → wpListIn F n Tryd.prog ops Q rest (a.put o.dst v') w') :
    wpListIn F n Tryd.prog ops Q (o :: rest) a (W.alloc (.cells #[.int .i64 z] 3)) := by
  obtain ⟨i0, hi, hz0, hz1, hz2⟩ := info_parts info3
  refine wpListIn_append_own _ hgd s x 23 ho B 3 i0 (.int .i64 0) 1 8 Tryd.underlying23 hi hz0 hz1 hz2 rfl (by decide) v (ints xs).length (ints xs) hs (World.ownsRow.alloc hown _)
    ⟨W.heap.size, 0, none⟩ 1 1 [.int .i64 z] hx rfl (cell_one_new _ _ _) (by simp [Value.oneCell']) (by rw [ints_length]; unfold maxLen; omega) (by rw [ints_length]; omega) (by simp; omega) ?_
  intro v' w' hown' hg _
  refine h v' w' ?_ hg
  unfold Own
  rw [ints_append, List.length_append]
  exact hown'
theorem leaves_marks2 {F : Fence} {n : Nat} {fn : Func} {tmps : Array Value} {R : Ending → World → Prop} {B : Nat} : ∀ (ds : List Deferred) (T : Nat) (W : World), Marks B T W ds →
    (∀ W', Below B W W' → (∀ (g : Nat) (o : Obj), W.heap[g]? = some o → o.isCells = true → W'.heap[g]? = some o) → ∃ v, (results fn tmps).run Tryd.prog W' = .ok v W' ∧ R (.returned v) W') → LeavesInM F n Tryd.prog fn tmps R ds .returning W
  | [], _, W, _, h => h W (Below.refl _ _) (fun _ _ h _ => h)
  | _ :: ds, _, W, ⟨D, h1, h2, h3, h4, h5⟩, h => by
    subst h1
    have hD := (Array.getElem?_eq_some_iff.1 h4).1
    refine ⟨by simp, .inl ⟨D, _, rfl, run_takeDeferred h4, ?_⟩⟩
    refine leaves_marks2 ds D _ (marks_below h5 (putObj_below W D _ hD (Nat.le_refl _))) fun W' hW' hc => h W' ((putObj_below W D _ hD h2).trans hW') (fun g o hg ho => hc g o ?_ ho)
    refine ((grownBy_putObj' W D (.deferred none)).block g (Array.getElem?_eq_some_iff.1 hg).1 (fun e => ?_)).trans hg
    injection e with e
    subst e
    rw [h4] at hg
    injection hg with hg
    subst hg
    cases ho
/-- the parts from some positions -/
def partL (l : Str) (m : Nat) (ps : List Nat) : List Str := ps.map fun i => part l i (i + m)

set_option maxHeartbeats 2000000 in
set_option maxRecDepth 100000 in
theorem parts_ok (s : ByteArray) (w : World) (hs : s.size ≤ 1000) (hc : chk s.data.toList = 0) :
    Calls Tryd.prog 49 #[.string s] w fun e w' => ∃ v, e = .returned (.tuple #[v, .int .i64 0]) ∧ Own w' w.heap.size 3 v (ints (partsL s.data.toList)) ∧ Below w.heap.size w w' := by
  have hck := check_any s w hs
  rw [hc] at hck
  have hmm := @run_makeMap Tryd.prog
  obtain ⟨R, hR⟩ : ∃ R, R = partsL s.data.toList := ⟨_, rfl⟩
  rw [← hR]
  have HR := hid hR
  clear hR hc
  refine (callsIn_wide (n := 6)).1 ?_
  refine callsIn_of_wp_marks Tryd.func49 rfl trivial ?_ rfl
  simp only [Tryd.ntmps49, List.size_toArray, List.length_cons, List.length_nil, Nat.reduceAdd, Nat.reduceSub, Array.replicate_succ, Array.replicate_zero, List.push_toArray, List.append_toArray, List.nil_append, List.cons_append]
  gi_wp2
  refine ⟨trivial, (callsIn_wide.2 hck).mono ?_⟩
  rintro e w1 ⟨rfl, hb1⟩
  have Hb1 := hid hb1
  clear hb1 hck
  gi_wp2
  refine wpIn_loop (fun a' w' => ∃ (k : Nat) (ds : List Deferred) (v u7 u15 u16 u17 u18 u19 u20 u21 u22 u23 u24 u25 u26 u27 u28 u29 u30 u31 u32 u33 u34 : Value), k ≤ s.size ∧ Hid (Own w' w.heap.size 3 v (ints (partsTo s.data.toList k))) ∧ Hid (Below w.heap.size w w') ∧ Hid (Marks w.heap.size w'.heap.size w' ds) ∧ a' = { tmps := #[.string s, undef, .slice none 0 0, .int .i64 0, .int .i64 0, v, .int .i64 ((k : Int) + 1), u7, undef, undef, .string s, .int .i64 0, .int .i64 0, .bool false, undef, u15, u16, u17, u18, u19, u20, u21, u22, u23, u24, u25, u26, u27, u28, u29, u30, u31, u32, u33, u34], defers := ds }) (fun a' _ => s.size + 1 - (intOf (a'.tmps.getD 6 undef)).toNat) ?_ ?_
  · exact ⟨0, [], .slice none 0 0, undef, undef, undef, undef, undef, undef, undef, undef, undef, undef, undef, undef, undef, undef, undef, undef, undef, undef, undef, undef, undef, Nat.zero_le _, own_nil _ _ _, Hb1.out, trivial, rfl⟩
  · rintro a' w' ⟨k, ds, v, u7, u15, u16, u17, u18, u19, u20, u21, u22, u23, u24, u25, u26, u27, u28, u29, u30, u31, u32, u33, u34, hk, HO, HB, HM, rfl⟩
    have hbz := HB.out.size
    by_cases hlt : k < s.size
    · have i1 : (k : Int) + 1 ≤ s.size := by omega
      gi_wp2
      refine ⟨trivial, (parts_in Fence.wide 5 trivial rfl s _ _).mono ?_⟩
      rintro e w3 ⟨rfl, rfl⟩
      gi_wp2
      obtain ⟨M, hM⟩ : ∃ M, M = w'.heap.size := ⟨_, rfl⟩
      have hS0 := setM_made w'
      rw [← hM]
      rw [← hM] at hS0
      obtain ⟨W0, hW0⟩ : ∃ W0, W0 = ((((w'.alloc (Obj.map #[] 0)).alloc (Obj.cells #[Value.map (some M)] 76)).alloc (Obj.cells #[Value.string s] 9)).alloc (Obj.cells #[Value.int IntKind.i64 ((k : Int) + 1)] 3)) := ⟨_, rfl⟩
      rw [← hW0]
      obtain ⟨z0, bel0, blk0, blkM, blkS, blkN⟩ := alloc4 w' (Obj.map #[] 0) (Obj.cells #[Value.map (some M)] 76) (Obj.cells #[Value.string s] 9) (Obj.cells #[Value.int IntKind.i64 ((k : Int) + 1)] 3)
      rw [← hW0, ← hM] at z0 bel0 blk0 blkM blkS blkN
      have HS1 : Hid (SetM W0 M 0 []) := by
        rw [hW0]
        exact hid (World.ownsMap.alloc (World.ownsMap.alloc (World.ownsMap.alloc hS0 _) _) _)
      rw [← hM] at hbz
      have HMM : Hid (Marks w.heap.size M w' ds) := by rw [hM]; exact HM
      have HSM := hid hM
      have HW0 := hid hW0
      clear hW0 hM hS0
      have cS := cell_of_box blkS
      have cN := (cell_of_box blkN).1
      rw [show ((k : Int) + 1) = ((k + 1 : Nat) : Int) by omega] at cN
      refine wpIn_rangeFunc_ownG rfl (by decide) (gf := 69) (lb := #[.pointer (some ⟨M + 1 + 1 + 1, 0, none⟩), .pointer (some ⟨M + 1 + 1, 0, none⟩)]) rfl trivial (enters_of Tryd.func69 (by kernel_rfl) rfl)
        (parts_stops Fence.wide 5 trivial rfl (by decide) (M + 1 + 1 + 1) (M + 1 + 1) s (k + 1) hs (by omega) W0 (by omega) (by omega) cN cS.1) keep2_t (keep2_b (by omega) (by omega)) (Below.refl _ _) (fun _ => rfl)
        (fun pre W => SetM W M pre.length (partL s.data.toList (k + 1) (pre.map (·.1))) ∧ W0.grownBy W (some M))
        (fun _ _ _ => False)
        (OwnFrom.and (fun s A B row hs hg hr => setM_kept hs hg (fun e => by have := (hr _ e.symm).1; omega)) (ownFrom_grown (Nat.le_refl _)))
        (fun _ _ _ _ _ hs _ _ => hs)
        ⟨HS1.out, grown_refl _ _⟩
        (fun x => { tmps := #[.string s, undef, .slice none 0 0, .int .i64 0, .int .i64 0, v, .int .i64 ((k : Int) + 1), .pointer (some ⟨M + 1, 0, none⟩), undef, .string (s.extract x.1 (x.1 + (k + 1))), .string s, .int .i64 0, .int .i64 0, .bool false, undef, .int .i64 ((k : Int) + 1), .string s, .int .i64 s.size, .bool true, u19, u20, .map (some M), .string s, .int .i64 ((k : Int) + 1), .func (.func 69) #[] #[.pointer (some ⟨M + 1 + 1 + 1, 0, none⟩), .pointer (some ⟨M + 1 + 1, 0, none⟩)], .int .i64 (x.1 : Int), .string (s.extract x.1 (x.1 + (k + 1))), u27, u28, u29, u30, u31, u32, u33, u34], defers := [] }) ?assign ?body ?done ?stop
      case assign =>
        intro l x W K hK
        gi_wp2
        exact hK
      case body =>
        rintro l pre x W ⟨hSW, hGW⟩ hpl
        have cM2 := (cell_of_box ((hGW.block (M + 1) (by omega) (by intro e; injection e; omega)).trans blkM)).1
        have hx := x.2
        have hzs : (s.extract x.1 (x.1 + (k + 1))).size = k + 1 := by rw [extract_size _ _ _ hx]; omega
        have hzp : (s.extract x.1 (x.1 + (k + 1))).data.toList = part s.data.toList x.1 (x.1 + (k + 1)) := part_eq _ _ _
        generalize s.extract x.1 (x.1 + (k + 1)) = z at *
        have hkey : keyOf Tryd.prog 9 (.string z) = some (skey z.data.toList) := WideMaps.keyOf_string_mk Tryd.underlying9 (by unfold maxLen; omega)
        have HZP := hid hzp
        have HGW := hid hGW
        have HKEY := hid hkey
        clear hzp hGW hkey
        have HSW2 : W.ownsMap (H := Unit) Tryd.prog 9 (plainElem Tryd.prog 4) M pre.length (setD (partL s.data.toList (k + 1) (pre.map (·.1)))) := hSW
        clear hSW
        gi_wp2_with (gi_at_mapUpdate; refine wpListIn_mapUpdate_own _ rfl _ _ _ 76 rfl 9 4 (Maps.string_keyed Tryd.underlying9) Tryd.underlying76 _ M pre.length _ rfl HSW2 (by unfold maxLen; omega) _ _ (skey z.data.toList) rfl rfl HKEY.out _ [] (plainElem_bool Tryd.underlying4 true) ?_; intro w1 hown1 hgrow1)
        refine ⟨KeepsFrom.of_grownBy hgrow1 (fun j e => by cases e; omega), ⟨hgrow1.block _ (by have := HGW.out.size; omega) (by intro e; injection e; omega), hgrow1.block _ (by have := HGW.out.size; omega) (by intro e; injection e; omega)⟩, ?_, grown_trans HGW.out hgrow1⟩
        rw [List.map_append, List.map_cons, List.map_nil, List.length_append]
        show World.ownsMap _ _ _ _ _ _ (setD (partL _ _ (_ ++ [_])))
        unfold partL
        rw [List.map_append, List.map_cons, List.map_nil, setD_snoc, ← HZP.out]
        exact hown1
      case done =>
        rintro D ys W hD rfl ⟨hSW, hGW⟩ hK
        have hpm : (pxs s (k + 1) (s.size + 1 - (k + 1))).map (·.1) = List.range (s.size + 1 - (k + 1)) := pxs_map _ _ _ (Nat.le_refl _)
        rw [hpm] at hSW
        have hsz : Maps.size (setD (H := Unit) (partL s.data.toList (k + 1) (List.range (s.size + 1 - (k + 1))))) = (dif (allP s.data.toList (k + 1) (s.size + 1 - (k + 1)))).length := size_setD _
        have hpt : partsTo s.data.toList (k + 1) = partsTo s.data.toList k ++ [((dif (allP s.data.toList (k + 1) (s.size + 1 - (k + 1)))).length : Int)] := by rw [partsTo_succ, data_size]
        have cM2 := (cell_of_box ((hGW.block (M + 1) (by omega) (by intro e; injection e; omega)).trans blkM)).1
        have hWz := hGW.size
        generalize (dif (allP s.data.toList (k + 1) (s.size + 1 - (k + 1)))).length = q at *
        generalize (pxs s (k + 1) (s.size + 1 - (k + 1))).length = qq at *
        have hown : W.ownsMap (H := Unit) Tryd.prog 9 (plainElem Tryd.prog 4) M qq (setD (partL s.data.toList (k + 1) (List.range (s.size + 1 - (k + 1))))) := hSW
        have HOW : Hid (Own W w.heap.size 3 v (ints (partsTo s.data.toList k))) := by
          have h1 := own_below HO.out (by rw [← HSM.out]; exact bel0)
          have hlt2 := own_ge HO.out
          refine hid (World.ownsRow.kept h1 hGW ?_)
          cases hv : v.ownBlock with
          | none => exact .inl rfl
          | some j => exact .inr fun e => by injection e with e; have := (hlt2 j hv).2; rw [← HSM.out] at this; omega
        have HGW := hid hGW
        have HK := hid hK
        have HSZ := hid hsz
        have HPT := hid hpt
        have hpl := partsTo_length s.data.toList k
        have HPL := hid hpl
        clear hSW hGW hK hsz hpm hpl hpt
        gi_wp2_with (first | (gi_at_len; refine wpListIn_len_own _ rfl (.tmp 30) 76 (by rfl) 9 4 Tryd.underlying76 _ M qq _ (by rfl) hown ?_; rw [HSZ.out]) | (gi_at_builtin; refine wplIn_app_int (.tmp 29) (.tmp 32) v w.heap.size (partsTo s.data.toList k) (by rfl) (by rfl) (by rfl) (by rfl) HOW.out (by rw [HPL.out]; omega) (by omega) ?_; intro v' w4 hown4 hgrow4; have HO4 := hid hown4; have HG4 := hid hgrow4; clear hown4 hgrow4))
        have hD1 := (Array.getElem?_eq_some_iff.1 HK.out).1
        have hal := Below.alloc (Below.refl W.heap.size W) (Nat.le_refl _) (.cells #[.int .i64 (q : Int)] 3)
        have gg := HGW.out
        have bWM : Below M W0 W := (Below.refl M W0).grown gg (by omega) (fun j e => by cases e; exact Nat.le_refl _)
        have hbW : Below w.heap.size w W := (HB.out.trans (bel0.mono hbz)).trans (bWM.mono hbz)
        refine ⟨⟨k + 1, { target := .collected D, args := #[] } :: ds, v', _, _, _, _, _, _, _, _, _, _, _, _, _, _, _, _, _, _, _, _, _, by omega, ?_, ?_, ?_, rfl⟩, ?_⟩
        · rw [HPT.out]; exact HO4
        · exact (hbW.trans (hal.mono hbW.size)).grown HG4.out (by simp; have := hbW.size; omega) (fun j e => (own_ge HOW.out j e).1)
        · have hm1 : Marks w.heap.size W.heap.size (W.alloc (.cells #[.int .i64 (q : Int)] 3)) ({ target := .collected D, args := #[] } :: ds) :=
            ⟨D, rfl, by omega, hD1, (hal.block D hD1).trans HK.out, marks_mono (T := M) (marks_below (marks_below (marks_below HMM.out bel0) bWM) (hal.mono (by omega))) (by omega)⟩
          refine marks_mono (marks_row hm1 HG4.out (by simp) (fun j e => ?_)) (by have := HG4.out.size; simp at this; omega)
          obtain ⟨o, ho, hc⟩ := own_cells HOW.out j e
          exact ⟨o, (hal.block j (own_ge HOW.out j e).2).trans ho, hc⟩
        · simp [intOf]; omega
      case stop =>
        rintro D c pre W _ _ h _
        exact h.elim
    · have i1 : ¬ (k : Int) + 1 ≤ s.size := by omega
      gi_wp2
      refine leaves_marks2 (B := w.heap.size) _ _ _ HM.out fun W' hW' hc => ⟨_, results_tmp2 rfl _ _ _, ?_⟩
      obtain rfl : k = s.size := by omega
      refine ⟨_, rfl, ?_, HB.out.trans hW'⟩
      have hO := HO.out
      rw [HR.out]
      unfold partsL
      rw [data_size]
      obtain ⟨h1, h2⟩ := hO
      refine ⟨h1, h2.imp_right ?_⟩
      rintro ⟨g, cap, cur, rfl, hB, hh, r⟩
      exact ⟨g, cap, cur, rfl, hB, hc g _ hh rfl, r⟩
end Go.Proofs.YtpoekblolicehaaDoor
