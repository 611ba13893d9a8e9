/-
  The walk over chapter 1: different squares, in the program.
-/
import Derived.Test.YtpoekblolicehaaDoorWalkQ
import Derived.Test.YtpoekblolicehaaDoorPlainO
import Derived.Maps.OwnIn
import Derived.Test.YtpoekblolicehaaDoorRoundQ
namespace Go.Proofs.YtpoekblolicehaaDoor
open Go.RowKit Go.Shelf

attribute [local go_sem] Oper.semAt_some

/-- the block b is a set of strings -/
def SetM (W : World) (b n : Nat) (xs : List Str) : Prop := W.ownsMap (H := Unit) Tryd.prog 9 (plainElem Tryd.prog 4) b n (setD xs)
theorem setM_made (W : World) : SetM (W.alloc (.map #[] 0)) W.heap.size 0 [] := World.ownsMap_made W Tryd.prog 9 _
theorem setM_kept {W W' : World} {b n : Nat} {xs : List Str} {row : Option Nat} (h : SetM W b n xs) (hg : W.grownBy W' row) (hr : some b ≠ row) : SetM W' b n xs := World.ownsMap.kept h hg hr
theorem setM_below {W W' : World} {b n B : Nat} {xs : List Str} (h : SetM W b n xs) (hb : Below B W W') (hB : b < B) : SetM W' b n xs := by
  obtain ⟨es, clock, hh, F, hs, hD⟩ := h
  exact ⟨es, clock, (hb.block b hB).trans hh, F, hs, hD⟩
theorem grown_trans {A B C : World} {row : Option Nat} (h : A.grownBy B row) (k : B.grownBy C row) : A.grownBy C row :=
  ⟨k.os.trans h.os, k.tape.trans h.tape, k.output.trans h.output, Nat.le_trans h.size k.size, fun i hi hr => (k.block i (Nat.lt_of_lt_of_le hi h.size) hr).trans (h.block i hi hr)⟩
theorem grown_refl (A : World) (row : Option Nat) : A.grownBy A row := ⟨rfl, rfl, rfl, Nat.le_refl _, fun _ _ _ => rfl⟩
theorem grown_below {A B : World} {row : Option Nat} (h : Below A.heap.size A B) : A.grownBy B row := ⟨h.os, h.tape, h.output, h.size, fun i hi _ => h.block i hi⟩
theorem ownFrom_grown {β : Type} {B M : Nat} {w₀ : World} (hB : w₀.heap.size ≤ B) : OwnFrom B (fun (_ : β) W => w₀.grownBy W (some M)) :=
  fun _ X Y row hs hg hr => ⟨hg.os.trans hs.os, hg.tape.trans hs.tape, hg.output.trans hs.output, Nat.le_trans hs.size hg.size, fun i hi hM => by
    refine (hg.block i (Nat.lt_of_lt_of_le hi hs.size) (fun e => ?_)).trans (hs.block i hi hM)
    have := (hr i e.symm).1
    omega⟩
theorem marks_grown {B M : Nat} : ∀ {T : Nat} {W W' : World} {ds : List Deferred}, Marks B T W ds → W.grownBy W' (some M) → T ≤ W.heap.size → M < B → Marks B T W' ds
  | _, _, _, [], _, _, _, _ => trivial
  | _, _, _, _ :: _, ⟨D, h1, h2, h3, h4, h5⟩, hg, hT, hM => ⟨D, h1, h2, h3, by rw [hg.block D (by omega) (fun e => by injection e; omega)]; exact h4, marks_grown h5 hg (by omega) hM⟩
theorem marks_less {B B' : Nat} : ∀ {T : Nat} {W : World} {ds : List Deferred}, Marks B T W ds → B' ≤ B → Marks B' T W ds
  | _, _, [], _, _ => trivial
  | _, _, _ :: _, ⟨D, h1, h2, h3, h4, h5⟩, hB => ⟨D, h1, by omega, h3, h4, marks_less h5 hB⟩
theorem cell_of_box {W : World} {g : Nat} {v : Value} {t : TypeId} (h : W.heap[g]? = some (.cells #[v] t (0, 0))) : W.cell? ⟨g, 0, none⟩ = some v ∧ W.frozen? ⟨g, 0, none⟩ = false := by
  constructor
  · rw [cell_of_row _ _ 0 _ _ _ h]; rfl
  · simp [World.frozen?, h]
theorem alloc2 (w : World) (a b : Obj) : ((w.alloc a).alloc b).heap.size = w.heap.size + 2 ∧ Below w.heap.size w ((w.alloc a).alloc b) ∧ ((w.alloc a).alloc b).heap[w.heap.size]? = some a ∧ ((w.alloc a).alloc b).heap[w.heap.size + 1]? = some b := by
  have s1 : (w.alloc a).heap.size = w.heap.size + 1 := by simp
  refine ⟨by simp, ((Below.refl _ _).alloc (Nat.le_refl _) _).alloc (by omega) _, ?_, ?_⟩
  · rw [Below.heap_alloc _ _ _ (by omega)]
    exact World.alloc_heap_new w a
  · rw [← s1]
    exact World.alloc_heap_new (w.alloc a) b
/-- the number in a box -/
def boxInt (v : Value) (w : World) : Int := match v with | .pointer (some p) => intOf ((w.cell? p).getD undef) | _ => 0
theorem boxInt_ptr {w : World} {g : Nat} {z : Int} (h : w.cell? ⟨g, 0, none⟩ = some (.int .i64 z)) : boxInt (.pointer (some ⟨g, 0, none⟩)) w = z := by
  show intOf ((w.cell? ⟨g, 0, none⟩).getD undef) = z
  rw [h]; rfl
/-- the squares at some positions -/
def sqL (l : Str) (h : Nat) (ps : List Nat) : List Str := (ps.filter (isSq l h)).map fun i => part l i (i + 2 * h)
theorem sqL_yes (l : Str) (h i : Nat) (ps : List Nat) (hs : isSq l h i = true) : sqL l h (ps ++ [i]) = sqL l h ps ++ [part l i (i + 2 * h)] := by simp [sqL, hs]
theorem sqL_no (l : Str) (h i : Nat) (ps : List Nat) (hs : isSq l h i = false) : sqL l h (ps ++ [i]) = sqL l h ps := by simp [sqL, hs]
theorem squares_at (l : Str) (k : Nat) (hk : k ≤ l.length) (h : l.length < 2 * (k + 1)) : (dif (sqTo l k)).length = squares l := by
  refine dif_len _ _ fun y => ?_
  rw [mem_sqTo, mem_sqTo]
  constructor
  · rintro ⟨a, i, h1, h2, h3⟩; exact ⟨a, i, h1, by omega, h3⟩
  · rintro ⟨a, i, h1, h2, h3, h4⟩; exact ⟨a, i, h1, by omega, h3, h4⟩
theorem sq_test (s : ByteArray) (h i : Nat) (hi : i + 2 * h ≤ s.size) : (((s.extract i (i + 2 * h)).extract 0 h).toList == ((s.extract i (i + 2 * h)).extract h (s.extract i (i + 2 * h)).size).toList) = isSq s.data.toList h i := by
  have e0 : (s.extract i (i + 2 * h)).size = 2 * h := by rw [extract_size _ _ _ hi]; omega
  rw [e0, toList_data, toList_data]
  unfold isSq part
  have e : ∀ a b, ((s.extract i (i + 2 * h)).extract a b).data.toList = (((s.data.toList.drop i).take (i + 2 * h - i)).drop a).take (b - a) := by
    intro a b
    rw [Lib.extract_data, Lib.extract_data]
  rw [e, e]
  congr 1
  · rw [List.drop_zero, List.take_take]; congr 1; omega
  · rw [List.drop_take, List.drop_drop, List.take_take]; congr 1; omega

set_option maxHeartbeats 2000000 in
set_option maxRecDepth 100000 in
theorem squares_ok (s : ByteArray) (w : World) (hs : s.size ≤ 1000) (hc : chk s.data.toList = 0) :
    Calls Tryd.prog 46 #[.string s] w fun e w' => e = .returned (.tuple #[.int .i64 (squares s.data.toList), .int .i64 0]) ∧ Below w.heap.size w w' := by
  have hck := check_any s w hs
  rw [hc] at hck
  have hmm := @run_makeMap Tryd.prog
  obtain ⟨R, hR⟩ : ∃ R, R = squares s.data.toList := ⟨_, rfl⟩
  rw [← hR]
  have HR := hid hR
  clear hR hc
  refine (callsIn_wide (n := 6)).1 ?_
  refine callsIn_of_wp_marks Tryd.func46 rfl trivial ?_ rfl
  simp only [Tryd.ntmps46, List.size_toArray, List.length_cons, List.length_nil, Nat.reduceAdd, Nat.reduceSub, Array.replicate_succ, Array.replicate_zero, List.push_toArray, List.append_toArray, List.nil_append, List.cons_append]
  gi_wp2
  refine ⟨trivial, (callsIn_wide.2 hck).mono ?_⟩
  rintro e w1 ⟨rfl, hb1⟩
  have Hb1 := hid hb1
  clear hb1 hck
  gi_wp2
  obtain ⟨M, hM⟩ : ∃ M, M = w1.heap.size := ⟨_, rfl⟩
  obtain ⟨wa, hwa⟩ : ∃ wa, wa = w1.alloc (.map #[] 0) := ⟨_, rfl⟩
  obtain ⟨w2, hw2⟩ : ∃ w2, w2 = (((w1.alloc (.map #[] 0)).alloc (.cells #[.map (some w1.heap.size)] 76)).alloc (.cells #[.int .i64 1] 3)) := ⟨_, rfl⟩
  have hS0 := setM_made w1
  have hb2 : Below w1.heap.size w1 wa := by rw [hwa]; exact (Below.refl _ _).alloc (Nat.le_refl _) _
  rw [← hwa] at hS0
  obtain ⟨z2, bel2, blkM, blkG⟩ := alloc2 wa (.cells #[.map (some w1.heap.size)] 76) (.cells #[.int .i64 1] 3)
  have za : wa.heap.size = w1.heap.size + 1 := by rw [hwa]; simp
  rw [← hw2, ← hM]
  rw [hwa, ← hw2, ← hwa] at z2 bel2 blkM blkG
  rw [za, ← hM] at z2 blkM blkG
  have HS0 := hid (setM_below hS0 bel2 (by omega))
  rw [← hM] at HS0
  have HB2 := hid (Hb1.out.trans ((hb2.trans (bel2.mono (by omega))).mono (by exact Hb1.out.size)))
  have HM1 : Hid (w.heap.size ≤ M) := by rw [hM]; exact Hb1.out.size
  have HBM := hid blkM
  have HBG := hid blkG
  have HZ2 := hid z2
  clear hw2 hwa hM hS0 hb2 bel2 blkM blkG za Hb1 z2
  refine wpIn_loop (fun a' w' => ∃ (k n G : Nat) (ds : List Deferred) (u15 u16 u17 u18 u19 u20 u21 u22 u23 u24 u25 u26 u27 u28 u29 u30 u31 u32 u33 u34 u35 u36 u37 u38 u39 : Value), k ≤ s.size ∧ Hid (n ≤ k * s.size) ∧ M + 1 < G ∧ Hid (SetM w' M n (sqTo s.data.toList k)) ∧ Hid (w'.heap[M + 1]? = some (.cells #[.map (some M)] 76 (0, 0))) ∧ Hid (w'.heap[G]? = some (.cells #[.int .i64 ((k : Int) + 1)] 3 (0, 0))) ∧ Hid (Below w.heap.size w w') ∧ Hid (Marks (M + 2) w'.heap.size w' ds) ∧ a' = { tmps := #[.string s, undef, .int .i64 0, .int .i64 0, .int .i64 0, .pointer (some ⟨M + 1, 0, none⟩), .pointer (some ⟨G, 0, none⟩), undef, undef, .string s, .int .i64 0, .int .i64 0, .bool false, undef, .map (some M), u15, u16, u17, u18, u19, u20, u21, u22, u23, u24, u25, u26, u27, u28, u29, u30, u31, u32, u33, u34, u35, u36, u37, u38, u39], defers := ds }) (fun a' w' => s.size + 1 - (boxInt (a'.tmps.getD 6 undef) w').toNat) ?_ ?_
  · exact ⟨0, 0, M + 1 + 1, [], undef, undef, undef, undef, undef, undef, undef, undef, undef, undef, undef, undef, undef, undef, undef, undef, undef, undef, undef, undef, undef, undef, undef, undef, undef, Nat.zero_le _, Nat.zero_le _, by omega, HS0.out, HBM.out, HBG.out, HB2.out, trivial, rfl⟩
  · rintro a' w' ⟨k, n, G, ds, u15, u16, u17, u18, u19, u20, u21, u22, u23, u24, u25, u26, u27, u28, u29, u30, u31, u32, u33, u34, u35, u36, u37, u38, u39, hk, HN, hMG, HS, HBM1, HBG1, HB, HM, rfl⟩
    clear HS0 HBM HBG HB2
    have hcM := cell_of_box HBM1.out
    have hcG := cell_of_box HBG1.out
    have hGl := (Array.getElem?_eq_some_iff.1 HBG1.out).1
    by_cases hlt : 2 * (k + 1) ≤ s.size
    · have i1 : (2 : Int) * ((k : Int) + 1) ≤ s.size := by omega
      gi_wp2
      refine ⟨trivial, (parts_in Fence.wide 5 trivial rfl s _ _).mono ?_⟩
      rintro e w3 ⟨rfl, rfl⟩
      gi_wp2
      obtain ⟨S, hS⟩ : ∃ S, S = w'.heap.size := ⟨_, rfl⟩
      obtain ⟨W0, hW0⟩ : ∃ W0, W0 = ((w'.alloc (Obj.cells #[Value.string s] 9)).alloc (Obj.cells #[Value.int IntKind.i64 (2 * ((k : Int) + 1))] 3)) := ⟨_, rfl⟩
      obtain ⟨z0, bel0, blkS, blkN⟩ := alloc2 w' (Obj.cells #[Value.string s] 9) (Obj.cells #[Value.int IntKind.i64 (2 * ((k : Int) + 1))] 3)
      rw [← hW0, ← hS]
      rw [← hW0, ← hS] at z0 bel0 blkS blkN
      rw [← hS] at hGl
      have hMz := HM.out
      rw [← hS] at hMz
      have HSS := hid hS
      have HW0 := hid hW0
      clear hW0 hS
      have cS := cell_of_box blkS
      have cN := (cell_of_box blkN).1
      rw [show (2 : Int) * ((k : Int) + 1) = ((2 * (k + 1) : Nat) : Int) by omega] at cN
      have HS1 := hid (setM_below HS.out bel0 (by omega))
      have gM1 := (bel0.block (M + 1) (by omega)).trans HBM1.out
      have gG1 := (bel0.block G hGl).trans HBG1.out
      refine wpIn_rangeFunc_ownG rfl (by decide) (gf := 69) (lb := #[.pointer (some ⟨S + 1, 0, none⟩), .pointer (some ⟨S, 0, none⟩)]) rfl trivial (enters_of Tryd.func69 (by kernel_rfl) rfl)
        (parts_stops Fence.wide 5 trivial rfl (by decide) (S + 1) S s (2 * (k + 1)) hs (by omega) W0 (by omega) (by omega) cN cS.1) keep2_t (keep2_b (by omega) (by omega)) (Below.refl _ _) (fun _ => rfl)
        (fun pre W => SetM W M (n + pre.length) (sqTo s.data.toList k ++ sqL s.data.toList (k + 1) (pre.map (·.1))) ∧ W0.grownBy W (some M))
        (fun _ _ _ => False)
        (OwnFrom.and (fun s A B row hs hg hr => setM_kept hs hg (fun e => by have := (hr _ e.symm).1; omega)) (ownFrom_grown (Nat.le_refl _)))
        (fun _ _ _ _ _ hs _ _ => hs)
        ⟨by rw [List.map_nil]; show SetM W0 M _ (_ ++ []); rw [List.append_nil]; exact HS1.out, grown_refl _ _⟩
        (fun x => { tmps := #[.string s, undef, .int .i64 0, .int .i64 0, .int .i64 0, .pointer (some ⟨M + 1, 0, none⟩), .pointer (some ⟨G, 0, none⟩), undef, .string (s.extract x.1 (x.1 + 2 * (k + 1))), .string s, .int .i64 0, .int .i64 0, .bool false, undef, .map (some M), .int .i64 ((k : Int) + 1), .int .i64 (2 * ((k : Int) + 1)), .string s, .int .i64 s.size, .bool true, u20, u21, .string s, .int .i64 ((k : Int) + 1), .int .i64 (2 * ((k : Int) + 1)), .func (.func 69) #[] #[.pointer (some ⟨S + 1, 0, none⟩), .pointer (some ⟨S, 0, none⟩)], .int .i64 (x.1 : Int), .string (s.extract x.1 (x.1 + 2 * (k + 1))), u28, u29, u30, u31, u32, u33, u34, u35, u36, u37, u38, u39], defers := [] }) ?assign ?body ?done ?stop
      case assign =>
        intro l x W K hK
        gi_wp2
        exact hK
      case body =>
        rintro l pre x W ⟨hSW, hGW⟩ hpl
        have cM2 := (cell_of_box ((hGW.block (M + 1) (by omega) (by intro e; injection e; omega)).trans gM1)).1
        have cG2 := (cell_of_box ((hGW.block G (by omega) (by intro e; injection e; omega)).trans gG1)).1
        have hx := x.2
        have hzt := sq_test s (k + 1) x.1 hx
        have hzs : (s.extract x.1 (x.1 + 2 * (k + 1))).size = 2 * (k + 1) := by rw [extract_size _ _ _ hx]; omega
        have hzp : (s.extract x.1 (x.1 + 2 * (k + 1))).data.toList = part s.data.toList x.1 (x.1 + 2 * (k + 1)) := part_eq _ _ _
        generalize s.extract x.1 (x.1 + 2 * (k + 1)) = z at *
        have HZP := hid hzp
        have HSW := hid hSW
        have HGW := hid hGW
        clear hzp hSW hGW
        have i2 : ((k : Int) + 1) ≤ z.size := by omega
        have i3 : ((k : Int) + 1).toNat = k + 1 := by omega
        have hkn : n ≤ 1000000 := Nat.le_trans HN.out (Nat.mul_le_mul (show k ≤ 1000 by omega) hs)
        have hkey : keyOf Tryd.prog 9 (.string z) = some (skey z.data.toList) := WideMaps.keyOf_string_mk Tryd.underlying9 (by unfold maxLen; omega)
        have HZS := hid hzs
        have HKEY := hid hkey
        clear hzs hkey
        cases hq : isSq s.data.toList (k + 1) x.1
        · rw [hq] at hzt
          have HQ := hid hq
          clear hq
          gi_wp2
          refine wpIn_region_quiet_round (by kernel_rfl) (by kernel_rfl) ?_
          repeat (gi_big_quiet_step (fail))
          refine wpQuietIn_nil ?_
          intro _ hw'
          obtain ⟨nq, hw''⟩ := hw'
          subst hw''
          gi_wp2
          refine ⟨KeepsFrom.of_grownBy (row := none) (grown_below (below_drewN' _ _ _)) (fun j e => by cases e), ⟨rfl, rfl⟩, ?_, grown_trans HGW.out (grown_below (below_drewN' _ _ _))⟩
          rw [List.map_append, List.map_cons, List.map_nil, sqL_no _ _ _ _ HQ.out, List.length_append]
          exact World.ownsMap.mono HSW.out (by simp)
        · rw [hq] at hzt
          have HQ := hid hq
          clear hq
          gi_wp2
          refine wpIn_region_quiet_round (by kernel_rfl) (by kernel_rfl) ?_
          repeat (gi_big_quiet_step (fail))
          refine wpQuietIn_nil ?_
          intro _ hw'
          obtain ⟨nq, hw''⟩ := hw'
          subst hw''
          have hSW := HSW.out
          have HSW2 : (W.drewN nq).ownsMap (H := Unit) Tryd.prog 9 (plainElem Tryd.prog 4) M (n + pre.length) (setD (sqTo s.data.toList k ++ sqL s.data.toList (k + 1) (pre.map (·.1)))) := hSW
          clear hSW
          gi_wp2_with (gi_at_mapUpdate; refine wpListIn_mapUpdate_own _ rfl _ _ _ 76 rfl 9 4 (Maps.string_keyed Tryd.underlying9) Tryd.underlying76 _ M (n + pre.length) _ rfl HSW2 (by unfold maxLen; omega) _ _ (skey z.data.toList) rfl rfl HKEY.out _ [] (plainElem_bool Tryd.underlying4 true) ?_; intro w1 hown1 hgrow1)
          refine ⟨KeepsFrom.of_grownBy (grown_trans (grown_below (below_drewN' _ _ nq)) hgrow1) (fun j e => by cases e; omega), ⟨(hgrow1.block _ (by show S + 1 < W.heap.size; have := HGW.out.size; omega) (by intro e; injection e; omega)).trans rfl, (hgrow1.block _ (by show S < W.heap.size; have := HGW.out.size; omega) (by intro e; injection e; omega)).trans rfl⟩, ?_, grown_trans (grown_trans HGW.out (grown_below (below_drewN' _ _ nq))) hgrow1⟩
          rw [List.map_append, List.map_cons, List.map_nil, sqL_yes _ _ _ _ HQ.out, List.length_append, ← List.append_assoc]
          show World.ownsMap _ _ _ _ _ _ (setD _)
          rw [setD_snoc, ← HZP.out]
          exact hown1
      case done =>
        rintro D ys W hD rfl ⟨hSW, hGW⟩ hK
        have hpm : (pxs s (2 * (k + 1)) (s.size + 1 - 2 * (k + 1))).map (·.1) = List.range (s.size + 1 - 2 * (k + 1)) := pxs_map _ _ _ (Nat.le_refl _)
        have hpl := pxs_length s (2 * (k + 1)) (s.size + 1 - 2 * (k + 1))
        rw [hpm] at hSW
        generalize (pxs s (2 * (k + 1)) (s.size + 1 - 2 * (k + 1))).length = q at *
        have hsq : sqTo s.data.toList k ++ sqL s.data.toList (k + 1) (List.range (s.size + 1 - 2 * (k + 1))) = sqTo s.data.toList (k + 1) := by
          rw [sqTo_succ, data_size]; rfl
        rw [hsq] at hSW
        have cM2 := (cell_of_box ((hGW.block (M + 1) (by omega) (by intro e; injection e; omega)).trans gM1)).1
        have cG2 := (cell_of_box ((hGW.block G (by omega) (by intro e; injection e; omega)).trans gG1)).1
        have hWz := hGW.size
        have HSW := hid hSW
        have HGW := hid hGW
        have HK := hid hK
        have HQL : Hid (q ≤ s.size + 1 - 2 * (k + 1)) := hid hpl
        clear hSW hGW hK hsq hpm hpl
        obtain ⟨T, hT⟩ : ∃ T, T = W.heap.size := ⟨_, rfl⟩
        have HT := hid hT
        clear hT
        gi_wp2
        have hG2 := World.alloc_heap_new W (.cells #[.int .i64 ((k : Int) + 1 + 1)] 3)
        have hMT : M + 1 < W.heap.size := by omega
        have hal := Below.alloc (Below.refl W.heap.size W) (Nat.le_refl _) (.cells #[.int .i64 ((k : Int) + 1 + 1)] 3)
        have gg := HGW.out
        refine ⟨⟨k + 1, n + q, W.heap.size, { target := .collected D, args := #[] } :: ds, _, _, _, _, _, _, _, _, _, _, _, _, _, _, _, _, _, _, _, _, _, _, _, _, _, by omega, ?_, hMT, ?_, ?_, ?_, ?_, ?_, rfl⟩, ?_⟩
        · have e : (k + 1) * s.size = k * s.size + s.size := Nat.succ_mul _ _
          have := HN.out; have := HQL.out
          show n + q ≤ (k + 1) * s.size
          omega
        · exact World.ownsMap.alloc HSW.out _
        · exact (hal.block _ hMT).trans ((gg.block (M + 1) (by omega) (by intro e; injection e; omega)).trans gM1)
        · rw [show ((k + 1 : Nat) : Int) + 1 = (k : Int) + 1 + 1 by omega]; exact hG2
        · have hb := HB.out.trans (bel0.mono (by rw [HSS.out]; exact HB.out.size))
          exact (hb.grown gg hb.size (fun j e => by cases e; exact HM1.out)).trans (hal.mono (by have := hb.size; omega))
        · have hDl := (Array.getElem?_eq_some_iff.1 HK.out).1
          refine ⟨D, rfl, by omega, by simp; omega, (hal.block D hDl).trans HK.out, marks_mono (T := S) ?_ (by omega)⟩
          exact marks_below (marks_grown (marks_below hMz bel0) gg (by omega) (by omega)) (hal.mono (by omega))
        · show s.size + 1 - (boxInt (.pointer (some ⟨W.heap.size, 0, none⟩)) (W.alloc _)).toNat < s.size + 1 - (boxInt (.pointer (some ⟨G, 0, none⟩)) w').toNat
          rw [boxInt_ptr (cell_of_box hG2).1, boxInt_ptr hcG.1]
          omega
      case stop =>
        rintro D c pre W _ _ h _
        exact h.elim
    · have i1 : ¬ (2 : Int) * ((k : Int) + 1) ≤ s.size := by omega
      have hsz : Maps.size (setD (H := Unit) (sqTo s.data.toList k)) = R := by
        rw [HR.out, size_setD, squares_at _ _ (by rw [data_size]; omega) (by rw [data_size]; omega)]
      have HSZ := hid hsz
      have hown : w'.ownsMap (H := Unit) Tryd.prog 9 (plainElem Tryd.prog 4) M n (setD (sqTo s.data.toList k)) := HS.out
      clear hsz
      gi_wp2_with (gi_at_len; refine wpListIn_len_own _ rfl (.tmp 38) 76 (by rfl) 9 4 Tryd.underlying76 _ M n _ (by rfl) hown ?_; rw [HSZ.out])
      refine leaves_marks (B := M + 2) _ _ _ HM.out fun W' hW' => ⟨_, results_tmp2 rfl _ _ _, ?_⟩
      exact ⟨rfl, HB.out.trans (hW'.mono (by have := HM1.out; omega))⟩
end Go.Proofs.YtpoekblolicehaaDoor
