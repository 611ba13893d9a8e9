/-
  Walks over chapter 6: the visitor of Reach; the reference's Below.
-/
import Derived.Test.YtjonbhimbhidpaaDoorWalkAG
namespace Go.Proofs.YtjonbhimbhidpaaDoor
open Go.RowKit
/-- the visitor of Reach: a cell that is safe, not near yet, and has a move -/
theorem move_nneg (o : Ov) (S : Sp → Bool) (c : Sp) : (0 ≤ o.move S c) ↔ o.canM S c = true := by
  have h := move_neg o S c
  constructor
  · intro h1
    cases e : o.canM S c
    · have := h.2 e; omega
    · rfl
  · intro h1
    by_cases h2 : o.move S c < 0
    · have := h.1 h2; rw [h1] at this; cases this
    · omega
set_option maxHeartbeats 4000000 in
set_option maxRecDepth 100000 in
theorem reach2_any (b ba bn bo bt ma mn : Nat) (vs vm vj : Value) (o : Ov) (c : Sp) (LA LN : List Sp) (v : Value) (xs : List Sp) (w0 w : World) (M : Nat) (hM : w0.heap.size = M)
    (hba : w0.cell? ⟨ba, 0, none⟩ = some (.map (some ma))) (hbn : w0.cell? ⟨bn, 0, none⟩ = some (.map (some mn))) (hbo : w0.cell? ⟨bo, 0, none⟩ = some (.pointer (some ⟨b, 0, none⟩))) (hbt : w0.cell? ⟨bt, 0, none⟩ = some (.func (.func 60) #[] #[.pointer (some ⟨bn, 0, none⟩)]))
    (ho : OvAt w0 b vs vm vj o) (hok : o.Ok) (hc : o.ex c = true) (hSA : SetW w0 ma LA) (hSN : SetW w0 mn LN) (hb : Below M w0 w) (hv : w.heap[M]? = some (.cells #[v] 114)) (hO : OwnS w (M + 1) 87 v xs) (hx : xs.length < 1000000) (hR : InR c) :
    Calls Tryd.prog 62 #[spv c, .pointer (some ⟨ba, 0, none⟩), .pointer (some ⟨bn, 0, none⟩), .pointer (some ⟨bo, 0, none⟩), .pointer (some ⟨bt, 0, none⟩), .pointer (some ⟨M, 0, none⟩)] w fun e w' => e = .returned (.tuple #[]) ∧ Below M w0 w' ∧
      ∃ v', w'.heap[M]? = some (.cells #[v'] 114) ∧ OwnS w' (M + 1) 87 v' (if (decide (c ∈ LA) && (!decide (c ∈ LN) && o.canM (fun d => decide (d ∈ LN)) c)) = true then xs ++ [c] else xs) ∧ Hid ((decide (c ∈ LA) && (!decide (c ∈ LN) && o.canM (fun d => decide (d ∈ LN)) c)) = false → v' = v) := by
  obtain ⟨p, x, y⟩ := c
  have hl := World.block_lt_of_cell? w0 _ hba
  have hl1 := World.block_lt_of_cell? w0 _ hbn
  have hl2 := World.block_lt_of_cell? w0 _ hbo
  have hl4 := World.block_lt_of_cell? w0 _ hbt
  have hl3 := setW_lt hSA
  have hl5 := setW_lt hSN
  have hsz := hb.size
  rw [hM] at hl hl1 hl2 hl3 hl4 hl5 hsz
  have ho' : ∀ X, Below M w0 X → OvAt X b vs vm vj o := fun X hX => ovAt_below ho (by rw [hM]; exact hX)
  have gi := (hb.cell (p := ⟨ba, 0, none⟩) hl).trans hba
  have gn := (hb.cell (p := ⟨bn, 0, none⟩) hl1).trans hbn
  have go' := (hb.cell (p := ⟨bo, 0, none⟩) hl2).trans hbo
  have gt := (hb.cell (p := ⟨bt, 0, none⟩) hl4).trans hbt
  have hMw : M < w.heap.size := (Array.getElem?_eq_some_iff.1 hv).1
  have gl : ba < w.heap.size := Nat.lt_of_lt_of_le hl hsz
  have gl1 : bn < w.heap.size := Nat.lt_of_lt_of_le hl1 hsz
  have gl2 : bo < w.heap.size := Nat.lt_of_lt_of_le hl2 hsz
  have gl3 : bt < w.heap.size := Nat.lt_of_lt_of_le hl4 hsz
  -- the world behind the box
  obtain ⟨W, hW⟩ : ∃ W, W = w.alloc (Obj.cells #[Value.int IntKind.i64 p, Value.int IntKind.i64 x, Value.int IntKind.i64 y] 87) := ⟨_, rfl⟩
  have hbW : Below M w0 W := by rw [hW]; exact hb.alloc hsz _
  have hlk := setW_look (setW_below hSA hbW hl3) hR
  have hlk2 := setW_look (setW_below hSN hbW hl5) hR
  have cm := hid (move_any b vs vm vj o (p, x, y) 60 #[.pointer (some ⟨bn, 0, none⟩)] _ W (ho' W hbW) hok hc (testC60 ((hbW.cell (p := ⟨bn, 0, none⟩) hl1).trans hbn) (setW_below hSN hbW hl5)))
  have gv := hid hv
  have HO := hid hO
  have HBW := hid hbW
  have HB := hid hb
  have hneg := move_nneg o (fun d => decide (d ∈ LN)) (p, x, y)
  unfold spv at hlk hlk2 cm ⊢
  simp only at hl hl1 hl2 hl4 hlk hlk2 cm ⊢
  rw [hW] at hlk hlk2
  generalize o.canM (fun d => decide (d ∈ LN)) (p, x, y) = t at *
  generalize o.move (fun d => decide (d ∈ LN)) (p, x, y) = r at *
  generalize decide ((p, x, y) ∈ LN) = un at *
  generalize decide ((p, x, y) ∈ LA) = u at *
  have HW := hid hW
  have gvW : Hid (W.heap[M]? = some (.cells #[v] 114)) := by rw [hW]; exact (Below.heap_alloc _ _ _ hMw).trans hv
  have HOW : Hid (OwnS W (M + 1) 87 v xs) := by rw [hW]; exact World.ownsRow.alloc hO _
  have boxW : Hid (W.heap[w.heap.size]? = some (.cells #[.int .i64 p, .int .i64 x, .int .i64 y] 87)) := by rw [hW]; exact heap_alloc_new _ _
  have hne : Hid (some M ≠ v.ownBlock) := fun e => by have := (ownS_lt hO M e.symm).1; omega
  have hWsz : W.heap.size = w.heap.size + 1 := by rw [hW]; simp
  clear hbW hSA hSN ho ho' hok hc hR hO hv hba hbn hbo hbt hb hW hM
  have FINI : Below M w0 (w.alloc (Obj.cells #[Value.int IntKind.i64 p, Value.int IntKind.i64 x, Value.int IntKind.i64 y] 87)) := by rw [← HW.out]; exact HBW.out
  have HFI := hid FINI
  clear FINI
  cases u
  · go_enter Tryd.func62, Tryd.ntmps62
    go_wp2
    go_end0
    refine ⟨rfl, HFI.out, v, ?_, ?_, (rfl : v = v)⟩
    · exact (Below.heap_alloc _ _ _ hMw).trans gv.out
    · exact World.ownsRow.alloc HO.out _
  · cases un
    · cases t
      · have hr : r < 0 := by
          by_cases h : 0 ≤ r
          · have := hneg.1 h; cases this
          · omega
        have hr2 : ¬ 0 ≤ r := by omega
        clear hneg
        go_enter Tryd.func62, Tryd.ntmps62
        go_wp2_with (first | (go_at_call 46; rw [← HW.out]; refine (cm.out).mono ?_; rintro e w2 ⟨rfl, hb2⟩; have g2 := (hb2.block M (by omega)).trans gvW.out; have G2 := hid g2; have HB2 := hid hb2; clear g2 hb2) | fail)
        go_end0
        refine ⟨rfl, HBW.out.trans (HB2.out.mono (by omega)), v, G2.out, ?_, (rfl : v = v)⟩
        exact ownS_below HOW.out HB2.out
      · have hr : 0 ≤ r := hneg.2 rfl
        clear hneg
        go_enter Tryd.func62, Tryd.ntmps62
        go_wp2_with (first
          | (go_at_call 46; rw [← HW.out]; refine (cm.out).mono ?_; rintro e w2 ⟨rfl, hb2⟩; have g2 := (hb2.block M (by omega)).trans gvW.out; have c2 := box1 g2; have f2 := box1_free g2; obtain ⟨k0, k1, k2⟩ := cells3_of ((hb2.block w.heap.size (by omega)).trans boxW.out); have h2sz := hb2.size; have hm2 : M < w2.heap.size := (by omega); have G2 := hid g2; have HO2 := hid (ownS_below HOW.out hb2); have HB2 := hid hb2; clear g2 hb2)
          | (at_builtin; refine wpl_app_sp (p, x, y) _ _ v (M + 1) xs (by rfl) (by rfl) (by rfl) (by rfl) HO2.out (by omega) (by omega) ?_; intro v' w3 hown3 happ3; obtain ⟨sa, sc, rfl⟩ := ownS_slice hown3; have g3 := (happ3.grown.block M (by simp; omega) hne.out).trans ((Below.heap_alloc _ _ _ hm2).trans G2.out); have c3 := box1 g3; have f3 := box1_free g3; have G3 := hid g3; have HO3 := hid hown3; have HA3 := hid happ3; clear g3 hown3 happ3)
          | fail)
        go_end0
        refine ⟨rfl, ?_, .slice sa (xs.length + 1) sc, heap_setCell1 G3.out, ?_, trivial⟩
        · have b2 : Below M w0 w2 := HBW.out.trans (HB2.out.mono (by omega))
          have b3 := (b2.alloc (by omega) (Obj.cells #[Value.int IntKind.i64 p, Value.int IntKind.i64 x, Value.int IntKind.i64 y] 87)).grown HA3.out.grown (by simp; omega) (fun k hk => Nat.le_of_lt (ownS_lt HO2.out k hk).1)
          exact b3.setCell (p := ⟨M, 0, none⟩) (Nat.le_refl _) _
        · exact ownS_setCell (by have := HO3.out; rwa [List.length_append] at this) (Nat.lt_succ_self M) _
    · go_enter Tryd.func62, Tryd.ntmps62
      go_wp2
      go_end0
      refine ⟨rfl, HFI.out, v, ?_, ?_, (rfl : v = v)⟩
      · exact (Below.heap_alloc _ _ _ hMw).trans gv.out
      · exact World.ownsRow.alloc HO.out _

/-! ### Below -/
def Ov.belF (o : Ov) (g : Grid) (k : Int) (c : Sp) : Int := if nearN (o.NN g c) < 0 ∨ k < nearN (o.NN g c) then 0 else 1
theorem bel_where (o : Ov) (g : Grid) (k : Nat) (c : Sp) (h : o.ex c = true) : o.whereS (o.listOf (o.belF g k)) 1 c = o.G g k c := by
  unfold Ov.whereS
  rw [listOf_pos o _ c h]
  unfold Ov.belF
  cases e : o.NN g c with
  | none =>
    rw [(NN_none o g c).1 e k]
    rw [if_pos (.inl (by show (-1000000 : Int) < 0; omega))]
    rfl
  | some j =>
    obtain ⟨h1, h2⟩ := (NN_some o g c j).1 e
    by_cases hj : j ≤ k
    · rw [G_le o g hj c h1, if_neg (by show ¬ ((j : Int) < 0 ∨ (k : Int) < (j : Int)); omega)]
      rfl
    · rw [h2 k (by omega), if_pos (.inr (by show (k : Int) < (j : Int); omega))]
      rfl
theorem grid_bel (o : Ov) (g : Grid) (k : Nat) : o.gridOf (o.whereS (o.listOf (o.belF g k)) 1) = o.gridOf (o.G g k) := gridOf_ext o _ _ fun c hc => bel_where o g k c hc
theorem nearNN_range {o : Ov} (h : o.Ok) (g : Grid) (c : Sp) : -1000000 ≤ nearN (o.NN g c) ∧ nearN (o.NN g c) ≤ 1024 := by
  cases e : o.NN g c with
  | none => show (-1000000 : Int) ≤ -1000000 ∧ (-1000000 : Int) ≤ 1024; omega
  | some j =>
    have := ((near_some o g o.N c j).1 e).1
    have := N_le h
    show (-1000000 : Int) ≤ (j : Int) ∧ (j : Int) ≤ 1024
    omega
set_option maxHeartbeats 4000000 in
set_option maxRecDepth 100000 in
theorem rBelow_any (vs vm vj u : Value) (o : Ov) (gg : Grid) (k : Nat) (hk : k ≤ 1024) (w : World) (ho : IsOv w vs vm vj o) (hok : o.Ok) (hu : IsInts w u (o.listOf fun c => nearN (o.NN gg c))) :
    Calls Tryd.prog 42 #[.agg #[vs, vm, vj], u, .int .i64 k] w fun e w' => ∃ v, e = .returned v ∧ OwnG w' w.heap.size v (o.gridOf (o.G gg k)) ∧ Below w.heap.size w w' := by
  have HO0 := hid ho
  have HOK := hid hok
  have HU := hid hu
  obtain ⟨ua, uc, rfl, _, _⟩ := id hu
  obtain ⟨N, hN⟩ : ∃ N, N = o.N := ⟨_, rfl⟩
  have hN2 := N_small hok
  rw [← hN] at hN2
  have HN := hid hN
  rw [listOf_len, ← hN] at HU ⊢
  have hbx := heap_alloc_new w (.cells #[vs, vm, vj] 26)
  have hbW : Below w.heap.size w (w.alloc (.cells #[vs, vm, vj] 26)) := (Below.refl _ _).alloc (Nat.le_refl _) _
  obtain ⟨X, hX⟩ : ∃ X, X = w.heap.size := ⟨_, rfl⟩
  obtain ⟨W, hW⟩ : ∃ W, W = (w.alloc (.cells #[vs, vm, vj] 26)) := ⟨_, rfl⟩
  have HXE := hid hX
  have HWE := hid hW
  rw [← hW] at hbW hbx
  rw [← hX] at hbx
  have HBW := hid hbW
  have HBX := hid hbx
  have KP : Hid (∀ w', Below W.heap.size W w' → w'.cell? ⟨X, 0, none⟩ = some vs ∧ w'.cell? ⟨X, 1, none⟩ = some vm ∧ w'.cell? ⟨X, 2, none⟩ = some vj) := fun w' hb => cells3_of ((hb.block X (heap_lt HBX.out)).trans HBX.out)
  have HUI : Hid (∀ w', Below W.heap.size W w' → IsInts w' (.slice ua N uc) (o.listOf fun c => nearN (o.NN gg c))) := fun w' hb => isInts_below HU.out (HBW.out.trans (hb.mono HBW.out.size))
  have HM : Hid (OwnI (W.alloc (.cells #[] 3)) W.heap.size (.slice (some ⟨W.heap.size, 0, none⟩) 0 0) []) := ownI_made W _ (Nat.le_refl _)
  have HM0 : Hid (Below W.heap.size W (W.alloc (.cells #[] 3))) := (Below.refl _ _).alloc (Nat.le_refl _) _
  have hk1 : (k : Int) ≤ 1024 := by omega
  clear hN hbW hX hW hbx ho hok hu
  go_enter Tryd.func42, Tryd.ntmps42
  go_upto_region 1 with fail
  rw [← HXE.out, ← HWE.out]
  go_wp2_with fail
  go_loopw [7, 8] (fun v iv wr => ∃ (i : Nat) (a : Option Addr) (n c : Nat), iv = .int .i64 i ∧ v = .slice a n c ∧ i ≤ N ∧ Hid (OwnI wr W.heap.size (.slice a n c) ((o.listOf (o.belF gg k)).take i)) ∧ Hid (Below W.heap.size W wr)) (fun _ iv _ => N - (intOf iv).toNat)
  case atStart => exact ⟨0, _, 0, 0, rfl, rfl, Nat.zero_le _, by rw [List.take_zero]; exact HM, HM0⟩
  case round =>
    obtain ⟨i, a, n, c, rfl, rfl, hi, HI, HB⟩ := hrel
    by_cases hlt : i < N
    · have hlo : i < o.N := by rw [← HN.out]; exact hlt
      obtain ⟨g2, rfl, e1⟩ := ints_at (HUI.out wr HB.out) i (by rw [listOf_len]; exact hlo)
      rw [listOf_getD o _ i hlo] at e1
      have HTK := hid (listOf_take o (o.belF gg k) i hlo)
      have hrg := nearNN_range HOK.out gg (o.cellAt i)
      have hln : ((o.listOf (o.belF gg k)).take i).length < 100000000 := by rw [List.length_take, listOf_len]; have := HN.out; omega
      have HLN := hid hln
      have hbf : o.belF gg k (o.cellAt i) = if nearN (o.NN gg (o.cellAt i)) < 0 ∨ (k : Int) < nearN (o.NN gg (o.cellAt i)) then 0 else 1 := rfl
      rw [hbf] at HTK
      clear hbf
      generalize nearN (o.NN gg (o.cellAt i)) = lv at *
      obtain ⟨hr0, hr1⟩ := hrg
      clear hlo hln
      by_cases hneg : lv < 0
      · have hd1 : decide (lv < 0) = true := decide_eq_true hneg
        rw [if_pos (.inl hneg)] at HTK
        go_wp2_with (first | (at_builtin; refine wpl_app_int 0 _ _ (.slice a n c) W.heap.size _ (by rfl) (by rfl) (by rfl) (by rfl) HI.out HLN.out HB.out.size ?_; intro v' w7 ho7 hb7 _; rw [← HTK.out] at ho7; obtain ⟨sa, sn, sc, rfl⟩ := ownI_slice ho7; have HO7 := hid ho7; have HB7 := hid (HB.out.trans hb7); clear ho7 hb7) | fail)
        go_roundw
        case rel => exact ⟨i + 1, _, _, _, by go_num, rfl, by omega, HO7, HB7⟩
        case measure => simp [intOf]; omega
      · have hd1 : decide (lv < 0) = false := decide_eq_false hneg
        by_cases hgt : (k : Int) < lv
        · have hd2 : decide ((k : Int) < lv) = true := decide_eq_true hgt
          rw [if_pos (.inr hgt)] at HTK
          go_wp2_with (first | (at_builtin; refine wpl_app_int 0 _ _ (.slice a n c) W.heap.size _ (by rfl) (by rfl) (by rfl) (by rfl) HI.out HLN.out HB.out.size ?_; intro v' w7 ho7 hb7 _; rw [← HTK.out] at ho7; obtain ⟨sa, sn, sc, rfl⟩ := ownI_slice ho7; have HO7 := hid ho7; have HB7 := hid (HB.out.trans hb7); clear ho7 hb7) | fail)
          go_roundw
          case rel => exact ⟨i + 1, _, _, _, by go_num, rfl, by omega, HO7, HB7⟩
          case measure => simp [intOf]; omega
        · have hd2 : decide ((k : Int) < lv) = false := decide_eq_false hgt
          rw [if_neg (by omega)] at HTK
          go_wp2_with (first | (at_builtin; refine wpl_app_int 1 _ _ (.slice a n c) W.heap.size _ (by rfl) (by rfl) (by rfl) (by rfl) HI.out HLN.out HB.out.size ?_; intro v' w7 ho7 hb7 _; rw [← HTK.out] at ho7; obtain ⟨sa, sn, sc, rfl⟩ := ownI_slice ho7; have HO7 := hid ho7; have HB7 := hid (HB.out.trans hb7); clear ho7 hb7) | fail)
          go_roundw
          case rel => exact ⟨i + 1, _, _, _, by go_num, rfl, by omega, HO7, HB7⟩
          case measure => simp [intOf]; omega
    · obtain rfl : N = i := by omega
      have hI : OwnI wr W.heap.size (.slice a n c) (o.listOf (o.belF gg k)) := by
        have := HI.out
        rwa [List.take_of_length_le (by rw [listOf_len, HN.out]; exact Nat.le_refl _)] at this
      have cw := hid (rWhere_any vs vm vj (.slice a n c) o (o.listOf (o.belF gg k)) 1 wr (isOv_below HO0.out (HBW.out.trans (HB.out.mono HBW.out.size))) HOK.out (ownI_ints hI (by rw [listOf_len, ← HN.out]; omega)) (listOf_len o _))
      rw [grid_bel o gg k] at cw
      obtain ⟨x0, x1, x2⟩ := KP.out wr HB.out
      clear hI
      go_wp2_with (first | (go_at_call 50; refine (cw.out).mono ?_; rintro e w6 ⟨v8, rfl, hg6, hb6⟩; have HG6 := hid hg6; have HB6 := hid (below_step HB.out hb6); clear hg6 hb6) | fail)
      go_ret
      exact ⟨_, rfl, ownG_mono HG6.out (Nat.le_trans HBW.out.size HB.out.size), HBW.out.trans (HB6.out.mono HBW.out.size)⟩
end Go.Proofs.YtjonbhimbhidpaaDoor
