/-
  Walks over chapter 6: what a round of the kernel does at a cell.
-/
import Derived.Test.YtjonbhimbhidpaaDoorWalkE
import Derived.Test.YtjonbhimbhidpaaDoorBaseC
namespace Go.Proofs.YtjonbhimbhidpaaDoor
open Go.RowKit

theorem box1_free {W : World} {g : Nat} {v : Value} {t : TypeId} (h : W.heap[g]? = some (.cells #[v] t)) : W.frozen? ⟨g, 0, none⟩ = false := by simp [World.frozen?, h]
theorem heap_setCell1 {W : World} {g : Nat} {v u : Value} {t : TypeId} (h : W.heap[g]? = some (.cells #[v] t)) : (W.setCell ⟨g, 0, none⟩ u).heap[g]? = some (.cells #[u] t) := by
  simp [World.setCell, Array.getElem?_modify, h]

theorem ownS_setCell {w : World} {B M : Nat} {e : TypeId} {v : Value} {xs : List Sp} (h : OwnS w B e v xs) (hM : M < B) (u : Value) : OwnS (w.setCell ⟨M, 0, none⟩ u) B e v xs := by
  obtain ⟨h1, h2⟩ := h
  refine ⟨h1, h2.imp_right ?_⟩
  rintro ⟨g, cap, cur, rfl, hB, hh, r⟩
  exact ⟨g, cap, cur, rfl, hB, by rw [Below.heap_setCell _ _ _ _ (by show g ≠ M; omega)]; exact hh, r⟩
theorem ownS_slice {w : World} {B : Nat} {e : TypeId} {v : Value} {xs : List Sp} (h : OwnS w B e v xs) : ∃ a c, v = .slice a xs.length c := by
  obtain ⟨a, c, h, _⟩ := ownS_isSp h
  exact ⟨a, c, h⟩

set_option maxHeartbeats 1000000 in
set_option maxRecDepth 100000 in
theorem kernel2_any (b bi bo m : Nat) (vs vm vj : Value) (o : Ov) (c : Sp) (L : List Sp) (v : Value) (xs : List Sp) (w0 w : World) (M : Nat) (hM : w0.heap.size = M) (hbi : w0.cell? ⟨bi, 0, none⟩ = some (.map (some m))) (hbo : w0.cell? ⟨bo, 0, none⟩ = some (.pointer (some ⟨b, 0, none⟩)))
    (ho : OvAt w0 b vs vm vj o) (hok : o.Ok) (hc : o.ex c = true) (hS : SetW w0 m L) (hb : Below M w0 w) (hv : w.heap[M]? = some (.cells #[v] 114)) (hO : OwnS w (M + 1) 87 v xs) (hx : xs.length < 1000000) (hR : InR c) :
    Calls Tryd.prog 64 #[spv c, .pointer (some ⟨bi, 0, none⟩), .pointer (some ⟨bo, 0, none⟩), .pointer (some ⟨M, 0, none⟩)] w fun e w' => e = .returned (.tuple #[]) ∧ Below M w0 w' ∧
      ∃ v', w'.heap[M]? = some (.cells #[v'] 114) ∧ OwnS w' (M + 1) 87 v' (if (decide (c ∈ L) && !o.canM (fun d => decide (d ∈ L)) c) = true then xs ++ [c] else xs) ∧ Hid ((decide (c ∈ L) && !o.canM (fun d => decide (d ∈ L)) c) = false → v' = v) := by
  have hmf : ∀ (fn : Fn) (first cap : Array Value) (w : World), (Instr.makeFunc fn first cap).run Tryd.prog w = .ok (.func fn first cap) w := fun _ _ _ _ => rfl
  obtain ⟨p, x, y⟩ := c
  have hl := World.block_lt_of_cell? w0 _ hbi
  have hl2 := World.block_lt_of_cell? w0 _ hbo
  have hl3 := setW_lt hS
  have hsz := hb.size
  rw [hM] at hl hl2 hl3 hsz
  have ho' : ∀ X, Below M w0 X → OvAt X b vs vm vj o := fun X hX => ovAt_below ho (by rw [hM]; exact hX)
  have gi := (hb.cell (p := ⟨bi, 0, none⟩) hl).trans hbi
  have go' := (hb.cell (p := ⟨bo, 0, none⟩) hl2).trans hbo
  have hMw : M < w.heap.size := (Array.getElem?_eq_some_iff.1 hv).1
  have gl : bi < w.heap.size := Nat.lt_of_lt_of_le hl hsz
  have gl2 : bo < w.heap.size := Nat.lt_of_lt_of_le hl2 hsz
  -- the world behind the box
  obtain ⟨W, hW⟩ : ∃ W, W = w.alloc (Obj.cells #[Value.int IntKind.i64 p, Value.int IntKind.i64 x, Value.int IntKind.i64 y] 87) := ⟨_, rfl⟩
  have hbW : Below M w0 W := by rw [hW]; exact hb.alloc hsz _
  have hlk := setW_look (setW_below hS hbW hl3) hR
  have cm := hid (move_any b vs vm vj o (p, x, y) 65 #[.pointer (some ⟨bi, 0, none⟩)] _ W (ho' W hbW) hok hc (testC65 ((hbW.cell (p := ⟨bi, 0, none⟩) hl).trans hbi) (setW_below hS hbW hl3)))
  have gv := hid hv
  have HO := hid hO
  have HBW := hid hbW
  have HB := hid hb
  have hneg := move_neg' o (fun d => decide (d ∈ L)) (p, x, y)
  unfold spv at hlk cm ⊢
  simp only at hl hl2 hlk cm ⊢
  rw [hW] at hlk
  generalize o.canM (fun d => decide (d ∈ L)) (p, x, y) = t at *
  generalize o.move (fun d => decide (d ∈ L)) (p, x, y) = r at *
  generalize decide ((p, x, y) ∈ L) = u at *
  have HW := hid hW
  have gvW : Hid (W.heap[M]? = some (.cells #[v] 114)) := by rw [hW]; exact (Below.heap_alloc _ _ _ hMw).trans hv
  have HOW : Hid (OwnS W (M + 1) 87 v xs) := by rw [hW]; exact World.ownsRow.alloc hO _
  have boxW : Hid (W.heap[w.heap.size]? = some (.cells #[.int .i64 p, .int .i64 x, .int .i64 y] 87)) := by rw [hW]; exact heap_alloc_new _ _
  have hne : Hid (some M ≠ v.ownBlock) := fun e => by have := (ownS_lt hO M e.symm).1; omega
  have hWsz : W.heap.size = w.heap.size + 1 := by rw [hW]; simp
  clear hbW hS ho ho' hok hc hR hO hv hbi hbo hb hW hM
  cases u
  · go_enter Tryd.func64, Tryd.ntmps64
    go_wp2
    go_end0
    refine ⟨rfl, ?_, v, ?_, ?_, (rfl : v = v)⟩
    · rw [← HW.out]; exact HBW.out
    · exact (Below.heap_alloc _ _ _ hMw).trans gv.out
    · exact World.ownsRow.alloc HO.out _
  · cases t
    · go_enter Tryd.func64, Tryd.ntmps64
      go_wp2_with (first
        | (go_at_call 46; rw [← HW.out]; refine (cm.out).mono ?_; rintro e w2 ⟨rfl, hb2⟩; have g2 := (hb2.block M (by omega)).trans gvW.out; have c2 := box1 g2; have f2 := box1_free g2; obtain ⟨k0, k1, k2⟩ := cells3_of ((hb2.block w.heap.size (by omega)).trans boxW.out); have h2sz := hb2.size; have hm2 : M < w2.heap.size := (by omega); have G2 := hid g2; have HO2 := hid (ownS_below HOW.out hb2); have HB2 := hid hb2; clear g2 hb2)
        | (at_builtin; refine wpl_app_sp (p, x, y) _ _ v (M + 1) xs (by rfl) (by rfl) (by rfl) (by rfl) HO2.out (by omega) (by omega) ?_; intro v' w3 hown3 happ3; obtain ⟨sa, sc, rfl⟩ := ownS_slice hown3; have g3 := (happ3.grown.block M (by simp; omega) hne.out).trans ((Below.heap_alloc _ _ _ hm2).trans G2.out); have c3 := box1 g3; have f3 := box1_free g3; have G3 := hid g3; have HO3 := hid hown3; have HA3 := hid happ3; clear g3 hown3 happ3)
        | fail)
      go_end0
      refine ⟨rfl, ?_, .slice sa (xs.length + 1) sc, heap_setCell1 G3.out, ?_, trivial⟩
      · have b2 : Below M w0 w2 := HBW.out.trans (HB2.out.mono (by omega))
        have b3 := (b2.alloc (by omega) (Obj.cells #[Value.int IntKind.i64 p, Value.int IntKind.i64 x, Value.int IntKind.i64 y] 87)).grown HA3.out.grown (by simp; omega) (fun k hk => Nat.le_of_lt (ownS_lt HO2.out k hk).1)
        exact b3.setCell (p := ⟨M, 0, none⟩) (Nat.le_refl _) _
      · exact ownS_setCell (by have := HO3.out; rwa [List.length_append] at this) (Nat.lt_succ_self M) _
    · go_enter Tryd.func64, Tryd.ntmps64
      go_wp2_with (first | (go_at_call 46; rw [← HW.out]; refine (cm.out).mono ?_; rintro e w2 ⟨rfl, hb2⟩; have g2 := (hb2.block M (by omega)).trans gvW.out; have G2 := hid g2; have HB2 := hid hb2; clear g2 hb2) | fail)
      go_end0
      refine ⟨rfl, HBW.out.trans (HB2.out.mono (by omega)), v, G2.out, ?_, (rfl : v = v)⟩
      exact ownS_below HOW.out HB2.out
end Go.Proofs.YtjonbhimbhidpaaDoor
