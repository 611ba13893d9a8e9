/-
  Walks over chapter 6: the kernel.
-/
import Derived.Test.YtjonbhimbhidpaaDoorZ2
import Derived.Deep.RegionHeld3
import Derived.Deep.DrawnRows
namespace Go.Proofs.YtjonbhimbhidpaaDoor
open Go.RowKit

/-- S of the kernel's first region, of a world behind the box -/
theorem keepK {w w' : World} {b : Nat} {v : Value} {bx : Obj} (h0 : (w.alloc bx).cell? ⟨w.heap.size, 0, none⟩ = some (.pointer (some ⟨b, 0, none⟩))) (h1 : w.cell? ⟨b, 0, none⟩ = some v) (h : Below (w.heap.size + 1) (w.alloc bx) w') :
    w'.cell? ⟨w.heap.size, 0, none⟩ = some (.pointer (some ⟨b, 0, none⟩)) ∧ w'.cell? ⟨b, 0, none⟩ = some v ∧ Hid (Below (w.heap.size + 1) (w.alloc bx) w') := by
  have hb := World.block_lt_of_cell? w _ h1
  refine ⟨(h.cell (Nat.lt_succ_self _)).trans h0, (h.cell (by simp only at hb ⊢; omega)).trans ((World.cell?_alloc_lt w bx _ hb).trans h1), h⟩

theorem heap_alloc_at {W : World} {A : Obj} {g : Nat} (h : g = W.heap.size) : (W.alloc A).heap[g]? = some A := by subst h; exact heap_alloc_new _ _
theorem heap_drew (W : World) (g : Nat) : W.drew.heap[g]? = W.heap[g]? := rfl
theorem setW_of_heap {W W' : World} {b : Nat} {L : List Sp} (h : SetW W b L) (e : W'.heap[b]? = W.heap[b]?) : SetW W' b L := by
  obtain ⟨D, ⟨es, clock, hh, F, hs, hE⟩, hD⟩ := h
  exact ⟨D, ⟨es, clock, e.trans hh, F, hs, hE⟩, hD⟩
theorem numW_of_heap {W W' : World} {b n : Nat} {f : Sp → Option Nat} (h : NumW W b n f) (e : W'.heap[b]? = W.heap[b]?) : NumW W' b n f := by
  obtain ⟨D, ⟨es, clock, hh, F, hs, hE⟩, hD⟩ := h
  exact ⟨D, ⟨es, clock, e.trans hh, F, hs, hE⟩, hD⟩
theorem numW_of_block {W : World} {b : Nat} (h : W.heap[b]? = some (.map #[] 0)) : NumW W b 0 (fun _ => none) := by
  have h0 := World.ownsMap_made (H := Unit) W Tryd.prog 87 (plainElem Tryd.prog 3)
  obtain ⟨es, clock, hh, F, hs, hE⟩ := h0
  rw [heap_alloc_new] at hh
  cases hh
  exact ⟨_, ⟨_, _, h, F, hs, hE⟩, fun _ _ => rfl, fun _ _ _ h => by cases h⟩

theorem ex_inR {o : Ov} (hok : o.Ok) {c : Sp} (h : o.ex c = true) : InR c := by
  unfold Ov.ex at h
  simp only [decide_eq_true_eq] at h
  have h1 := hok.p; have h2 := hok.r; have h3 := hok.c
  unfold InR; omega
theorem heap_lt {W : World} {g : Nat} {x : Obj} (h : W.heap[g]? = some x) : g < W.heap.size := (Array.getElem?_eq_some_iff.1 h).1
theorem set_block {W : World} {b : Nat} {L : List Sp} (h : SetW W b L) : ∃ es cl, W.heap[b]? = some (.map es cl) := by
  obtain ⟨D, ⟨es, clock, hh, F, hs, hE⟩, hD⟩ := h
  exact ⟨_, _, hh⟩
theorem num_block {W : World} {b n : Nat} {f : Sp → Option Nat} (h : NumW W b n f) : ∃ es cl, W.heap[b]? = some (.map es cl) := by
  obtain ⟨D, ⟨es, clock, hh, F, hs, hE⟩, hD⟩ := h
  exact ⟨_, _, hh⟩
theorem ne_set {W : World} {b g : Nat} {L : List Sp} {cs : Array Value} {t : TypeId} (h : SetW W b L) (hg : W.heap[g]? = some (.cells cs t)) : g ≠ b := by
  rintro rfl
  obtain ⟨_, _, h⟩ := set_block h
  rw [hg] at h; cases h
theorem ne_num {W : World} {b n g : Nat} {f : Sp → Option Nat} {cs : Array Value} {t : TypeId} (h : NumW W b n f) (hg : W.heap[g]? = some (.cells cs t)) : g ≠ b := by
  rintro rfl
  obtain ⟨_, _, h⟩ := num_block h
  rw [hg] at h; cases h
/-- what stands between the kernel's rounds: the boxes, the set, the losses -/
structure KSt (w : World) (b bi bl m ml : Nat) (L : List Sp) (n : Nat) (f : Sp → Option Nat) (wx : World) : Prop where
  B : Below w.heap.size w wx
  bi : wx.heap[bi]? = some (.cells #[.map (some m)] 90)
  bl : wx.heap[bl]? = some (.cells #[.map (some ml)] 91)
  bo : wx.heap[w.heap.size]? = some (.cells #[.pointer (some ⟨b, 0, none⟩)] 85)
  set : SetW wx m L
  num : NumW wx ml n f
  qm : w.heap.size ≤ m
  qml : w.heap.size ≤ ml
  ne : m ≠ ml
theorem KSt.more {w : World} {b bi bl m ml : Nat} {L : List Sp} {n : Nat} {f : Sp → Option Nat} {wx wy : World} (h : KSt w b bi bl m ml L n f wx) (hb : Below wx.heap.size wx wy) : KSt w b bi bl m ml L n f wy :=
  ⟨h.B.trans (hb.mono h.B.size), (hb.block _ (heap_lt h.bi)).trans h.bi, (hb.block _ (heap_lt h.bl)).trans h.bl, (hb.block _ (heap_lt h.bo)).trans h.bo, setW_below h.set hb (setW_lt h.set), numW_below h.num hb (numW_lt h.num), h.qm, h.qml, h.ne⟩
theorem KSt.num' {w : World} {b bi bl m ml : Nat} {L : List Sp} {n n' : Nat} {f f' : Sp → Option Nat} {wx wy : World} (h : KSt w b bi bl m ml L n f wx) (hg : wx.grownBy wy (some ml)) (hN : NumW wy ml n' f') : KSt w b bi bl m ml L n' f' wy := by
  have e : ∀ {g : Nat} {cs : Array Value} {t : TypeId}, wx.heap[g]? = some (.cells cs t) → wy.heap[g]? = some (.cells cs t) := fun hh => (hg.block _ (heap_lt hh) (fun e => ne_num h.num hh (Option.some.inj e))).trans hh
  exact ⟨h.B.grown hg h.B.size (fun k hk => Option.some.inj hk ▸ h.qml), e h.bi, e h.bl, e h.bo, setW_kept h.set hg (fun e => h.ne (Option.some.inj e)), hN, h.qm, h.qml, h.ne⟩
theorem KSt.set' {w : World} {b bi bl m ml : Nat} {L L' : List Sp} {n : Nat} {f : Sp → Option Nat} {wx wy : World} (h : KSt w b bi bl m ml L n f wx) (hg : wx.grownBy wy (some m)) (hN : SetW wy m L') : KSt w b bi bl m ml L' n f wy := by
  have e : ∀ {g : Nat} {cs : Array Value} {t : TypeId}, wx.heap[g]? = some (.cells cs t) → wy.heap[g]? = some (.cells cs t) := fun hh => (hg.block _ (heap_lt hh) (fun e => ne_set h.set hh (Option.some.inj e))).trans hh
  exact ⟨h.B.grown hg h.B.size (fun k hk => Option.some.inj hk ▸ h.qm), e h.bi, e h.bl, e h.bo, hN, numW_kept h.num hg (fun e => h.ne (Option.some.inj e).symm), h.qm, h.qml, h.ne⟩
/-- 'delete(m, c)' -/
theorem wpl_del_set {ops : Array Oper} {rest : List Oper} {o : Oper} {a : Act} {Q : Exit → Act → World → Prop} {W : World}
    (hg : o.guard = none) (m x : Operand) (hop : o.op = Op.call { callee := Callee.builtin Builtin.delete, args := #[m, x], argTypes := #[90, 87] }) (b : Nat) (L : List Sp) (hm : a.eval m = .map (some b)) (h : SetW W b L)
    (c : Sp) (hx : a.eval x = spv c) (hc : InR c) (hn : c ∈ L)
    (hK : ∀ W', SetW W' b (L.erase c) → W.grownBy W' (some b) → W'.heap.size = W.heap.size → wpList Tryd.prog ops Q rest (a.put o.dst (.tuple #[])) W') :
    wpList Tryd.prog ops Q (o :: rest) a W := by
  refine wpList_plain hg fun K' hK' => ?_
  obtain ⟨w', hrun, r1, r2, r3⟩ := setW_del h hc hn o.type
  unfold Oper.wp
  simp [execOp, hop, resolve, invoke, builtin, hm, hx, hrun, Result.andThen]
  exact hK' _ _ (hK w' r1 r2 r3)
theorem ownS_some {w : World} {B : Nat} {e : TypeId} {v : Value} {xs : List Sp} (h : OwnS w B e v xs) (hx : xs ≠ []) : ∃ g c, v = .slice (some ⟨g, 0, none⟩) xs.length c ∧ B ≤ g ∧ (∃ cs, w.heap[g]? = some (.cells cs e)) ∧ ∀ i, i < xs.length → w.cell? ⟨g, i * 3, none⟩ = some (.int .i64 (sAt xs i).1) ∧ w.cell? ⟨g, i * 3 + 1, none⟩ = some (.int .i64 (sAt xs i).2.1) ∧ w.cell? ⟨g, i * 3 + 2, none⟩ = some (.int .i64 (sAt xs i).2.2) := by
  have hs := ownS_isSp h
  obtain ⟨h1, h2 | ⟨g, cap, cur, rfl, hB, hh, r⟩⟩ := h
  · exact absurd (List.length_eq_zero_iff.1 h2.2) hx
  · refine ⟨g, cap, rfl, hB, ⟨cur, hh⟩, fun i hi => ?_⟩
    obtain ⟨a, c, e, _, hc⟩ := hs
    obtain ⟨g', hg', r⟩ := hc i hi
    simp only [Value.slice.injEq] at e
    rw [← e.1] at hg'
    simp only [Option.some.injEq, Addr.mk.injEq] at hg'
    rw [hg'.1]; exact r
theorem cell_of_heap {w w' : World} {g : Nat} (h : w'.heap[g]? = w.heap[g]?) (j : Nat) : w'.cell? ⟨g, j, none⟩ = w.cell? ⟨g, j, none⟩ := by simp [World.cell?, h]
/-- what stands when the kernel's two maps are made -/
def KCut (w : World) (bo b : Nat) (L : List Sp) (v4 v5 : Value) (wx : World) : Prop :=
  ∃ bi bl m ml, v4 = .pointer (some ⟨bi, 0, none⟩) ∧ v5 = .pointer (some ⟨bl, 0, none⟩) ∧ wx.heap[bi]? = some (.cells #[.map (some m)] 90) ∧ wx.heap[bl]? = some (.cells #[.map (some ml)] 91) ∧
    wx.heap[bo]? = some (.cells #[.pointer (some ⟨b, 0, none⟩)] 85) ∧ SetW wx m L ∧ NumW wx ml 0 (fun _ => none) ∧ Below w.heap.size w wx ∧ w.heap.size ≤ bi ∧ w.heap.size ≤ bl ∧ w.heap.size ≤ m ∧ w.heap.size ≤ ml ∧ m ≠ ml

theorem kcut_intro {w w1 wx : World} {bo b bi bl m ml : Nat} {L : List Sp} (hS : SetW w1 m L) (hm : w.heap.size ≤ m) (h1 : wx.heap[bi]? = some (.cells #[.map (some m)] 90)) (h2 : wx.heap[bl]? = some (.cells #[.map (some ml)] 91))
    (h3 : wx.heap[bo]? = some (.cells #[.pointer (some ⟨b, 0, none⟩)] 85)) (h4 : wx.heap[m]? = w1.heap[m]?) (h5 : wx.heap[ml]? = some (.map #[] 0)) (h6 : Below w.heap.size w wx) (h7 : w.heap.size ≤ bi) (h8 : w.heap.size ≤ bl) (h9 : w.heap.size ≤ ml) (h10 : m ≠ ml) :
    KCut w bo b L (.pointer (some ⟨bi, 0, none⟩)) (.pointer (some ⟨bl, 0, none⟩)) wx :=
  ⟨bi, bl, m, ml, rfl, rfl, h1, h2, h3, setW_of_heap hS h4, numW_of_block h5, h6, h7, h8, hm, h9, h10⟩

set_option maxHeartbeats 20000000 in
set_option maxRecDepth 100000 in
theorem kernel_any (b : Nat) (vs vm vj : Value) (o : Ov) (w : World) (ho : OvAt w b vs vm vj o) (hok : o.Ok) :
    Calls Tryd.prog 45 #[.pointer (some ⟨b, 0, none⟩)] w fun e w' => ∃ k m ml n, e = .returned (.tuple #[.map (some m), .map (some ml)]) ∧ o.still k ∧ SetW w' m (o.cells.filter (o.K k)) ∧ NumW w' ml n (fun c => if o.ex c then o.lost k c else none) ∧ Below w.heap.size w w' := by
  have hmf : ∀ (fn : Fn) (first cap : Array Value) (w : World), (Instr.makeFunc fn first cap).run Tryd.prog w = .ok (.func fn first cap) w := fun _ _ _ _ => rfl
  have hmm := @run_makeMap Tryd.prog
  have hbl := ovAt_lt ho
  have cin := hid (fun w' (hw : Below w.heap.size w w') => in_any b vs vm vj o vs o.safe w' (ovAt_below ho hw) hok (isGrid_below ho.ov.safe hw) hok.form)
  have HO := hid ho
  have HOK := hid hok
  have c0 := ho.c0
  obtain ⟨a1, cs, rfl, _, _⟩ := ho.ov.safe
  clear ho hok
  go_enter Tryd.func45, Tryd.ntmps45
  go_upto_region 1 with fail
  go_cut [4, 5] (fun v4 v5 wx => KCut w w.heap.size b (o.cells.filter (inG o.safe)) v4 v5 wx)
  case first =>
    obtain ⟨W0, hW0⟩ : ∃ W0, W0 = w.alloc (Obj.cells #[Value.pointer (some ⟨b, 0, none⟩)] 85) := ⟨_, rfl⟩
    have hK0 : Hid ((w.alloc (Obj.cells #[Value.pointer (some ⟨b, 0, none⟩)] 85)).cell? ⟨w.heap.size, 0, none⟩ = some (.pointer (some ⟨b, 0, none⟩))) := box1 (heap_alloc_new _ _)
    have hC0 := hid c0
    clear hW0 W0
    go_region_held3 (fun w' => w'.cell? ⟨w.heap.size, 0, none⟩ = some (.pointer (some ⟨b, 0, none⟩)) ∧ w'.cell? ⟨b, 0, none⟩ = some (.slice a1 o.safe.length cs) ∧ Hid (Below (w.heap.size + 1) (w.alloc (Obj.cells #[Value.pointer (some ⟨b, 0, none⟩)] 85)) w'))
      ((refine keepK hK0.out hC0.out ?_; repeat (first | exact Below.refl _ _ | exact BW1.out | (apply Hid.out; assumption) | refine Below.drew ?_ | refine Below.alloc ?_ (by first | omega | (simp; done) | (simp; omega)) _ | refine Below.setCell ?_ (by first | omega | (simp; done) | (simp; omega)) _)))
      ((first | (go_at_call 54; refine (cin.out _ (by repeat (first | exact Below.refl _ _ | refine Below.drew ?_ | refine Below.alloc ?_ (by first | omega | (simp; done) | (simp; omega)) _))).mono ?_; rintro e w1 ⟨m, rfl, hm1, hm2, hm3⟩; have hsz1 := hm3.size; have hz : ∀ X : World, X.drew.heap = X.heap := (fun _ => rfl); simp only [hz, World.size_alloc] at hsz1; have BW1 : Hid (Below (w.heap.size + 1) (w.alloc (Obj.cells #[Value.pointer (some ⟨b, 0, none⟩)] 85)) w1) := (by refine Below.trans (b := _) ?_ (hm3.mono (by simp only [hz, World.size_alloc]; omega)); repeat (first | exact Below.refl _ _ | refine Below.drew ?_ | refine Below.alloc ?_ (by first | omega | (simp; done) | (simp; omega)) _)); have l0 : w.heap.size < w1.heap.size := (by omega); have z1 := fun hg => hm3.cell (p := ⟨w.heap.size + 1, 0, none⟩) hg; have z2 := fun hg => hm3.cell (p := ⟨w.heap.size + 1 + 1, 0, none⟩) hg; have z3 := fun hg => hm3.cell (p := ⟨w.heap.size + 1 + 1 + 1, 0, none⟩) hg; have y1 := fun hg => hm3.frozen (p := ⟨w.heap.size + 1, 0, none⟩) hg; have y2 := fun hg => hm3.frozen (p := ⟨w.heap.size + 1 + 1, 0, none⟩) hg; have y3 := fun hg => hm3.frozen (p := ⟨w.heap.size + 1 + 1 + 1, 0, none⟩) hg; simp [hz, go_sem] at z1 z2 z3 y1 y2 y3; (try have l1 : w.heap.size + 1 < w1.heap.size := (by omega)); (try have l2 : w.heap.size + 1 + 1 < w1.heap.size := (by omega)); (try have l3 : w.heap.size + 1 + 1 + 1 < w1.heap.size := (by omega)); clear hz; have hm2 := hid hm2; have hm3 := hid hm3)))
    all_goals (go_wp2_with fail; go_meet)
    all_goals
      have BL1 : Below w.heap.size w w1 := ((Below.refl _ _).alloc (Nat.le_refl _) _).trans (BW1.out.mono (Nat.le_succ _))
      have hm3 := hm3.out
      have hmlt : m < w1.heap.size := setW_lt hm2.out
      have hwsz : w.heap.size + 1 ≤ w1.heap.size := l0
      simp at hm1
      clear cin HO HOK c0 hmf hmm
      apply kcut_intro hm2.out (by omega)
      · repeat (first | with_reducible rfl | ((with_reducible refine heap_alloc_at ?_); focus (first | with_reducible rfl | (simp; done) | (simp; omega))) | ((with_reducible refine (Below.heap_alloc _ _ _ ?_).trans ?_); focus (first | omega | (simp; done) | (simp; omega))) | (with_reducible refine heap_setCell1 (v := .map none) ?_) | ((with_reducible refine (Below.heap_setCell _ _ _ _ ?_).trans ?_); focus (first | omega | (simp; done) | (simp; omega))) | (with_reducible refine (heap_drew _ _).trans ?_) | ((with_reducible refine (hm3.block _ ?_).trans ?_); focus (first | omega | (simp; done) | (simp; omega))))
      · repeat (first | with_reducible rfl | ((with_reducible refine heap_alloc_at ?_); focus (first | with_reducible rfl | (simp; done) | (simp; omega))) | ((with_reducible refine (Below.heap_alloc _ _ _ ?_).trans ?_); focus (first | omega | (simp; done) | (simp; omega))) | (with_reducible refine heap_setCell1 (v := .map none) ?_) | ((with_reducible refine (Below.heap_setCell _ _ _ _ ?_).trans ?_); focus (first | omega | (simp; done) | (simp; omega))) | (with_reducible refine (heap_drew _ _).trans ?_) | ((with_reducible refine (hm3.block _ ?_).trans ?_); focus (first | omega | (simp; done) | (simp; omega))))
      · repeat (first | with_reducible rfl | ((with_reducible refine heap_alloc_at ?_); focus (first | with_reducible rfl | (simp; done) | (simp; omega))) | ((with_reducible refine (Below.heap_alloc _ _ _ ?_).trans ?_); focus (first | omega | (simp; done) | (simp; omega))) | (with_reducible refine heap_setCell1 (v := .map none) ?_) | ((with_reducible refine (Below.heap_setCell _ _ _ _ ?_).trans ?_); focus (first | omega | (simp; done) | (simp; omega))) | (with_reducible refine (heap_drew _ _).trans ?_) | ((with_reducible refine (hm3.block _ ?_).trans ?_); focus (first | omega | (simp; done) | (simp; omega))))
      · repeat (first | with_reducible rfl | ((with_reducible refine heap_alloc_at ?_); focus (first | with_reducible rfl | (simp; done) | (simp; omega))) | ((with_reducible refine (Below.heap_alloc _ _ _ ?_).trans ?_); focus (first | omega | (simp; done) | (simp; omega))) | (with_reducible refine heap_setCell1 (v := .map none) ?_) | ((with_reducible refine (Below.heap_setCell _ _ _ _ ?_).trans ?_); focus (first | omega | (simp; done) | (simp; omega))) | (with_reducible refine (heap_drew _ _).trans ?_) | ((with_reducible refine (hm3.block _ ?_).trans ?_); focus (first | omega | (simp; done) | (simp; omega))))
      · repeat (first | with_reducible rfl | ((with_reducible refine heap_alloc_at ?_); focus (first | with_reducible rfl | (simp; done) | (simp; omega))) | ((with_reducible refine (Below.heap_alloc _ _ _ ?_).trans ?_); focus (first | omega | (simp; done) | (simp; omega))) | (with_reducible refine heap_setCell1 (v := .map none) ?_) | ((with_reducible refine (Below.heap_setCell _ _ _ _ ?_).trans ?_); focus (first | omega | (simp; done) | (simp; omega))) | (with_reducible refine (heap_drew _ _).trans ?_) | ((with_reducible refine (hm3.block _ ?_).trans ?_); focus (first | omega | (simp; done) | (simp; omega))))
      · repeat (first | with_reducible exact BL1 | ((with_reducible refine Below.alloc ?_ ?_ _); rotate_left 1; focus (first | omega | (simp; done) | (simp; omega))) | ((with_reducible refine Below.setCell ?_ ?_ _); rotate_left 1; focus (first | omega | (simp; done) | (simp; omega))) | (with_reducible refine Below.drew ?_))
      all_goals omega
  case rest =>
    obtain ⟨bi, bl, m, ml, rfl, rfl, k1, k2, k3, hS, hN, hB, q1, q2, q3, q4, q5⟩ := hcut
    rw [ker0] at hS
    have HK : KSt w b bi bl m ml (o.ker 0) 0 (o.first 0) wc := ⟨hB, k1, k2, k3, hS, by rw [first_zero]; exact hN, q3, q4, q5⟩
    have hNs := N_small HOK.out
    have cc := hid (cells_any b _ vm vj o 63 #[.pointer (some ⟨bi, 0, none⟩), .pointer (some ⟨bl, 0, none⟩)] (fun i W => KSt w b bi bl m ml (o.ker 0) i (o.first i) W) wc (fun i W hJ => ovAt_below HO.out hJ.B) HOK.out HK
      ⟨enters_f Tryd.func63 (by kernel_rfl) rfl, by
        intro i W hi hJ
        refine (kernel1_any bi bl m ml i (o.ker 0) (o.first i) (o.cellAt i) W (box1 hJ.bi) (box1 hJ.bl) hJ.set hJ.num (ex_inR HOK.out (cellAt_ex o i hi)) (by omega)).mono ?_
        rintro e W' ⟨rfl, h1, h2⟩
        rw [first_succ o i hi] at h1
        exact ⟨rfl, hJ.num' h2 h1⟩⟩)
    have r1 : wc.cell? ⟨w.heap.size, 0, none⟩ = some (.pointer (some ⟨b, 0, none⟩)) := box1 k3
    clear hS hN hB HK k1 k2 k3 c0 q1 q2
    go_wp2_with (first | (go_at_call 61; refine (cc.out).mono ?_; rintro e w4 ⟨rfl, h4⟩; rw [first_end] at h4; have H4 := hid h4; clear h4) | fail)
    go_loopw [6] (fun v wr => ∃ k n : Nat, v = .int .i64 ((k : Int) + 1) ∧ Hid (KSt w b bi bl m ml (o.ker k) n (o.lostE k) wr) ∧ k + (o.ker k).length ≤ o.N ∧ n + (o.ker k).length ≤ 2 * o.N) (fun v _ => (o.ker ((intOf v).toNat - 1)).length)
    case atStart => exact ⟨0, o.N, rfl, H4, by have := ker_le o 0; omega, by have := ker_le o 0; omega⟩
    case round =>
      obtain ⟨k, n, rfl, HK, hk1, hk2⟩ := hrel
      have r1 : wr.cell? ⟨w.heap.size, 0, none⟩ = some (.pointer (some ⟨b, 0, none⟩)) := box1 HK.out.bo
      have hlw : w.heap.size < wr.heap.size := heap_lt HK.out.bo
      have cc2 := hid (cells_any b _ vm vj o 64 #[.pointer (some ⟨bi, 0, none⟩), .pointer (some ⟨w.heap.size, 0, none⟩), .pointer (some ⟨wr.heap.size, 0, none⟩)]
        (fun i W => Below wr.heap.size wr W ∧ ∃ v, W.heap[wr.heap.size]? = some (.cells #[v] 114) ∧ OwnS W (wr.heap.size + 1) 87 v ((o.cells.take i).filter (o.outF k)) ∧ ((o.cells.take i).filter (o.outF k) = [] → v = .slice none 0 0)) (wr.alloc (.cells #[.slice none 0 0] 114))
        (fun i W hJ => ovAt_below (ovAt_below HO.out HK.out.B) hJ.1) HOK.out ⟨(Below.refl _ _).alloc (Nat.le_refl _) _, _, heap_alloc_new _ _, by rw [List.take_zero]; exact ownS_nil _ _ _, fun _ => rfl⟩
        ⟨enters_f Tryd.func64 (by kernel_rfl) rfl, by
          rintro i W hi ⟨hb, v, hv, hO, hnil⟩
          refine (kernel2_any b bi w.heap.size m _ vm vj o (o.cellAt i) (o.ker k) v _ wr W _ rfl (box1 HK.out.bi) (box1 HK.out.bo) (ovAt_below HO.out HK.out.B) HOK.out (cellAt_ex o i hi) HK.out.set hb hv hO (by have := outF_take o k i; omega) (ex_inR HOK.out (cellAt_ex o i hi))).mono ?_
          rintro e W' ⟨rfl, hb2, v', hv', hO', hn'⟩
          have e1 : (decide (o.cellAt i ∈ o.ker k) && !o.canM (fun d => decide (d ∈ o.ker k)) (o.cellAt i)) = o.outF k (o.cellAt i) := by rw [dec_ker]; unfold Ov.outF; rw [show decide (o.cellAt i ∈ o.ker k) = o.K k (o.cellAt i) from congrFun (dec_ker o k) _]
          rw [e1] at hO' hn'
          refine ⟨rfl, hb2, v', hv', by rw [filter_take_succ o _ i hi]; exact hO', ?_⟩
          rw [filter_take_succ o _ i hi]
          intro h
          by_cases hf : o.outF k (o.cellAt i) = true
          · rw [if_pos hf] at h; simp at h
          · rw [if_neg hf] at h
            rw [hn'.out (by simpa using hf)]
            exact hnil h⟩)
      have qnil : ∀ (W : World) (a : Option Addr) (n c : Nat), (binOp .eql 114 (.slice a n c) (.slice none 0 0)).run Tryd.prog W = .ok (.bool a.isNone) W := fun W a n c => Lib.run_eql_slice_nil W 114 87 a n c 0 0 Tryd.underlying114
      have eN : o.cells.take o.N = o.cells := List.take_of_length_le (by rw [cells_len]; exact Nat.le_refl _)
      have HKB := hid HK.out.B
      by_cases hout : o.outL k = []
      · have HOUT := hid hout
        clear hout
        go_wp2_with (first | (go_at_call 61; refine (cc2.out).mono ?_; rintro e w5 ⟨rfl, hb5, v5, hv5, ho5, hn5⟩; obtain rfl := hn5 (by rw [eN]; exact HOUT.out); have d1 := box1 hv5; have HK5 := hid (HK.out.more hb5); have d2 := box1 HK5.out.bi; have d3 := box1 HK5.out.bl; clear hv5 ho5 hn5 hb5) | fail)
        go_quiet (fail)
        go_wp2
        go_ret2
        exact ⟨k, m, ml, n, rfl, still_of_out o k HOUT.out, HK5.set, HK5.num, below_drewN_r HK5.B nq⟩
      · have HOUT := hid hout
        clear hout
        obtain ⟨len, hlen⟩ : ∃ len, len = (o.outL k).length := ⟨_, rfl⟩
        have hlN : len ≤ o.N := hlen ▸ outL_le o k
        have HLEN := hid hlen
        clear hlen
        go_wp2_with (first | (go_at_call 61; refine (cc2.out).mono ?_; rintro e w5 ⟨rfl, hb5, v5, hv5, ho5, hn5⟩; rw [eN] at ho5; obtain ⟨g, sc, rfl, hg, ⟨gs, hgs⟩, hcells⟩ := ownS_some (xs := o.outL k) ho5 HOUT.out; have d1 := box1 hv5; rw [← HLEN.out] at d1 hcells; have HK5 := hid (HK.out.more hb5); have HL5 := hid hcells; have HG5 := hid hgs; have HB5 := hid hb5; clear hv5 ho5 hn5 hb5 hcells hgs) | fail)
        go_loopw [32] (fun v wy => ∃ i : Nat, v = .int .i64 i ∧ i ≤ len ∧ Hid (KSt w b bi bl m ml (o.inL k i) (n + i) (o.lostI k i) wy) ∧ Hid (wy.heap[g]? = w5.heap[g]?)) (fun v _ => len - (intOf v).toNat)
        case atStart => exact ⟨0, rfl, Nat.zero_le _, by rw [inL_zero, lostI_zero]; exact HK5, rfl⟩
        case round =>
          obtain ⟨i, rfl, hi, HKi, HGi⟩ := hrel
          by_cases hlt : i < len
          · obtain ⟨e0, e1, e2⟩ := HL5.out i hlt
            have hgl : g < wr.heap.size := by
              have := heap_lt (HGi.out.trans HG5.out); exact this
            rw [← cell_of_heap HGi.out] at e0 e1 e2
            obtain ⟨c, hc⟩ : ∃ c, c = sAt (o.outL k) i := ⟨_, rfl⟩
            rw [← hc] at e0 e1 e2
            have f1 := box1 HKi.out.bi
            have f2 := box1 HKi.out.bl
            have hl1 := heap_lt HKi.out.bi
            have hl2 := heap_lt HKi.out.bl
            have hlt' : i < (o.outL k).length := by rw [← HLEN.out]; exact hlt
            have hc' : c = (o.outL k)[i] := by rw [hc]; simp [sAt, hlt']
            have HIN : Hid (InR c) := by
              have h1 := (mem_outL o k _).1 (List.getElem_mem hlt')
              rw [← hc'] at h1
              unfold Ov.outF at h1
              simp only [Bool.and_eq_true] at h1
              exact ex_inR HOK.out (K_ex o k _ h1.1)
            have HMEM : Hid (c ∈ o.inL k i) := by rw [hc']; exact out_mem o k i hlt'
            have HER : Hid ((o.inL k i).erase c = o.inL k (i + 1)) := by rw [hc']; exact inL_succ o k i hlt'
            have HLO : Hid ((fun d => if d = c then some (k + 1) else o.lostI k i d) = o.lostI k (i + 1)) := by rw [hc']; exact lostI_succ o k i hlt'
            have HKa := hid (HKi.out.more ((Below.refl _ _).alloc (Nat.le_refl _) (Obj.cells #[.int .i64 c.1, .int .i64 c.2.1, .int .i64 c.2.2] 87)))
            have HBX := hid (heap_alloc_new wr (Obj.cells #[.int .i64 c.1, .int .i64 c.2.1, .int .i64 c.2.2] 87))
            have HGa : Hid ((wr.alloc (Obj.cells #[.int .i64 c.1, .int .i64 c.2.1, .int .i64 c.2.2] 87)).heap[g]? = w5.heap[g]?) := (Below.heap_alloc _ _ _ hgl).trans HGi.out
            clear hc hc' hlt'
            go_wp2_with (first
              | (at_delete; refine wpl_del_set (by rfl) _ _ (by rfl) m (o.inL k i) (by rfl) HKa.out.set c (by rfl) HIN.out HMEM.out ?_; intro w6 h1 h2 h3; rw [HER.out] at h1; have HK6 := hid (HKa.out.set' h2 h1); have d6 := box1 HK6.out.bl; obtain ⟨a0, a1, a2⟩ := cells3_of ((h2.block _ (heap_lt HBX.out) (fun e => ne_set HKa.out.set HBX.out (Option.some.inj e))).trans HBX.out); have HG6 : Hid (w6.heap[g]? = w5.heap[g]?) := (h2.block _ (heap_lt (HGa.out.trans HG5.out)) (fun e => ne_set HKa.out.set (HGa.out.trans HG5.out) (Option.some.inj e))).trans HGa.out; clear h1 h2 h3)
              | (at_mapUpdate; refine wpl_put_num (by rfl) _ _ _ (by rfl) ml (n + i) (o.lostI k i) (by rfl) HK6.out.num c (by rfl) (k + 1) (by rfl) HIN.out (by omega) (by omega) ?_; intro w7 h1 h2 h3; rw [HLO.out] at h1; have HK7 := hid (HK6.out.num' h2 h1); have HG7 : Hid (w7.heap[g]? = w5.heap[g]?) := (h2.block _ (heap_lt (HG6.out.trans HG5.out)) (fun e => ne_num HK6.out.num (HG6.out.trans HG5.out) (Option.some.inj e))).trans HG6.out; clear h1 h2 h3)
              | fail)
            go_roundw
            case rel => exact ⟨i + 1, by go_num, by omega, by rw [← Nat.add_assoc]; exact HK7, HG7⟩
            case measure => simp [intOf]; omega
          · obtain rfl : i = len := by omega
            have hcnt := count_out o k
            have hne : (o.outL k).length ≠ 0 := fun h => HOUT.out (List.length_eq_zero_iff.1 h)
            have HKe : Hid (KSt w b bi bl m ml (o.ker (k + 1)) (n + i) (o.lostE (k + 1)) wr) := by
              have h1 := inL_end o k
              have h2 := lostI_end o k
              rw [← HLEN.out] at h1 h2
              have := HKi.out
              rw [h1, h2] at this
              exact this
            have hle : i = (o.outL k).length := HLEN.out
            have HX : Hid (k + 1 + (o.ker (k + 1)).length ≤ o.N ∧ n + i + (o.ker (k + 1)).length ≤ 2 * o.N ∧ (o.ker (k + 1)).length < (o.ker k).length) := by show _ ∧ _ ∧ _; omega
            clear hcnt hne hle
            go_wp2
            go_roundw
            case rel => exact ⟨k + 1, n + i, by go_num, HKe, HX.out.1, HX.out.2.1⟩
            case measure =>
              have := HX.out.2.2
              simp only [intOf]
              rw [show ((k : Int) + 1 + 1).toNat - 1 = k + 1 by omega, show ((k : Int) + 1).toNat - 1 = k by omega]
              exact this
end Go.Proofs.YtjonbhimbhidpaaDoor
