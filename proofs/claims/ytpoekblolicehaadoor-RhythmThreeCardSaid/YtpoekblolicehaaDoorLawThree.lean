/-
  The statement RhythmThree: the law answers true for all numbers.
-/
import Derived.Test.YtpoekblolicehaaDoorWalkM
import Derived.Test.YtpoekblolicehaaDoorPlainN
import Derived.Test.YtpoekblolicehaaDoorLawTwo
import Derived.Test.YtpoekblolicehaaDoorWalkO
import Derived.Deep.RegionHeld3
import Derived.Deep.DrawnRows
import Derived.Laws.World
namespace Go.Proofs.YtpoekblolicehaaDoor
open Go.RowKit

/-- append of some ints at a step of a region that draws its order -/
theorem step_app_ints {ops : Array Oper} {o : Oper} {a : Act} {K : Act → World → Prop} {Q : Exit → Act → World → Prop} {E : Prop} {W : World}
    (s x : Operand) (v : Value) (B : Nat) (xs ys : List Int) (ad : Addr) (w0 : World)
    (hgd : o.guard = none) (ho : o.op = .call { callee := .builtin .append, args := #[s, x], argTypes := #[23, 23] })
    (hs : a.eval s = v) (hx : ∃ n c, a.eval x = .slice (some ad) n c ∧ ys.length = n) (hnews : ∀ j, j < ys.length → W.cell? (ad.add j) = some (.int .i64 (ix ys j)))
    (hown : Own W B 3 v (ints xs)) (hlen : xs.length + ys.length < 1099511627776) (hB : B ≤ W.heap.size) (hb : Below B w0 W)
    (h : ∀ v' w', Hid (Own w' B 3 v' (ints (xs ++ ys))) → Hid (Below B w0 w') → Hid (W.grownBy w' v.ownBlock) → K (a.put o.dst v') w') :
    if Region.wanted o (yielded ops a.tmps) = true then Oper.wp Tryd.prog o a W K Q else E := by
  obtain ⟨_, c, hx, rfl⟩ := hx
  have hw : Region.wanted o (yielded ops a.tmps) = true := by simp [Region.wanted, hgd]
  rw [if_pos hw]
  obtain ⟨i0, hi, hz0, hz1, hz2⟩ := info_parts info3
  refine wp_append_own _ s x 23 ho B 3 i0 (.int .i64 0) 1 8 Tryd.underlying23 hi hz0 hz1 hz2 rfl (by decide) v (ints xs).length (ints xs) hs hown
    ad ys.length c (ints ys) hx (by rw [ints_length]; omega) ?_ ?_ (by rw [ints_length]; unfold maxLen; omega) (by rw [ints_length]; omega) hB ?_
  · intro j u hu
    have hj : j < ys.length := by
      have := (List.getElem?_eq_some_iff.1 hu).1
      rwa [ints_length] at this
    rw [hnews j hj]
    have := ints_getD ys j hj
    rw [List.getD_eq_getElem?_getD, hu] at this
    exact congrArg some this.symm
  · intro u hu
    obtain ⟨z, _, rfl⟩ := List.mem_map.1 hu
    rfl
  · intro v' w' hown' hg _
    refine h v' w' ?_ (hb.grown hg hB (fun k hk => (own_ge hown k hk).1)) hg
    refine hid ?_
    unfold Own
    rw [show ints (xs ++ ys) = ints xs ++ ints ys by simp [ints], List.length_append, ints_length ys]
    exact hown'

theorem own_cap {w : World} {B : Nat} {e : TypeId} {ad : Addr} {n cap : Nat} {xs : List Value} (h : Own w B e (.slice (some ad) n cap) xs) : xs.length ≤ cap ∧ ad.block < w.heap.size := by
  have hlt := h.lt ad.block rfl
  obtain ⟨h1, ⟨h2, _⟩ | ⟨g, cap', cur, hv, hB, hh, hn, _⟩⟩ := h
  · cases h2
  · injection hv with _ _ h3
    rw [h3]
    exact ⟨hn, hlt.2⟩
theorem take_at (D : List Int) (y j : Nat) (hj : j < (D.take y).length) : 0 + j < D.length ∧ ix (D.take y) j = ix D (0 + j) := by
  rw [List.length_take] at hj
  refine ⟨by omega, ?_⟩
  unfold ix
  rw [List.getD_eq_getElem?_getD, List.getElem?_take, if_pos (by omega), Nat.zero_add, ← List.getD_eq_getElem?_getD]
theorem drop_at (D : List Int) (y j : Nat) (hj : j < (D.drop y).length) : y + j < D.length ∧ ix (D.drop y) j = ix D (y + j) := by
  rw [List.length_drop] at hj
  refine ⟨by omega, ?_⟩
  unfold ix
  rw [List.getD_eq_getElem?_getD, List.getElem?_drop, ← List.getD_eq_getElem?_getD]
/-- what the region of the insertion keeps -/
theorem s16_of {wr W : World} {T gl x : Nat} {z : Int} (h : wr.cell? ⟨gl, x, none⟩ = some (.int .i64 z)) (hl : gl < T) (hb : Hid (Below T wr W)) : W.cell? ⟨gl, x, none⟩ = some (.int .i64 z) ∧ Hid (Below T wr W) :=
  ⟨(hb.out.cell (p := ⟨gl, x, none⟩) hl).trans h, hb⟩
theorem s16_drew {wr W : World} {T : Nat} (h1 : W.os = wr.os) (h2 : W.tape = wr.tape) (h3 : W.output = wr.output) (h4 : W.heap = wr.heap) : Hid (Below T wr W) :=
  hid ⟨h1, h2, h3, by rw [h4]; exact Nat.le_refl _, fun _ _ => by rw [h4]⟩
theorem s16_alloc {wr W : World} {T : Nat} (hb : Hid (Below T wr W)) (hT : T ≤ wr.heap.size) (o : Obj) : Hid (Below T wr (W.alloc o)) := hid (hb.out.alloc (Nat.le_trans hT hb.out.size) o)
theorem s16_a {W : World} {T : Nat} (hT : T ≤ W.heap.size) (o : Obj) : Hid (Below T W (W.alloc o).drew) := hid ((Below.refl T W).alloc hT o).drew
theorem s16_b {W : World} {T : Nat} (hT : T ≤ W.heap.size) (o o' : Obj) : Hid (Below T W ((W.alloc o).alloc o').drew) := hid (((Below.refl T W).alloc hT o).alloc (by simp; omega) o').drew
theorem s16_c {W : World} {T : Nat} (h : T = W.heap.size) (o : Obj) : T ≤ (W.alloc o).heap.size := by rw [h]; simp
theorem own_made1 (w : World) (o : Obj) (B : Nat) (e : TypeId) (hB : B ≤ w.heap.size) : Own ((w.alloc o).alloc (.cells #[] e)) B e (.slice (some ⟨w.heap.size + 1, 0, none⟩) 0 0) [] := by
  have h := own_made0 (w.alloc o) B e (by simp; omega)
  have e2 : (w.alloc o).heap.size = w.heap.size + 1 := by simp
  rwa [e2] at h
theorem own_shape {w : World} {B : Nat} {e : TypeId} {v : Value} {xs : List Int} (h : Own w B e v (ints xs)) (h1 : 0 < xs.length) : ∃ g n cap, v = .slice (some ⟨g, 0, none⟩) n cap ∧ n = xs.length := by
  obtain ⟨_, ⟨_, h2⟩ | ⟨g, cap, cur, rfl, _⟩⟩ := h
  · rw [ints_length] at h2; omega
  · exact ⟨g, _, cap, rfl, ints_length xs⟩
theorem own_alloc1 {w : World} {B : Nat} {e : TypeId} {v : Value} {xs : List Value} (h : Own w B e v xs) (o : Obj) : Own (w.alloc o) B e v xs := World.ownsRow.alloc h o
theorem own_drew1 {w : World} {B : Nat} {e : TypeId} {v : Value} {xs : List Value} (h : Own w B e v xs) : Own w.drew B e v xs := h
theorem news16 {wr W : World} {T gd : Nat} {D ys : List Int} (off : Nat) (ad : Addr) (hb : Hid (Below T wr W)) (hg : gd < T) (hD : Hid (∀ i, i < D.length → wr.cell? ⟨gd, i, none⟩ = some (.int .i64 (ix D i))))
    (h : ∀ j, j < ys.length → off + j < D.length ∧ ix ys j = ix D (off + j)) (had : ys ≠ [] → ad = ⟨gd, off, none⟩) : ∀ j, j < ys.length → W.cell? (ad.add j) = some (.int .i64 (ix ys j)) := by
  intro j hj
  have he : ys ≠ [] := by rintro rfl; simp at hj
  obtain ⟨h1, h2⟩ := h j hj
  have hadd : ad.add j = ⟨gd, off + j, none⟩ := by
    rw [had he]
    unfold Addr.add; split <;> simp_all
  rw [hadd, h2, ← hD.out _ h1]
  exact hb.out.cell (p := ⟨gd, off + j, none⟩) hg
theorem allocTwo (w : World) (a b : Obj) : ((w.alloc a).alloc b).heap.size = w.heap.size + 2 ∧ Below w.heap.size w ((w.alloc a).alloc b) ∧ ((w.alloc a).alloc b).heap[w.heap.size]? = some a ∧ ((w.alloc a).alloc b).heap[w.heap.size + 1]? = some b := by
  have s1 : (w.alloc a).heap.size = w.heap.size + 1 := by simp
  refine ⟨by simp, ((Below.refl _ _).alloc (Nat.le_refl _) _).alloc (by omega) _, ?_, ?_⟩
  · rw [Below.heap_alloc _ _ _ (by omega)]
    exact heap_alloc_new w a
  · rw [← s1]
    exact heap_alloc_new (w.alloc a) b
theorem newsOne {W : World} {b : Nat} {z : Int} (h : W.heap[b]? = some (.cells #[.int .i64 z] 3 (0, 0))) : ∀ j, j < [z].length → W.cell? ((⟨b, 0, none⟩ : Addr).add j) = some (.int .i64 (ix [z] j)) := by
  intro j hj
  have : j = 0 := by simpa using hj
  subst this
  exact World.news_of_block h 0 _ rfl
theorem newsB2 {W V : World} {z : Int} {A : Obj} (hg : Hid ((((W.alloc A).alloc (.cells #[.int .i64 z] 3)).drew).grownBy V (some W.heap.size))) : V.heap[W.heap.size + 1]? = some (.cells #[.int .i64 z] 3 (0, 0)) := by
  have h := hg.out.block (W.heap.size + 1) (by show _ < ((W.alloc A).alloc _).heap.size; simp) (by simp)
  rw [h]
  exact (allocTwo W A (.cells #[.int .i64 z] 3)).2.2.2
theorem newsB3 {W V : World} {z : Int} {A : Obj} (hg : Hid ((((W.alloc (.cells #[.int .i64 z] 3)).alloc A).drew).grownBy V (some (W.heap.size + 1)))) : V.heap[W.heap.size]? = some (.cells #[.int .i64 z] 3 (0, 0)) := by
  have h := hg.out.block W.heap.size (by show _ < ((W.alloc _).alloc _).heap.size; simp; omega) (by simp)
  rw [h]
  exact (allocTwo W (.cells #[.int .i64 z] 3) A).2.2.1

theorem wf_u16 {z : Int} (h : (Lit.int .u16 z).wf = true) : 0 ≤ z ∧ z ≤ 65535 := by
  simp [Lit.wf, IntKind.min, IntKind.max, IntKind.bits, IntKind.signed] at h
  omega
theorem sum_take_succ (l : List Int) (x : Nat) (h : x < l.length) : (l.take (x + 1)).sum = (l.take x).sum + ix l x := by
  rw [List.take_succ_eq_append_getElem h, List.sum_append]
  simp [ix, h]
theorem difTo_length (g : List Int) : ∀ k, (difTo g k).length ≤ k
  | 0 => Nat.le_refl _
  | k + 1 => by
    have := difTo_length g k
    rw [difTo, insD]
    split
    · have h := posD_le (difTo g k) (ix g k)
      rw [List.length_append, List.length_take, List.length_cons, List.length_drop]
      omega
    · omega
theorem sum_take_bound (l : List Int) (h : ∀ g ∈ l, 1 ≤ g ∧ g ≤ 1000) : ∀ x, x ≤ l.length → 0 ≤ (l.take x).sum ∧ (l.take x).sum ≤ 1000 * x
  | 0, _ => by simp
  | x + 1, hx => by
    have ih := sum_take_bound l h x (by omega)
    rw [sum_take_succ l x hx]
    have hm : ix l x ∈ l := by
      unfold ix
      rw [List.getD_eq_getElem?_getD, List.getElem?_eq_getElem (show x < l.length by omega)]
      simp
    have := h _ hm
    omega

set_option maxHeartbeats 2000000 in
set_option maxRecDepth 100000 in
theorem RhythmThree_ok (s0 c0 l0 : Int) (w : World) (hs : (Lit.int .u16 s0).wf = true) (hc : (Lit.int .u16 c0).wf = true) (hl : (Lit.int .u16 l0).wf = true) :
    Calls Tryd.prog 11 #[.int .u16 s0, .int .u16 c0, .int .u16 l0] w fun e w' => e = .returned (.bool true) ∧ Below w.heap.size w w' := by
  have cL := hid lives_any
  obtain ⟨s1, s2⟩ := wf_u16 hs
  obtain ⟨c1, c2⟩ := wf_u16 hc
  obtain ⟨l1, l2⟩ := wf_u16 hl
  clear hs hc hl
  obtain ⟨m, hm⟩ : ∃ m : Nat, l0 % 1000 = m := ⟨(l0 % 1000).toNat, by omega⟩
  have hm1 : m ≤ 999 := by omega
  have hp : (0 : Int) < (m : Int) + 1 := by omega
  have q1 := Int.emod_nonneg s0 (show (m : Int) + 1 ≠ 0 by omega)
  have q2 := Int.emod_lt_of_pos s0 hp
  have q3 := Int.emod_nonneg c0 (show (m : Int) + 1 ≠ 0 by omega)
  have q4 := Int.emod_lt_of_pos c0 hp
  obtain ⟨s, hs⟩ : ∃ s : Nat, s0 % ((m : Int) + 1) = s := ⟨(s0 % ((m : Int) + 1)).toNat, by omega⟩
  obtain ⟨c, hc⟩ : ∃ c : Nat, c0 % ((m : Int) + 1) = c := ⟨(c0 % ((m : Int) + 1)).toNat, by omega⟩
  rw [hs] at q2
  rw [hc] at q4
  have hsm : s ≤ m := by omega
  have hcm : c ≤ m := by omega
  clear q1 q2 q3 q4
  have cG := fun w => gaps_good s (c + 1) (m + 1) w (by omega) (by omega) (by omega) (by omega) (by omega)
  rw [show ((c + 1 : Nat) : Int) = (c : Int) + 1 by omega, show ((m + 1 : Nat) : Int) = (m : Int) + 1 by omega] at cG
  cases hap : apart s (m + 1) (c + 1)
  · simp only [hap] at cG
    have CG := hid cG
    clear cG hap
    go_enter Tryd.func11, Tryd.ntmps11
    go_wp2_with fail
    refine (CG.out _).mono ?_
    rintro e w1 ⟨v, rfl, hv, hb⟩
    have Hb := hid hb
    obtain ⟨va, vc, rfl, hvl, hvc⟩ := own_isInts (xs := []) hv
    clear hv hb hvl hvc
    go_wp2_with fail
    refine (cL.out _).mono ?_
    rintro e w3 ⟨rfl, hb3⟩
    go_wp2_with fail
    go_ret
    exact ⟨rfl, Hb.out.trans (hb3.mono (by exact Hb.out.size))⟩
  · simp only [hap, if_true] at cG
    have f1 := gaps_length s (m + 1) (c + 1) (by omega) (by omega) hap
    have f2 := gaps_sum s (m + 1) (c + 1) (by omega) (by omega)
    have f3 := three_ok s (m + 1) (c + 1) (by omega) (by omega) hap
    have f4 := fun g hg => gaps_bound s (m + 1) (c + 1) g (by omega) hg
    generalize gaps s (c + 1) (m + 1) = L at *
    have f5 := sum_take_bound L (fun g hg => by have := f4 g hg; omega)
    have F5 := hid f5
    have F4 := hid f4
    have F3 := hid f3
    have F2 := hid f2
    have F1 := hid f1
    have CG := hid cG
    clear cG hap f1 f2 f3 f4 f5
    go_enter Tryd.func11, Tryd.ntmps11
    go_wp2_with fail
    refine (CG.out _).mono ?_
    rintro e w1 ⟨v, rfl, hv, hb⟩
    have Hb := hid hb
    have Hv := hid (own_isInts hv)
    obtain ⟨va, vc, rfl, hvl, hvc⟩ := own_isInts hv
    clear hv hb hvl hvc
    rw [F1.out]
    go_wp2_with fail
    refine (cL.out _).mono ?_
    rintro e w3 ⟨rfl, hb3⟩
    have Hv3 := hid (isInts_below Hv.out hb3)
    have Hb3 := hid (Hb.out.trans (hb3.mono Hb.out.size))
    clear hb3 Hb Hv
    go_wp2_with fail
    have hown0 := own_made0 w3 w3.heap.size 3 (Nat.le_refl _)
    have hbel0 : Below w3.heap.size w3 (w3.alloc (.cells #[] 3)) := (Below.refl _ _).alloc (Nat.le_refl _) _
    obtain ⟨Z, hZ⟩ : ∃ Z, Z = w3.heap.size := ⟨_, rfl⟩
    rw [← hZ] at hown0 hbel0 ⊢
    have HO0 := hid hown0
    have HB0 := hid hbel0
    have HZ := hid hZ
    clear hown0 hbel0 hZ
    go_loopg [12, 13, 14, 15] (c + 1) (fun g d t i _ wr => ∃ (x : Nat) (gd cap : Nat), x ≤ c + 1 ∧ g = c + 1 - x ∧ i = .int .i64 x ∧ t = .int .i64 (L.take x).sum ∧ d = .slice (some ⟨gd, 0, none⟩) (difTo L x).length cap ∧ Hid (Own wr Z 3 (.slice (some ⟨gd, 0, none⟩) (difTo L x).length cap) (ints (difTo L x))) ∧ Hid (Below Z w3 wr))
    case atStart => exact ⟨0, Z, 0, by omega, by omega, rfl, rfl, rfl, HO0.out, HB0.out⟩
    case round =>
      obtain ⟨x, gd, cap, hx, hgx, rfl, rfl, rfl, HO, HB⟩ := hrel
      have HGX := hid hgx; clear hgx
      have hzz := HB.out.size
      rw [← HZ.out] at hzz
      by_cases hxl : x < c + 1
      · have hLx : x < L.length := by rw [F1.out]; exact hxl
        have b1 := F5.out x (by omega)
        have hst := sum_take_succ L x hLx
        have hm := F4.out (ix L x) (by
          unfold ix
          rw [List.getD_eq_getElem?_getD, List.getElem?_eq_getElem hLx]
          simp)
        have HV := hid (isInts_below Hv3.out (by rw [← HZ.out]; exact HB.out))
        obtain ⟨_, _, he, _, hcl⟩ := HV.out
        injection he with e1 e2 e3
        subst e1 e3
        obtain ⟨gl, rfl, cl⟩ := hcl x hLx
        have hdt : difTo L (x + 1) = insD (difTo L x) (ix L x) := rfl
        have hdl := difTo_length L x
        have hdi := own_isInts HO.out
        obtain ⟨_, _, he, _, hdc⟩ := hdi
        injection he with e1 e2 e3
        have HDC := hid (fun i hi => show wr.cell? ⟨gd, i, none⟩ = some (.int .i64 (ix (difTo L x) i)) by
          obtain ⟨g', hg', hcell⟩ := hdc i hi
          rw [← e1] at hg'
          injection hg' with hg'
          injection hg' with hg'
          subst hg'
          exact hcell)
        have hpl := posD_le (difTo L x) (ix L x)
        have HPLT := hid (posD_lt (difTo L x) (ix L x))
        have HPGE := hid (posD_ge (difTo L x) (ix L x))
        obtain ⟨hcap, hgd⟩ := own_cap HO.out
        rw [ints_length] at hcap
        unfold insD at hdt
        clear e1 e2 e3 hdc hcl
        generalize hD : difTo L x = D at *
        generalize hzz2 : ix L x = z at *
        generalize hP : posD D z = P at *
        generalize hDl : D.length = N at *
        generalize (L.take x).sum = S at *
        have HD := hid hD
        have HZ2 := hid hzz2
        have HP := hid hP
        have HDL := hid hDl
        have HST := hid hst
        have HDT := hid hdt
        clear hD hzz2 hP hDl hst hdt hLx
        have i1 : (x : Int) < (c : Int) + 1 := by omega
        have i2 : IntKind.i64.wrap (S + z) = S + z := IntWalk.i64_in _ (by omega)
        go_wp2_with fail
        go_loopg [15] N (fun g k wi => ∃ (y : Nat), y ≤ P ∧ g = N - y ∧ k = .int .i64 y ∧ ∃ m, wi = wr.drewN m)
        case atStart => exact ⟨0, by omega, by omega, rfl, 0, rfl⟩
        case round =>
          obtain ⟨y, hy, hgy, rfl, m4, rfl⟩ := hrel
          have HGY := hid hgy; clear hgy
          by_cases hyp : y < P
          · have hlt := HPLT.out y hyp
            have cD := HDC.out y (by omega)
            generalize ix D y = dy at *
            have j1 : (y : Int) < N := by omega
            have j2 : decide (y < N) = true := decide_eq_true (by omega)
            have j3 : decide (dy < z) = true := decide_eq_true hlt
            go_wp2_with fail
            go_quiet (fail)
            go_wp2_with fail
            go_roundg (N - (y + 1))
            case measure => have := HGY.out; omega
            case rel => exact ⟨y + 1, by omega, rfl, by go_num, (by first | exact ⟨_, rfl⟩ | exact drew2 _ _ _)⟩
          · obtain rfl : y = P := by omega
            have key : (y = N ∧ decide (y < N) = false) ∨ (y < N ∧ ix D y ≠ z ∧ decide (ix D y < z) = false) ∨ (y < N ∧ ix D y = z) := by
              by_cases h1 : y = N
              · exact .inl ⟨h1, decide_eq_false (by omega)⟩
              · by_cases h2 : ix D y = z
                · exact .inr (.inr ⟨by omega, h2⟩)
                · exact .inr (.inl ⟨by omega, h2, decide_eq_false (by have := HPGE.out (by omega); omega)⟩)
            rcases key with ⟨k1, k2⟩ | ⟨k1, k2, k3⟩ | ⟨k1, k2⟩
            · have k3 : (y == N) = true := by simp [k1]
              have k4 : ((y : Int) == (N : Int)) = true := by simp [k1]
              have HK1 := hid k1
              clear k1
              go_wp2_with fail
              go_quiet (fail)
              go_wp2_with fail
              go_quiet (fail)
              go_wp2_with fail
              generalize hW1 : World.drewN _ _ = W1
              have hh1 : W1.heap = wr.heap := by rw [← hW1]; rfl
              have HW1 : Hid (Below wr.heap.size wr W1) := s16_drew (by rw [← hW1]; rfl) (by rw [← hW1]; rfl) (by rw [← hW1]; rfl) hh1
              have HDC1 : Hid (∀ i, i < D.length → W1.cell? ⟨gd, i, none⟩ = some (.int .i64 (ix D i))) := by
                refine hid fun i hi => ?_
                rw [← HDC.out i (by rw [← HDL.out]; exact hi)]
                exact World.cell?_of_block (by rw [hh1])
              have cl1 : W1.cell? ⟨gl, x, none⟩ = some (.int .i64 z) := by rw [← cl]; exact World.cell?_of_block (by rw [hh1])
              have hgd1 : gd < W1.heap.size := by rw [hh1]; exact hgd
              clear hh1 hW1
              obtain ⟨T, hT⟩ : ∃ T, T = W1.heap.size := ⟨_, rfl⟩
              have HT := hid hT
              clear hT
              have u1 : (y : Int) ≤ cap := by omega
              have u2 : (y : Int) ≤ N := by omega
              have u3 : (0 : Int) ≤ (y : Int) := by omega
              have HNO : y = cap → D.drop y = [] := fun h => List.drop_of_length_le (by rw [HDL.out]; omega)
              have HWR := HW1
              by_cases hcy : y = cap
              · subst hcy
                have HAD : D.drop y ≠ [] → (⟨gd, 0, none⟩ : Addr) = ⟨gd, y, none⟩ := fun h => absurd (HNO rfl) h
                clear HNO
                have hglT : gl < T := by rw [HT.out]; exact World.block_lt_of_cell? W1 _ cl1
                go_region_held3 (fun w' => w'.cell? ⟨gl, x, none⟩ = some (.int .i64 z) ∧ Hid (Below T W1 w'))
                  (first
                    | exact s16_of cl1 hglT (s16_drew rfl rfl rfl rfl)
                    | exact s16_of cl1 hglT (s16_a (by rw [HT.out]; exact Nat.le_refl _) _)
                    | exact s16_of cl1 hglT (s16_b (by rw [HT.out]; exact Nat.le_refl _) _ _)
                    | (refine s16_of cl1 hglT (s16_alloc ?_ (by rw [HT.out]; exact Nat.le_refl _) _); first | assumption | (go_split_ands; assumption))
                    | (refine s16_of cl1 hglT ?_; first | assumption | (go_split_ands; assumption))
                    | (trace_state; fail))
                  ((first
                    | (refine step_app_ints (o := ⟨some 101, _, _, _, _, _⟩) (.tmp 97) (.tmp 100) _ T [] (D.take y) ⟨gd, 0, none⟩ W1 (by rfl) (by rfl) (by rfl) (by refine ⟨_, _, by rfl, ?_⟩; first | rfl | (rw [List.length_take, HDL.out]; omega) | (rw [List.length_drop, HDL.out]; done) | (rw [List.length_drop, HDL.out]; omega))
                        (news16 0 _ (by first | assumption | (go_split_ands; assumption)) (by rw [HT.out]; exact hgd1) HDC1 (fun j hj => take_at D y j hj) (fun _ => rfl))
                        (by first | exact own_drew1 (own_made0 _ _ _ (Nat.le_of_eq HT.out)) | exact own_drew1 (own_alloc1 (own_made0 _ _ _ (Nat.le_of_eq HT.out)) _) | exact own_drew1 (own_made1 _ _ _ _ (Nat.le_of_eq HT.out))) (by rw [List.length_take]; simp; omega) (by have h1 := HT.out; first | omega | (simp; omega)) (by have hz := ‹_ ∧ Hid (Below T W1 _)›.2; exact hz.out) ?_
                       intro v1 W2 HO1 HB1 HG1)
                    | (refine step_app_ints (o := ⟨some 107, _, _, _, _, _⟩) (.tmp 101) (.tmp 106) v1 T ([] ++ D.take y) [z] ⟨_, 0, none⟩ W1 (by rfl) (by rfl) (by rfl) (by refine ⟨_, _, by rfl, ?_⟩; first | rfl | (rw [List.length_take, HDL.out]; omega) | (rw [List.length_drop, HDL.out]; done) | (rw [List.length_drop, HDL.out]; omega))
                        (by first | exact newsOne (heap_alloc_new _ _) | exact newsOne (newsB2 HG1) | exact newsOne (newsB3 HG1))
                        (by first | exact HO1.out | exact own_alloc1 HO1.out _) (by rw [List.length_append, List.length_take]; simp; omega) (by have h1 := HT.out; have h2 := HB1.out.size; first | omega | (simp; omega)) (by have hz := ‹_ ∧ Hid (Below T W1 _)›.2; exact hz.out) ?_
                       intro v2 W3 HO2 HB2 HG2)
                    | (refine step_app_ints (o := ⟨some 111, _, _, _, _, _⟩) (.tmp 107) (.tmp 110) v2 T ([] ++ D.take y ++ [z]) (D.drop y) ⟨gd, 0, none⟩ W1 (by rfl) (by rfl) (by rfl) (by refine ⟨_, _, by rfl, ?_⟩; first | rfl | (rw [List.length_take, HDL.out]; omega) | (rw [List.length_drop, HDL.out]; done) | (rw [List.length_drop, HDL.out]; omega))
                        (news16 y _ HB2 (by rw [HT.out]; exact hgd1) HDC1 (fun j hj => drop_at D y j hj) HAD)
                        HO2.out (by rw [List.length_append, List.length_append, List.length_take, List.length_drop, HDL.out]; simp; omega) (by have := HT.out; have := HB2.out.size; omega) HB2.out ?_
                       intro v3 W4 HO3 HB3 HG3)))
                all_goals
                  obtain ⟨g4, n4, cap4, rfl, hn4⟩ := own_shape HO3.out (by rw [List.length_append, List.length_append]; simp; omega)
                  have HN4 := hid hn4
                  clear hn4
                  have HL4 := hid (show ([] ++ D.take y ++ [z] ++ D.drop y) = difTo L (x + 1) by
                    rw [HDT.out, if_pos (.inl HK1.out), List.nil_append, List.append_assoc, List.singleton_append])
                  go_wp2_with fail
                  go_roundg (c + 1 - (x + 1))
                  case measure => have := HGX.out; omega
                  case rel =>
                    have h3 := HO3.out
                    have hn4 := HN4.out
                    rw [HL4.out] at h3 hn4
                    rw [hn4] at h3 ⊢
                    have hb1 : Below Z wr W4 := (HWR.out.mono (by exact hzz)).trans (HB3.out.mono (by rw [HT.out]; have := HWR.out.size; omega))
                    exact ⟨x + 1, g4, cap4, by omega, rfl, by go_num, by rw [HST.out], rfl, own_mono h3 (by rw [HT.out]; have := HWR.out.size; omega), HB.out.trans hb1⟩
              · clear HNO
                have HAD : D.drop y ≠ [] → (⟨gd, y, none⟩ : Addr) = ⟨gd, y, none⟩ := fun _ => rfl
                have hcy2 : ¬ cap = y := fun h => hcy h.symm
                have hglT : gl < T := by rw [HT.out]; exact World.block_lt_of_cell? W1 _ cl1
                go_region_held3 (fun w' => w'.cell? ⟨gl, x, none⟩ = some (.int .i64 z) ∧ Hid (Below T W1 w'))
                  (first
                    | exact s16_of cl1 hglT (s16_drew rfl rfl rfl rfl)
                    | exact s16_of cl1 hglT (s16_a (by rw [HT.out]; exact Nat.le_refl _) _)
                    | exact s16_of cl1 hglT (s16_b (by rw [HT.out]; exact Nat.le_refl _) _ _)
                    | (refine s16_of cl1 hglT (s16_alloc ?_ (by rw [HT.out]; exact Nat.le_refl _) _); first | assumption | (go_split_ands; assumption))
                    | (refine s16_of cl1 hglT ?_; first | assumption | (go_split_ands; assumption))
                    | (trace_state; fail))
                  ((first
                    | (refine step_app_ints (o := ⟨some 101, _, _, _, _, _⟩) (.tmp 97) (.tmp 100) _ T [] (D.take y) ⟨gd, 0, none⟩ W1 (by rfl) (by rfl) (by rfl) (by refine ⟨_, _, by rfl, ?_⟩; first | rfl | (rw [List.length_take, HDL.out]; omega) | (rw [List.length_drop, HDL.out]; done) | (rw [List.length_drop, HDL.out]; omega))
                        (news16 0 _ (by first | assumption | (go_split_ands; assumption)) (by rw [HT.out]; exact hgd1) HDC1 (fun j hj => take_at D y j hj) (fun _ => rfl))
                        (by first | exact own_drew1 (own_made0 _ _ _ (Nat.le_of_eq HT.out)) | exact own_drew1 (own_alloc1 (own_made0 _ _ _ (Nat.le_of_eq HT.out)) _) | exact own_drew1 (own_made1 _ _ _ _ (Nat.le_of_eq HT.out))) (by rw [List.length_take]; simp; omega) (by have h1 := HT.out; first | omega | (simp; omega)) (by have hz := ‹_ ∧ Hid (Below T W1 _)›.2; exact hz.out) ?_
                       intro v1 W2 HO1 HB1 HG1)
                    | (refine step_app_ints (o := ⟨some 107, _, _, _, _, _⟩) (.tmp 101) (.tmp 106) v1 T ([] ++ D.take y) [z] ⟨_, 0, none⟩ W1 (by rfl) (by rfl) (by rfl) (by refine ⟨_, _, by rfl, ?_⟩; first | rfl | (rw [List.length_take, HDL.out]; omega) | (rw [List.length_drop, HDL.out]; done) | (rw [List.length_drop, HDL.out]; omega))
                        (by first | exact newsOne (heap_alloc_new _ _) | exact newsOne (newsB2 HG1) | exact newsOne (newsB3 HG1))
                        (by first | exact HO1.out | exact own_alloc1 HO1.out _) (by rw [List.length_append, List.length_take]; simp; omega) (by have h1 := HT.out; have h2 := HB1.out.size; first | omega | (simp; omega)) (by have hz := ‹_ ∧ Hid (Below T W1 _)›.2; exact hz.out) ?_
                       intro v2 W3 HO2 HB2 HG2)
                    | (refine step_app_ints (o := ⟨some 111, _, _, _, _, _⟩) (.tmp 107) (.tmp 110) v2 T ([] ++ D.take y ++ [z]) (D.drop y) ⟨gd, y, none⟩ W1 (by rfl) (by rfl) (by rfl) (by refine ⟨_, _, by rfl, ?_⟩; first | rfl | (rw [List.length_take, HDL.out]; omega) | (rw [List.length_drop, HDL.out]; done) | (rw [List.length_drop, HDL.out]; omega))
                        (news16 y _ HB2 (by rw [HT.out]; exact hgd1) HDC1 (fun j hj => drop_at D y j hj) HAD)
                        HO2.out (by rw [List.length_append, List.length_append, List.length_take, List.length_drop, HDL.out]; simp; omega) (by have := HT.out; have := HB2.out.size; omega) HB2.out ?_
                       intro v3 W4 HO3 HB3 HG3)))
                all_goals
                  obtain ⟨g4, n4, cap4, rfl, hn4⟩ := own_shape HO3.out (by rw [List.length_append, List.length_append]; simp; omega)
                  have HN4 := hid hn4
                  clear hn4
                  have HL4 := hid (show ([] ++ D.take y ++ [z] ++ D.drop y) = difTo L (x + 1) by
                    rw [HDT.out, if_pos (.inl HK1.out), List.nil_append, List.append_assoc, List.singleton_append])
                  go_wp2_with fail
                  go_roundg (c + 1 - (x + 1))
                  case measure => have := HGX.out; omega
                  case rel =>
                    have h3 := HO3.out
                    have hn4 := HN4.out
                    rw [HL4.out] at h3 hn4
                    rw [hn4] at h3 ⊢
                    have hb1 : Below Z wr W4 := (HWR.out.mono (by exact hzz)).trans (HB3.out.mono (by rw [HT.out]; have := HWR.out.size; omega))
                    exact ⟨x + 1, g4, cap4, by omega, rfl, by go_num, by rw [HST.out], rfl, own_mono h3 (by rw [HT.out]; have := HWR.out.size; omega), HB.out.trans hb1⟩
            · have k4 : (y == N) = false := by simp; omega
              have k5 : ((y : Int) == (N : Int)) = false := by rw [beq_eq_false_iff_ne]; omega
              have cDy := HDC.out y (by omega)
              have k6 : (ix D y == z) = false := by simpa using k2
              have k7 : (ix D y != z) = true := by simpa using k2
              have j1 : (y : Int) < N := by omega
              have j2 : decide (y < N) = true := decide_eq_true (by omega)
              have HK2 := hid k2
              clear k2
              generalize ix D y = dy at *
              go_wp2_with fail
              go_quiet (fail)
              go_wp2_with fail
              go_quiet (fail)
              go_wp2_with fail
              generalize hW1 : World.drewN _ _ = W1
              have hh1 : W1.heap = wr.heap := by rw [← hW1]; rfl
              have HW1 : Hid (Below wr.heap.size wr W1) := s16_drew (by rw [← hW1]; rfl) (by rw [← hW1]; rfl) (by rw [← hW1]; rfl) hh1
              have HDC1 : Hid (∀ i, i < D.length → W1.cell? ⟨gd, i, none⟩ = some (.int .i64 (ix D i))) := by
                refine hid fun i hi => ?_
                rw [← HDC.out i (by rw [← HDL.out]; exact hi)]
                exact World.cell?_of_block (by rw [hh1])
              have cl1 : W1.cell? ⟨gl, x, none⟩ = some (.int .i64 z) := by rw [← cl]; exact World.cell?_of_block (by rw [hh1])
              have hgd1 : gd < W1.heap.size := by rw [hh1]; exact hgd
              clear hh1 hW1
              obtain ⟨T, hT⟩ : ∃ T, T = W1.heap.size := ⟨_, rfl⟩
              have HT := hid hT
              clear hT
              have u1 : (y : Int) ≤ cap := by omega
              have u2 : (y : Int) ≤ N := by omega
              have u3 : (0 : Int) ≤ (y : Int) := by omega
              have HNO : y = cap → D.drop y = [] := fun h => List.drop_of_length_le (by rw [HDL.out]; omega)
              have HWR := HW1
              by_cases hcy : y = cap
              · subst hcy
                have HAD : D.drop y ≠ [] → (⟨gd, 0, none⟩ : Addr) = ⟨gd, y, none⟩ := fun h => absurd (HNO rfl) h
                clear HNO
                have hglT : gl < T := by rw [HT.out]; exact World.block_lt_of_cell? W1 _ cl1
                go_region_held3 (fun w' => w'.cell? ⟨gl, x, none⟩ = some (.int .i64 z) ∧ Hid (Below T W1 w'))
                  (first
                    | exact s16_of cl1 hglT (s16_drew rfl rfl rfl rfl)
                    | exact s16_of cl1 hglT (s16_a (by rw [HT.out]; exact Nat.le_refl _) _)
                    | exact s16_of cl1 hglT (s16_b (by rw [HT.out]; exact Nat.le_refl _) _ _)
                    | (refine s16_of cl1 hglT (s16_alloc ?_ (by rw [HT.out]; exact Nat.le_refl _) _); first | assumption | (go_split_ands; assumption))
                    | (refine s16_of cl1 hglT ?_; first | assumption | (go_split_ands; assumption))
                    | (trace_state; fail))
                  ((first
                    | (refine step_app_ints (o := ⟨some 101, _, _, _, _, _⟩) (.tmp 97) (.tmp 100) _ T [] (D.take y) ⟨gd, 0, none⟩ W1 (by rfl) (by rfl) (by rfl) (by refine ⟨_, _, by rfl, ?_⟩; first | rfl | (rw [List.length_take, HDL.out]; omega) | (rw [List.length_drop, HDL.out]; done) | (rw [List.length_drop, HDL.out]; omega))
                        (news16 0 _ (by first | assumption | (go_split_ands; assumption)) (by rw [HT.out]; exact hgd1) HDC1 (fun j hj => take_at D y j hj) (fun _ => rfl))
                        (by first | exact own_drew1 (own_made0 _ _ _ (Nat.le_of_eq HT.out)) | exact own_drew1 (own_alloc1 (own_made0 _ _ _ (Nat.le_of_eq HT.out)) _) | exact own_drew1 (own_made1 _ _ _ _ (Nat.le_of_eq HT.out))) (by rw [List.length_take]; simp; omega) (by have h1 := HT.out; first | omega | (simp; omega)) (by have hz := ‹_ ∧ Hid (Below T W1 _)›.2; exact hz.out) ?_
                       intro v1 W2 HO1 HB1 HG1)
                    | (refine step_app_ints (o := ⟨some 107, _, _, _, _, _⟩) (.tmp 101) (.tmp 106) v1 T ([] ++ D.take y) [z] ⟨_, 0, none⟩ W1 (by rfl) (by rfl) (by rfl) (by refine ⟨_, _, by rfl, ?_⟩; first | rfl | (rw [List.length_take, HDL.out]; omega) | (rw [List.length_drop, HDL.out]; done) | (rw [List.length_drop, HDL.out]; omega))
                        (by first | exact newsOne (heap_alloc_new _ _) | exact newsOne (newsB2 HG1) | exact newsOne (newsB3 HG1))
                        (by first | exact HO1.out | exact own_alloc1 HO1.out _) (by rw [List.length_append, List.length_take]; simp; omega) (by have h1 := HT.out; have h2 := HB1.out.size; first | omega | (simp; omega)) (by have hz := ‹_ ∧ Hid (Below T W1 _)›.2; exact hz.out) ?_
                       intro v2 W3 HO2 HB2 HG2)
                    | (refine step_app_ints (o := ⟨some 111, _, _, _, _, _⟩) (.tmp 107) (.tmp 110) v2 T ([] ++ D.take y ++ [z]) (D.drop y) ⟨gd, 0, none⟩ W1 (by rfl) (by rfl) (by rfl) (by refine ⟨_, _, by rfl, ?_⟩; first | rfl | (rw [List.length_take, HDL.out]; omega) | (rw [List.length_drop, HDL.out]; done) | (rw [List.length_drop, HDL.out]; omega))
                        (news16 y _ HB2 (by rw [HT.out]; exact hgd1) HDC1 (fun j hj => drop_at D y j hj) HAD)
                        HO2.out (by rw [List.length_append, List.length_append, List.length_take, List.length_drop, HDL.out]; simp; omega) (by have := HT.out; have := HB2.out.size; omega) HB2.out ?_
                       intro v3 W4 HO3 HB3 HG3)))
                all_goals
                  obtain ⟨g4, n4, cap4, rfl, hn4⟩ := own_shape HO3.out (by rw [List.length_append, List.length_append]; simp; omega)
                  have HN4 := hid hn4
                  clear hn4
                  have HL4 := hid (show ([] ++ D.take y ++ [z] ++ D.drop y) = difTo L (x + 1) by
                    rw [HDT.out, if_pos (.inr HK2.out), List.nil_append, List.append_assoc, List.singleton_append])
                  go_wp2_with fail
                  go_roundg (c + 1 - (x + 1))
                  case measure => have := HGX.out; omega
                  case rel =>
                    have h3 := HO3.out
                    have hn4 := HN4.out
                    rw [HL4.out] at h3 hn4
                    rw [hn4] at h3 ⊢
                    have hb1 : Below Z wr W4 := (HWR.out.mono (by exact hzz)).trans (HB3.out.mono (by rw [HT.out]; have := HWR.out.size; omega))
                    exact ⟨x + 1, g4, cap4, by omega, rfl, by go_num, by rw [HST.out], rfl, own_mono h3 (by rw [HT.out]; have := HWR.out.size; omega), HB.out.trans hb1⟩
              · clear HNO
                have HAD : D.drop y ≠ [] → (⟨gd, y, none⟩ : Addr) = ⟨gd, y, none⟩ := fun _ => rfl
                have hcy2 : ¬ cap = y := fun h => hcy h.symm
                have hglT : gl < T := by rw [HT.out]; exact World.block_lt_of_cell? W1 _ cl1
                go_region_held3 (fun w' => w'.cell? ⟨gl, x, none⟩ = some (.int .i64 z) ∧ Hid (Below T W1 w'))
                  (first
                    | exact s16_of cl1 hglT (s16_drew rfl rfl rfl rfl)
                    | exact s16_of cl1 hglT (s16_a (by rw [HT.out]; exact Nat.le_refl _) _)
                    | exact s16_of cl1 hglT (s16_b (by rw [HT.out]; exact Nat.le_refl _) _ _)
                    | (refine s16_of cl1 hglT (s16_alloc ?_ (by rw [HT.out]; exact Nat.le_refl _) _); first | assumption | (go_split_ands; assumption))
                    | (refine s16_of cl1 hglT ?_; first | assumption | (go_split_ands; assumption))
                    | (trace_state; fail))
                  ((first
                    | (refine step_app_ints (o := ⟨some 101, _, _, _, _, _⟩) (.tmp 97) (.tmp 100) _ T [] (D.take y) ⟨gd, 0, none⟩ W1 (by rfl) (by rfl) (by rfl) (by refine ⟨_, _, by rfl, ?_⟩; first | rfl | (rw [List.length_take, HDL.out]; omega) | (rw [List.length_drop, HDL.out]; done) | (rw [List.length_drop, HDL.out]; omega))
                        (news16 0 _ (by first | assumption | (go_split_ands; assumption)) (by rw [HT.out]; exact hgd1) HDC1 (fun j hj => take_at D y j hj) (fun _ => rfl))
                        (by first | exact own_drew1 (own_made0 _ _ _ (Nat.le_of_eq HT.out)) | exact own_drew1 (own_alloc1 (own_made0 _ _ _ (Nat.le_of_eq HT.out)) _) | exact own_drew1 (own_made1 _ _ _ _ (Nat.le_of_eq HT.out))) (by rw [List.length_take]; simp; omega) (by have h1 := HT.out; first | omega | (simp; omega)) (by have hz := ‹_ ∧ Hid (Below T W1 _)›.2; exact hz.out) ?_
                       intro v1 W2 HO1 HB1 HG1)
                    | (refine step_app_ints (o := ⟨some 107, _, _, _, _, _⟩) (.tmp 101) (.tmp 106) v1 T ([] ++ D.take y) [z] ⟨_, 0, none⟩ W1 (by rfl) (by rfl) (by rfl) (by refine ⟨_, _, by rfl, ?_⟩; first | rfl | (rw [List.length_take, HDL.out]; omega) | (rw [List.length_drop, HDL.out]; done) | (rw [List.length_drop, HDL.out]; omega))
                        (by first | exact newsOne (heap_alloc_new _ _) | exact newsOne (newsB2 HG1) | exact newsOne (newsB3 HG1))
                        (by first | exact HO1.out | exact own_alloc1 HO1.out _) (by rw [List.length_append, List.length_take]; simp; omega) (by have h1 := HT.out; have h2 := HB1.out.size; first | omega | (simp; omega)) (by have hz := ‹_ ∧ Hid (Below T W1 _)›.2; exact hz.out) ?_
                       intro v2 W3 HO2 HB2 HG2)
                    | (refine step_app_ints (o := ⟨some 111, _, _, _, _, _⟩) (.tmp 107) (.tmp 110) v2 T ([] ++ D.take y ++ [z]) (D.drop y) ⟨gd, y, none⟩ W1 (by rfl) (by rfl) (by rfl) (by refine ⟨_, _, by rfl, ?_⟩; first | rfl | (rw [List.length_take, HDL.out]; omega) | (rw [List.length_drop, HDL.out]; done) | (rw [List.length_drop, HDL.out]; omega))
                        (news16 y _ HB2 (by rw [HT.out]; exact hgd1) HDC1 (fun j hj => drop_at D y j hj) HAD)
                        HO2.out (by rw [List.length_append, List.length_append, List.length_take, List.length_drop, HDL.out]; simp; omega) (by have := HT.out; have := HB2.out.size; omega) HB2.out ?_
                       intro v3 W4 HO3 HB3 HG3)))
                all_goals
                  obtain ⟨g4, n4, cap4, rfl, hn4⟩ := own_shape HO3.out (by rw [List.length_append, List.length_append]; simp; omega)
                  have HN4 := hid hn4
                  clear hn4
                  have HL4 := hid (show ([] ++ D.take y ++ [z] ++ D.drop y) = difTo L (x + 1) by
                    rw [HDT.out, if_pos (.inr HK2.out), List.nil_append, List.append_assoc, List.singleton_append])
                  go_wp2_with fail
                  go_roundg (c + 1 - (x + 1))
                  case measure => have := HGX.out; omega
                  case rel =>
                    have h3 := HO3.out
                    have hn4 := HN4.out
                    rw [HL4.out] at h3 hn4
                    rw [hn4] at h3 ⊢
                    have hb1 : Below Z wr W4 := (HWR.out.mono (by exact hzz)).trans (HB3.out.mono (by rw [HT.out]; have := HWR.out.size; omega))
                    exact ⟨x + 1, g4, cap4, by omega, rfl, by go_num, by rw [HST.out], rfl, own_mono h3 (by rw [HT.out]; have := HWR.out.size; omega), HB.out.trans hb1⟩
            · have k4 : (y == N) = false := by simp; omega
              have k5 : ((y : Int) == (N : Int)) = false := by rw [beq_eq_false_iff_ne]; omega
              have cDy := HDC.out y (by omega)
              rw [k2] at cDy
              have j1 : (y : Int) < N := by omega
              have j2 : decide (y < N) = true := decide_eq_true (by omega)
              have j3 : (z != z) = false := by simp
              have j4 : decide (z < z) = false := decide_eq_false (by omega)
              have hDE : difTo L (x + 1) = D := by
                rw [HDT.out, if_neg]
                rintro (h | h)
                · omega
                · exact h k2
              have HDE := hid hDE
              clear k2 hDE
              go_wp2_with fail
              go_quiet (fail)
              go_wp2_with fail
              go_quiet (fail)
              go_wp2_with fail
              go_roundg (c + 1 - (x + 1))
              case measure => have := HGX.out; omega
              case rel =>
                exact ⟨x + 1, gd, cap, by omega, rfl, by go_num, by rw [HST.out], by rw [HDE.out, HDL.out], by rw [HDE.out, HDL.out]; exact HO, (by first | exact below_drewN_r HB.out _ | exact below_drewN_r (below_drewN_r HB.out _) _)⟩
      · obtain rfl : x = c + 1 := by omega
        have hall : L.take (c + 1) = L := List.take_of_length_le (by rw [F1.out]; exact Nat.le_refl _)
        have hsum := F2.out
        obtain ⟨t1, t2⟩ := F3.out
        rw [F1.out] at t1 t2
        have hb := fun k (hk : k < (difTo L (c + 1)).length) => F4.out (ix (difTo L (c + 1)) k) (difTo_mem L (c + 1) (by rw [F1.out]; exact Nat.le_refl _) _ (by
          unfold ix
          rw [List.getD_eq_getElem?_getD, List.getElem?_eq_getElem hk]
          simp))
        obtain ⟨_, _, he, _, hdc⟩ := own_isInts HO.out
        injection he with e1 e2 e3
        have HDC := hid (fun i hi => show wr.cell? ⟨gd, i, none⟩ = some (.int .i64 (ix (difTo L (c + 1)) i)) by
          obtain ⟨g', hg', hcell⟩ := hdc i hi
          rw [← e1] at hg'
          injection hg' with hg'
          injection hg' with hg'
          subst hg'
          exact hcell)
        rw [hall, hsum]
        clear e1 e2 e3 hdc hall hsum
        generalize hD : difTo L (c + 1) = D at *
        generalize hDl : D.length = N at *
        have HBF := hid (Hb3.out.trans (HB.out.mono (by rw [HZ.out]; exact Hb3.out.size)))
        clear hD
        have HDL := hid hDl
        clear hDl
        have k1 : ((c : Int) + 1 == (c : Int) + 1) = true := by simp
        have k2 : ((m : Int) + 1 == (m : Int) + 1) = true := by simp
        have k3 : decide (N ≤ 3) = true := decide_eq_true t1
        have k3' : decide ((N : Int) ≤ 3) = true := decide_eq_true (by omega)
        have k8 : ((m + 1 : Nat) : Int) = (m : Int) + 1 := by omega
        rw [k8]
        clear k8
        by_cases hN : N < 3
        · have k4 : decide (N < 3) = true := decide_eq_true hN
          have k4' : decide ((N : Int) < 3) = true := decide_eq_true (by omega)
          clear t2 hb
          go_wp2_with fail
          go_quiet (fail)
          go_wp2_with fail
          go_ret
          exact ⟨rfl, below_drewN_r HBF.out _⟩
        · obtain rfl : N = 3 := by omega
          have d0 := HDC.out 0 (by omega)
          have d1 := HDC.out 1 (by omega)
          have d2 := HDC.out 2 (by omega)
          have b0 := hb 0 (by omega)
          have b1 := hb 1 (by omega)
          have b2 := hb 2 (by omega)
          have hs := t2 (by omega)
          clear t2 hb
          generalize ix D 0 = e0 at *
          generalize ix D 1 = e1 at *
          generalize ix D 2 = e2 at *
          have w1 : IntKind.i64.wrap (e0 + e1) = e0 + e1 := IntWalk.i64_in _ (by omega)
          have w2 : (e0 + e1 == e2) = true := by simpa using hs
          clear hs
          go_wp2_with fail
          go_quiet (fail)
          go_wp2_with fail
          go_ret
          exact ⟨rfl, below_drewN_r HBF.out _⟩
end Go.Proofs.YtpoekblolicehaaDoor
