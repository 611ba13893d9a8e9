/-
  The law TemperAgain of chapter 6: its contract.
-/
import Derived.Test.YtjonbhimbhidpaaDoorWalkAF
namespace Go.Proofs.YtjonbhimbhidpaaDoor
open Go.RowKit
theorem wpl_app_mv {ops : Array Oper} {rest : List Oper} {o : Oper} {a : Act} {Q : Exit → Act → World → Prop} {W : World} (m : Mv)
    (s x : Operand) (v : Value) (B : Nat) (ms : List Mv)
    (hgd : o.guard = none) (ho : o.op = .call { callee := .builtin .append, args := #[s, x], argTypes := #[23, 23] })
    (hs : a.eval s = v) (hx : a.eval x = .slice (some ⟨W.heap.size, 0, none⟩) 1 1)
    (hown : W.ownsRow B 53 4 v ms.length (mcells ms)) (hlen : ms.length < 1000000) (hB : B ≤ W.heap.size)
    (h : ∀ v' w', w'.ownsRow B 53 4 v' (ms.length + 1) (mcells ms ++ [.int .i64 m.1, .int .i64 m.2.1, .int .i64 m.2.2.1, .int .i64 m.2.2.2]) → (W.alloc (.cells #[.int .i64 m.1, .int .i64 m.2.1, .int .i64 m.2.2.1, .int .i64 m.2.2.2] 53)).grownBy w' v.ownBlock → wpList Tryd.prog ops Q rest (a.put o.dst v') w') :
    wpList Tryd.prog ops Q (o :: rest) a (W.alloc (.cells #[.int .i64 m.1, .int .i64 m.2.1, .int .i64 m.2.2.1, .int .i64 m.2.2.2] 53)) :=
  wpl_appn hgd s x 23 53 ho _ 4 32 info53 rfl (by decide) Tryd.underlying23 v B ms.length (mcells ms) hs hown [.int .i64 m.1, .int .i64 m.2.1, .int .i64 m.2.2.1, .int .i64 m.2.2.2] rfl (by simp [Value.oneCell']) hx
    (by omega) (by unfold maxLen; omega) hB (fun v' w' h1 h2 => h v' w' h1 h2.grown)
theorem wpl_app_jl {ops : Array Oper} {rest : List Oper} {o : Oper} {a : Act} {Q : Exit → Act → World → Prop} {W : World} (m : Int × Int)
    (s x : Operand) (v : Value) (B : Nat) (ms : List (Int × Int))
    (hgd : o.guard = none) (ho : o.op = .call { callee := .builtin .append, args := #[s, x], argTypes := #[24, 24] })
    (hs : a.eval s = v) (hx : a.eval x = .slice (some ⟨W.heap.size, 0, none⟩) 1 1)
    (hown : W.ownsRow B 55 2 v ms.length (jcells ms)) (hlen : ms.length < 1000000) (hB : B ≤ W.heap.size)
    (h : ∀ v' w', w'.ownsRow B 55 2 v' (ms.length + 1) (jcells ms ++ [.int .i64 m.1, .int .i64 m.2]) → (W.alloc (.cells #[.int .i64 m.1, .int .i64 m.2] 55)).grownBy w' v.ownBlock → wpList Tryd.prog ops Q rest (a.put o.dst v') w') :
    wpList Tryd.prog ops Q (o :: rest) a (W.alloc (.cells #[.int .i64 m.1, .int .i64 m.2] 55)) :=
  wpl_appn hgd s x 24 55 ho _ 2 16 info55 rfl (by decide) Tryd.underlying24 v B ms.length (jcells ms) hs hown [.int .i64 m.1, .int .i64 m.2] rfl (by simp [Value.oneCell']) hx
    (by omega) (by unfold maxLen; omega) hB (fun v' w' h1 h2 => h v' w' h1 h2.grown)
theorem take_negM {ms : List Mv} {i : Nat} (h : i < ms.length) : (ms.take i).map negM ++ [negM (mvAt ms i)] = (ms.take (i + 1)).map negM := by
  rw [List.take_succ_eq_append_getElem h, List.map_append]
  unfold mvAt
  rw [List.getD_eq_getElem?_getD, List.getElem?_eq_getElem h]; rfl
theorem take_negJ {ms : List (Int × Int)} {i : Nat} (h : i < ms.length) : (ms.take i).map negJ ++ [negJ (jlAt ms i)] = (ms.take (i + 1)).map negJ := by
  rw [List.take_succ_eq_append_getElem h, List.map_append]
  unfold jlAt
  rw [List.getD_eq_getElem?_getD, List.getElem?_eq_getElem h]; rfl
theorem set4 {W : World} {g : Nat} {a b c d x : Value} {t : TypeId} (h : W.heap[g]? = some (.cells #[a, b, c, d] t)) : (W.setCell ⟨g, 2, none⟩ x).heap[g]? = some (.cells #[a, b, x, d] t) := by
  simp [World.setCell, Array.getElem?_modify, h]
theorem set2a {W : World} {g : Nat} {a b x : Value} {t : TypeId} (h : W.heap[g]? = some (.cells #[a, b] t)) : (W.setCell ⟨g, 0, none⟩ x).heap[g]? = some (.cells #[x, b] t) := by
  simp [World.setCell, Array.getElem?_modify, h]
theorem mvAt_ok {o : Ov} (h : o.Ok) {i : Nat} (hi : i < o.moves.length) : (-5 ≤ (mvAt o.moves i).2.2.1 ∧ (mvAt o.moves i).2.2.1 ≤ 5) ∧ (-5 ≤ (mvAt o.moves i).2.2.2 ∧ (mvAt o.moves i).2.2.2 ≤ 5) := by
  have h1 := h.mv _ (List.getElem_mem hi)
  have e : mvAt o.moves i = o.moves[i] := by unfold mvAt; rw [List.getD_eq_getElem?_getD, List.getElem?_eq_getElem hi]; rfl
  rw [e]
  exact mv5 h1
theorem jlAt_ok {o : Ov} (h : o.Ok) {i : Nat} (hi : i < o.jolts.length) : (-5 ≤ (jlAt o.jolts i).1 ∧ (jlAt o.jolts i).1 ≤ 5) ∧ (-5 ≤ (jlAt o.jolts i).2 ∧ (jlAt o.jolts i).2 ≤ 5) := by
  have h1 := h.jl _ (List.getElem_mem hi)
  have e : jlAt o.jolts i = o.jolts[i] := by unfold jlAt; rw [List.getD_eq_getElem?_getD, List.getElem?_eq_getElem hi]; rfl
  rw [e]
  exact jl5 h1
theorem grid_short {o : Ov} (hok : o.Ok) {g : Grid} (hf : formB o.P o.R o.C g = true) : ShortG g ∧ g.length ≤ 1000 ∧ ∀ p ∈ g, p.length ≤ 1000 := by
  refine ⟨short_form hf hok.c.2, by rw [form_len hf]; have := hok.p; omega, fun p hp => ?_⟩
  unfold formB at hf
  simp only [Bool.and_eq_true, decide_eq_true_eq, List.all_eq_true] at hf
  have h2 := hf.2 p hp
  unfold phaseOk at h2
  simp only [Bool.and_eq_true, decide_eq_true_eq] at h2
  have := hok.r
  omega
set_option maxHeartbeats 8000000 in
set_option maxRecDepth 100000 in
theorem TemperAgain_ok (ph ro wi : Int) (ca : Option Addr) (cn cc : Nat) (ma : Option Addr) (mn mc : Nat) (ja : Option Addr) (jn jc : Nat) (w : World) (hk : ArgKiln w ph ro wi ca cn cc ma mn mc ja jn jc) :
    Calls Tryd.prog 6 #[.agg #[.int .u8 ph, .int .u8 ro, .int .u8 wi, .slice ca cn cc, .slice ma mn mc, .slice ja jn jc]] w fun e w' => e = .returned (.bool true) ∧ Below w.heap.size w w' := by
  have hb3 : Below w.heap.size w (w.alloc (.cells #[.int .u8 ph, .int .u8 ro, .int .u8 wi, .slice ca cn cc, .slice ma mn mc, .slice ja jn jc] 45)) := (Below.refl _ _).alloc (Nat.le_refl _) _
  have HB3 := hid hb3
  have HK3 := hid (argKiln_below hk hb3)
  clear hb3 hk
  go_enter Tryd.func6, Tryd.ntmps6
  go_upto_region 2 with (first | (go_at_call 24; refine (made_ov (w0 := w) HB3.out HK3.out).mono ?_; rintro e w4 ⟨q, a1, c1, a2, c2, a3, c3, rfl, hok, hva, hml, how, hb4⟩; have HOK := hid hok; have HVA := hid hva; have HML := hid hml; have HOW := hid how; have HB34 := hid hb4; clear hok hva hml how hb4) | fail)
  obtain ⟨X, hX⟩ : ∃ X, X = w4.heap.size := ⟨_, rfl⟩
  obtain ⟨W, hW⟩ : ∃ W, W = (w4.alloc (.cells #[.slice a1 q.safe.length c1, .slice a2 q.moves.length c2, .slice a3 q.jolts.length c3] 26)) := ⟨_, rfl⟩
  rw [← hX, ← hW]
  have h4W : Below w4.heap.size w4 W := by rw [hW]; exact (Below.refl _ _).alloc (Nat.le_refl _) _
  have hxw : W.heap[X]? = some (.cells #[.slice a1 q.safe.length c1, .slice a2 q.moves.length c2, .slice a3 q.jolts.length c3] 26) := by rw [hW, hX]; exact heap_alloc_new _ _
  have KP : Hid (∀ w', Below W.heap.size W w' → w'.cell? ⟨X, 0, none⟩ = some (.slice a1 q.safe.length c1) ∧ w'.cell? ⟨X, 1, none⟩ = some (.slice a2 q.moves.length c2) ∧ w'.cell? ⟨X, 2, none⟩ = some (.slice a3 q.jolts.length c3)) := by
    intro w' hb
    exact cells3_of ((hb.block X (heap_lt hxw)).trans hxw)
  have HBW : Hid (Below w.heap.size w W) := HB3.out.trans ((HB34.out.trans (h4W.mono HB34.out.size)).mono HB3.out.size)
  have how := HOW.out.below h4W
  have hiv := ownOv_isOv how HOK.out
  have HXW := hid hxw
  have HO : Hid (∀ w', Below W.heap.size W w' → IsOv w' (.slice a1 q.safe.length c1) (.slice a2 q.moves.length c2) (.slice a3 q.jolts.length c3) q) := fun w' hb => isOv_below hiv hb
  have FIN : Hid (∀ w', Below W.heap.size W w' → Below w.heap.size w w') := fun w' hb => HBW.out.trans (hb.mono HBW.out.size)
  clear hX hW h4W hxw how hiv
  obtain ⟨x0, x1, x2⟩ := KP.out W (Below.refl _ _)
  go_upto_region 3 with (first | (go_at_call 25; with_reducible refine (kernel_set _ _ _ q (HO.out _ (by repeat (first | exact Below.refl _ _ | (apply Hid.out; assumption) | refine Below.drew ?_ | refine below_drewN_r ?_ _))) HOK.out).mono ?_; rintro e w5 ⟨g5, n5, d5, rfl, hg5, hb5⟩; have HG5 : Hid (∀ w', Below w5.heap.size w5 w' → IsGrid w' (.slice g5 n5 d5) (Ov.gridOf q (Ov.KK q))) := hid (fun w' hb => isGrid_below hg5 hb); have HB5 : Hid (Below W.heap.size W w5) := hid (below_step (by repeat (first | exact Below.refl _ _ | (apply Hid.out; assumption) | refine Below.drew ?_ | refine below_drewN_r ?_ _)) hb5); clear hb5 hg5; clear x0 x1 x2; obtain ⟨x0, x1, x2⟩ := KP.out _ HB5.out; skip) | fail)
  replace KP : Hid (∀ w', Below w5.heap.size w5 w' → w'.cell? ⟨X, 0, none⟩ = some (.slice a1 q.safe.length c1) ∧ w'.cell? ⟨X, 1, none⟩ = some (.slice a2 q.moves.length c2) ∧ w'.cell? ⟨X, 2, none⟩ = some (.slice a3 q.jolts.length c3)) := fun w' hb => KP.out w' (HB5.out.trans (hb.mono HB5.out.size))
  replace HO : Hid (∀ w', Below w5.heap.size w5 w' → IsOv w' (.slice a1 q.safe.length c1) (.slice a2 q.moves.length c2) (.slice a3 q.jolts.length c3) q) := fun w' hb => HO.out w' (HB5.out.trans (hb.mono HB5.out.size))
  replace FIN : Hid (∀ w', Below w5.heap.size w5 w' → Below w.heap.size w w') := fun w' hb => FIN.out w' (HB5.out.trans (hb.mono HB5.out.size))
  have HC5 : Hid (Below w5.heap.size w5 w5) := Below.refl _ _
  have HF5 : Hid (formB q.P q.R q.C (q.gridOf q.KK) = true) := form_gridOf q q.KK
  go_upto_region 5 with (first
    | (go_at_call 27; with_reducible refine (form_call (HO.out _ (by repeat (first | exact Below.refl _ _ | (apply Hid.out; assumption) | refine Below.drew ?_ | refine below_drewN_r ?_ _))) HOK.out (HG5.out _ (by repeat (first | exact Below.refl _ _ | (apply Hid.out; assumption) | refine Below.drew ?_ | refine below_drewN_r ?_ _))) HF5.out).mono ?_; rintro e w6 ⟨rfl, hb6⟩; have HC6 : Hid (Below w5.heap.size w5 w6) := hid (below_step (by repeat (first | exact Below.refl _ _ | (apply Hid.out; assumption) | refine Below.drew ?_ | refine below_drewN_r ?_ _)) hb6); clear hb6; clear x0 x1 x2; obtain ⟨x0, x1, x2⟩ := KP.out _ HC6.out; skip)
    | (go_at_call 19; with_reducible refine (lives_any _).mono ?_; rintro e w7 ⟨rfl, hb7⟩; have HC7 : Hid (Below w5.heap.size w5 w7) := hid (below_step (by repeat (first | exact Below.refl _ _ | (apply Hid.out; assumption) | refine Below.drew ?_ | refine below_drewN_r ?_ _)) hb7); clear hb7; clear x0 x1 x2; obtain ⟨x0, x1, x2⟩ := KP.out _ HC7.out; skip)
    | fail)
  obtain ⟨oA, hoA⟩ : ∃ oA : Ov, oA = ⟨q.gridOf q.KK, q.moves, q.jolts⟩ := ⟨_, rfl⟩
  have OKA : Hid oA.Ok := by rw [hoA]; exact form_ok HOK.out HF5.out
  have HAG : Hid (Ov.gridOf oA (Ov.KK oA) = q.gridOf q.KK) := by rw [hoA]; exact again_grid HOK.out
  have HLG : Hid (oA.safe = q.gridOf q.KK ∧ oA.moves = q.moves ∧ oA.jolts = q.jolts) := by rw [hoA]; exact ⟨rfl, rfl, rfl⟩
  clear hoA
  go_upto_region 6 with fail
  obtain ⟨XA, hXA⟩ : ∃ XA, XA = w7.heap.size := ⟨_, rfl⟩
  obtain ⟨wg, hwg⟩ : ∃ wg, wg = w7.alloc (.cells #[.slice a1 q.safe.length c1, .slice a2 q.moves.length c2, .slice a3 q.jolts.length c3] 26) := ⟨_, rfl⟩
  rw [← hXA, ← hwg]
  have hbg : Below w7.heap.size w7 wg := by rw [hwg]; exact (Below.refl _ _).alloc (Nat.le_refl _) _
  have hxg : wg.heap[XA]? = some (.cells #[.slice a1 q.safe.length c1, .slice a2 q.moves.length c2, .slice a3 q.jolts.length c3] 26) := by rw [hwg, hXA]; exact heap_alloc_new _ _
  have HXA : Hid (w7.heap.size ≤ XA) := by rw [hXA]; exact Nat.le_refl _
  clear x0 x1 x2 hXA hwg
  obtain ⟨x0, x1, x2⟩ := KP.out wg (HC7.out.trans (hbg.mono HC7.out.size))
  obtain ⟨v0, v1, v2⟩ := cells3_of hxg
  obtain ⟨t0, t1, t2⟩ := free3_of hxg
  go_upto_region 7 with fail
  have hxh : (wg.setCell ⟨XA, 0, none⟩ (.slice g5 n5 d5)).heap[XA]? = some (.cells #[.slice g5 n5 d5, .slice a2 q.moves.length c2, .slice a3 q.jolts.length c3] 26) := set0 hxg
  have hbh : Below w7.heap.size w7 (wg.setCell ⟨XA, 0, none⟩ (.slice g5 n5 d5)) := hbg.setCell (p := ⟨XA, 0, none⟩) HXA.out _
  clear v0 v1 v2 t0 t1 t2 x0 x1 x2
  obtain ⟨wh, hwh⟩ : ∃ wh, wh = wg.setCell ⟨XA, 0, none⟩ (.slice g5 n5 d5) := ⟨_, rfl⟩
  rw [← hwh] at hxh hbh ⊢
  obtain ⟨v0, v1, v2⟩ := cells3_of hxh
  have HCh : Hid (Below w5.heap.size w5 wh) := HC7.out.trans (hbh.mono HC7.out.size)
  have HLV : Hid (IsOv wh (.slice g5 n5 d5) (.slice a2 q.moves.length c2) (.slice a3 q.jolts.length c3) oA) := ⟨by rw [HLG.out.1]; exact HG5.out wh HCh.out, by rw [HLG.out.2.1]; exact (HO.out wh HCh.out).moves, by rw [HLG.out.2.2]; exact (HO.out wh HCh.out).jolts⟩
  clear hwh hxh hbh hbg hxg
  go_upto_region 8 with (first | (go_at_call 25; refine (kernel_set _ _ _ oA HLV.out OKA.out).mono ?_; rintro e w9 ⟨g9, n9, d9, rfl, hg9, hb9⟩; rw [HAG.out] at hg9; have HG9 := hid hg9; have HC9 : Hid (Below w5.heap.size w5 w9) := HCh.out.trans (hb9.mono HCh.out.size); clear hg9 hb9) | fail)
  clear v0 v1 v2
  have G0 : Hid (∀ w', Below w9.heap.size w9 w' → IsGrid w' (.slice g5 n5 d5) (q.gridOf q.KK)) := fun w' hb => HG5.out w' (HC9.out.trans (hb.mono HC9.out.size))
  have G1 : Hid (∀ w', Below w9.heap.size w9 w' → IsGrid w' (.slice g9 n9 d9) (q.gridOf q.KK)) := fun w' hb => isGrid_below HG9.out hb
  replace KP : Hid (∀ w', Below w9.heap.size w9 w' → w'.cell? ⟨X, 0, none⟩ = some (.slice a1 q.safe.length c1) ∧ w'.cell? ⟨X, 1, none⟩ = some (.slice a2 q.moves.length c2) ∧ w'.cell? ⟨X, 2, none⟩ = some (.slice a3 q.jolts.length c3)) := fun w' hb => KP.out w' (HC9.out.trans (hb.mono HC9.out.size))
  replace HO : Hid (∀ w', Below w9.heap.size w9 w' → IsOv w' (.slice a1 q.safe.length c1) (.slice a2 q.moves.length c2) (.slice a3 q.jolts.length c3) q) := fun w' hb => HO.out w' (HC9.out.trans (hb.mono HC9.out.size))
  replace FIN : Hid (∀ w', Below w9.heap.size w9 w' → Below w.heap.size w w') := fun w' hb => FIN.out w' (HC9.out.trans (hb.mono HC9.out.size))
  have HD9 : Hid (Below w9.heap.size w9 w9) := Below.refl _ _
  have HSH1 := hid (grid_short HOK.out HOK.out.form)
  have HSH2 := hid (grid_short HOK.out HF5.out)
  obtain ⟨x0, x1, x2⟩ := KP.out w9 HD9.out
  clear HCh HLV HLG HAG OKA HXA HG9 HC9 HC7 HC6 HC5 HG5
  go_upto_region 10 with (first | (go_at_call 31; refine (rSame_any _ _ (q.gridOf q.KK) (q.gridOf q.KK) _ (G1.out _ (by repeat (first | exact Below.refl _ _ | (apply Hid.out; assumption) | refine Below.drew ?_ | refine below_drewN_r ?_ _))) (G0.out _ (by repeat (first | exact Below.refl _ _ | (apply Hid.out; assumption) | refine Below.drew ?_ | refine below_drewN_r ?_ _)))).mono ?_; rw [decide_eq_true (rfl : q.gridOf q.KK = q.gridOf q.KK)]; rintro e w10 ⟨rfl, hb10⟩; have HD10 : Hid (Below w9.heap.size w9 w10) := hid (below_step (by repeat (first | exact Below.refl _ _ | (apply Hid.out; assumption) | refine Below.drew ?_ | refine below_drewN_r ?_ _)) hb10); clear hb10; clear x0 x1 x2; obtain ⟨x0, x1, x2⟩ := KP.out _ HD10.out; skip) | fail)
  go_upto_region 11 with (first | (go_at_call 32; refine (turned_any _ (q.safe) _ ((HO.out _ (by repeat (first | exact Below.refl _ _ | (apply Hid.out; assumption) | refine Below.drew ?_ | refine below_drewN_r ?_ _))).safe) HSH1.out.1 HSH1.out.2.1 HSH1.out.2.2).mono ?_; rintro e w11 ⟨v11, rfl, ho11, hb11⟩; obtain ⟨tg, tn, tc, rfl⟩ := ownG_slice' ho11; have HT11 : Hid (OwnG w11 w9.heap.size (.slice tg tn tc) (turnG q.safe)) := hid (ownG_mono ho11 (HD10.out.size)); have HD11 : Hid (Below w9.heap.size w9 w11) := hid (below_step (by repeat (first | exact Below.refl _ _ | (apply Hid.out; assumption) | refine Below.drew ?_ | refine below_drewN_r ?_ _)) hb11); clear ho11 hb11; clear x0 x1 x2; obtain ⟨x0, x1, x2⟩ := KP.out _ HD11.out; skip) | fail)
  obtain ⟨XM, hXM⟩ : ∃ XM, XM = w11.heap.size := ⟨_, rfl⟩
  obtain ⟨wm, hwm⟩ : ∃ wm, wm = w11.alloc (.cells #[.slice tg tn tc, .slice none 0 0, .slice none 0 0] 26) := ⟨_, rfl⟩
  rw [← hXM, ← hwm]
  have hbm : Below w11.heap.size w11 wm := by rw [hwm]; exact (Below.refl _ _).alloc (Nat.le_refl _) _
  have hxm : wm.heap[XM]? = some (.cells #[.slice tg tn tc, .slice none 0 0, .slice none 0 0] 26) := by rw [hwm, hXM]; exact heap_alloc_new _ _
  have HXM : Hid (w9.heap.size ≤ XM) := by rw [hXM]; exact HD11.out.size
  have HDm : Hid (Below w9.heap.size w9 wm) := HD11.out.trans (hbm.mono HD11.out.size)
  have CT0 : Hid (Cut w9.heap.size XM (.slice tg tn tc) (.slice none 0 0) (.slice none 0 0) (turnG q.safe) [] [] wm) := ⟨HXM.out, hxm, ownG_below HT11.out hbm, World.ownsRow_nil _ _ _ _, World.ownsRow_nil _ _ _ _⟩
  clear x0 x1 x2 hXM hwm hbm hxm
  obtain ⟨x0, x1, x2⟩ := KP.out wm HDm.out
  go_upto_block 0 with fail
  go_cut [10] (fun _ wx => ∃ (b : Option Addr) (n2 c2 : Nat), Hid (Cut w9.heap.size XM (.slice tg tn tc) (.slice b n2 c2) (.slice none 0 0) (turnG q.safe) ((q.moves.take q.moves.length).map negM) [] wx) ∧ Hid (Below w9.heap.size w9 wx))
  case first =>
    go_wp2_with fail
    go_loopw [10] (fun iv wr => ∃ (i : Nat) (b : Option Addr) (n2 c2 : Nat), iv = .int .i64 i ∧ i ≤ q.moves.length ∧ Hid (Cut w9.heap.size XM (.slice tg tn tc) (.slice b n2 c2) (.slice none 0 0) (turnG q.safe) ((q.moves.take i).map negM) [] wr) ∧ Hid (Below w9.heap.size w9 wr)) (fun iv _ => q.moves.length - (intOf iv).toNat)
    case atStart => exact ⟨0, none, 0, 0, rfl, Nat.zero_le _, by first | exact CT0 | (rw [List.take_zero]; exact CT0), HDm⟩
    case round =>
      obtain ⟨i, b, n2, c2, rfl, hi, CT, HDr⟩ := hrel
      rename World => wr
      obtain ⟨x0, x1, x2⟩ := KP.out wr HDr.out
      have h16 : q.moves.length ≤ 16 := HOK.out.nm
      by_cases hlt : i < q.moves.length
      · obtain ⟨g, rfl, _, e0, e1, e2, e3⟩ := mv_at (HO.out wr HDr.out).moves i hlt
        have hrg := mvAt_ok HOK.out hlt
        have HTK := hid (take_negM (ms := q.moves) hlt)
        have hll : ((q.moves.take i).map negM).length = i := by rw [List.length_map, List.length_take]; omega
        have HLL := hid hll
        generalize mvAt q.moves i = m at *
        obtain ⟨p0, p1, p2, p3⟩ := m
        have hr0 : (-5 ≤ p2 ∧ p2 ≤ 5) := hrg.1
        replace HTK : Hid ((q.moves.take i).map negM ++ [(p0, p1, (-p2), p3)] = (q.moves.take (i + 1)).map negM) := HTK
        dsimp only at e0 e1 e2 e3
        clear hrg hll
        obtain ⟨hr1, hr2⟩ := hr0
        go_upto_region 15 with fail
        obtain ⟨MB, hMB⟩ : ∃ MB, MB = wr.heap.size := ⟨_, rfl⟩
        obtain ⟨wa, hwa⟩ : ∃ wa, wa = wr.alloc (.cells #[.int .i64 p0, .int .i64 p1, .int .i64 p2, .int .i64 p3] 53) := ⟨_, rfl⟩
        rw [← hMB, ← hwa]
        have hba : Below wr.heap.size wr wa := by rw [hwa]; exact (Below.refl _ _).alloc (Nat.le_refl _) _
        have hxa : wa.heap[MB]? = some (.cells #[.int .i64 p0, .int .i64 p1, .int .i64 p2, .int .i64 p3] 53) := by rw [hwa, hMB]; exact heap_alloc_new _ _
        have HMB : Hid (wr.heap.size ≤ MB) := by rw [hMB]; exact Nat.le_refl _
        clear x0 x1 x2 e0 e1 e2 e3 hMB hwa
        obtain ⟨u0, u1, u2, u3⟩ := cells4_of hxa
        obtain ⟨f0, f1, f2⟩ := free3_of hxa
        go_upto_region 16 with fail
        have hxb : (wa.setCell ⟨MB, 2, none⟩ (.int .i64 (-p2))).heap[MB]? = some (.cells #[.int .i64 p0, .int .i64 p1, .int .i64 (-p2), .int .i64 p3] 53) := set4 hxa
        have hbb : Below wr.heap.size wr (wa.setCell ⟨MB, 2, none⟩ (.int .i64 (-p2))) := hba.setCell (p := ⟨MB, 2, none⟩) HMB.out _
        obtain ⟨wb, hwb⟩ : ∃ wb, wb = wa.setCell ⟨MB, 2, none⟩ (.int .i64 (-p2)) := ⟨_, rfl⟩
        rw [← hwb] at hxb hbb ⊢
        clear hwb hxa hba u0 u1 u2 u3 f0 f1 f2
        have CTb := hid (CT.out.below hbb)
        have CTc := hid (CTb.out.below ((Below.refl _ _).alloc (Nat.le_refl _) (.cells #[.int .i64 p0, .int .i64 p1, .int .i64 (-p2), .int .i64 p3] 53)))
        have HDb : Hid (Below w9.heap.size w9 wb) := HDr.out.trans (hbb.mono HDr.out.size)
        obtain ⟨u0, u1, u2, u3⟩ := cells4_of hxb
        obtain ⟨c0, c1', c2'⟩ := cells3_of CTb.out.box
        have hl6 : ((q.moves.take i).map negM).length < 1000000 := by rw [HLL.out]; have := HOK.out.nm; omega
        have HL6 := hid hl6
        clear hbb hxb hl6
        go_wp2_with (first
          | (at_builtin; refine wpl_app_mv (p0, p1, (-p2), p3) _ _ (.slice b n2 c2) w9.heap.size ((q.moves.take i).map negM) (by rfl) (by rfl) (by rfl) (by rfl) CTb.out.mv HL6.out HDb.out.size ?_; intro v' w10 ho10 hg10; rw [HLL.out] at ho10; obtain ⟨sa, sc, rfl⟩ := row_slice ho10; have HC10 : Hid (∀ w11, w11 = w10.setCell ⟨XM, 1, none⟩ (.slice sa (i + 1) sc) → Cut w9.heap.size XM (.slice tg tn tc) ((.slice sa (i + 1) sc)) (.slice none 0 0) (turnG q.safe) ((q.moves.take (i + 1)).map negM) [] w11) := hid (fun w11 e => by rw [e, ← HTK.out]; exact Cut.stepM (m := (p0, p1, (-p2), p3)) CTc.out hg10 (by rw [HLL.out]; exact ho10)); have hb10 := Cut.boxM CTc.out hg10; obtain ⟨b0, b1, b2⟩ := cells3_of hb10; obtain ⟨f0, f1, f2⟩ := free3_of hb10; have HD10 : Hid (Below w9.heap.size w9 w10) := (HDb.out.alloc HDb.out.size _).grown hg10 (Nat.le_trans HDb.out.size (by simp)) (fun k hk => (CTb.out.mv.lt k hk).1); clear ho10 hg10 hb10)
          | fail)
        go_roundw
        case rel => exact ⟨i + 1, sa, _, sc, by go_num, by omega, HC10.out _ rfl, HD10.out.setCell (p := ⟨XM, 1, none⟩) HXM.out _⟩
        case measure => simp [intOf]; omega
      · obtain rfl : i = q.moves.length := by omega
        go_wp2_with fail
        go_meet
        exact ⟨b, n2, c2, CT, HDr⟩
  case rest =>
    obtain ⟨mb, mn', mc', CT0, HDm⟩ := hcut
    rw [List.take_length] at CT0
    rename World => wm2
    go_upto_block 2 with fail
    go_cut [12] (fun _ wx => ∃ (b : Option Addr) (n2 c2 : Nat), Hid (Cut w9.heap.size XM (.slice tg tn tc) (.slice mb mn' mc') (.slice b n2 c2) (turnG q.safe) (q.moves.map negM) ((q.jolts.take q.jolts.length).map negJ) wx) ∧ Hid (Below w9.heap.size w9 wx))
    case first =>
      go_wp2_with fail
      go_loopw [12] (fun iv wr => ∃ (i : Nat) (b : Option Addr) (n2 c2 : Nat), iv = .int .i64 i ∧ i ≤ q.jolts.length ∧ Hid (Cut w9.heap.size XM (.slice tg tn tc) (.slice mb mn' mc') (.slice b n2 c2) (turnG q.safe) (q.moves.map negM) ((q.jolts.take i).map negJ) wr) ∧ Hid (Below w9.heap.size w9 wr)) (fun iv _ => q.jolts.length - (intOf iv).toNat)
      case atStart => exact ⟨0, none, 0, 0, rfl, Nat.zero_le _, by first | exact CT0 | (rw [List.take_zero]; exact CT0), HDm⟩
      case round =>
        obtain ⟨i, b, n2, c2, rfl, hi, CT, HDr⟩ := hrel
        rename World => wr
        obtain ⟨x0, x1, x2⟩ := KP.out wr HDr.out
        have h16 : q.jolts.length ≤ 4 := HOK.out.nj.2
        by_cases hlt : i < q.jolts.length
        · obtain ⟨g, rfl, _, e0, e1⟩ := jl_at (HO.out wr HDr.out).jolts i hlt
          have hrg := jlAt_ok HOK.out hlt
          have HTK := hid (take_negJ (ms := q.jolts) hlt)
          have hll : ((q.jolts.take i).map negJ).length = i := by rw [List.length_map, List.length_take]; omega
          have HLL := hid hll
          generalize jlAt q.jolts i = m at *
          obtain ⟨p0, p1⟩ := m
          have hr0 : (-5 ≤ p0 ∧ p0 ≤ 5) := hrg.1
          replace HTK : Hid ((q.jolts.take i).map negJ ++ [((-p0), p1)] = (q.jolts.take (i + 1)).map negJ) := HTK
          dsimp only at e0 e1
          clear hrg hll
          obtain ⟨hr1, hr2⟩ := hr0
          go_upto_region 21 with fail
          obtain ⟨MB, hMB⟩ : ∃ MB, MB = wr.heap.size := ⟨_, rfl⟩
          obtain ⟨wa, hwa⟩ : ∃ wa, wa = wr.alloc (.cells #[.int .i64 p0, .int .i64 p1] 55) := ⟨_, rfl⟩
          rw [← hMB, ← hwa]
          have hba : Below wr.heap.size wr wa := by rw [hwa]; exact (Below.refl _ _).alloc (Nat.le_refl _) _
          have hxa : wa.heap[MB]? = some (.cells #[.int .i64 p0, .int .i64 p1] 55) := by rw [hwa, hMB]; exact heap_alloc_new _ _
          have HMB : Hid (wr.heap.size ≤ MB) := by rw [hMB]; exact Nat.le_refl _
          clear x0 x1 x2 e0 e1 hMB hwa
          obtain ⟨u0, u1⟩ := cells2_of hxa
          obtain ⟨f0, f1, f2⟩ := free3_of hxa
          go_upto_region 22 with fail
          have hxb : (wa.setCell ⟨MB, 0, none⟩ (.int .i64 (-p0))).heap[MB]? = some (.cells #[.int .i64 (-p0), .int .i64 p1] 55) := set2a hxa
          have hbb : Below wr.heap.size wr (wa.setCell ⟨MB, 0, none⟩ (.int .i64 (-p0))) := hba.setCell (p := ⟨MB, 0, none⟩) HMB.out _
          obtain ⟨wb, hwb⟩ : ∃ wb, wb = wa.setCell ⟨MB, 0, none⟩ (.int .i64 (-p0)) := ⟨_, rfl⟩
          rw [← hwb] at hxb hbb ⊢
          clear hwb hxa hba u0 u1 f0 f1 f2
          have CTb := hid (CT.out.below hbb)
          have CTc := hid (CTb.out.below ((Below.refl _ _).alloc (Nat.le_refl _) (.cells #[.int .i64 (-p0), .int .i64 p1] 55)))
          have HDb : Hid (Below w9.heap.size w9 wb) := HDr.out.trans (hbb.mono HDr.out.size)
          obtain ⟨u0, u1⟩ := cells2_of hxb
          obtain ⟨c0, c1', c2'⟩ := cells3_of CTb.out.box
          have hl6 : ((q.jolts.take i).map negJ).length < 1000000 := by rw [HLL.out]; have := HOK.out.nj; omega
          have HL6 := hid hl6
          clear hbb hxb hl6
          go_wp2_with (first
            | (at_builtin; refine wpl_app_jl ((-p0), p1) _ _ (.slice b n2 c2) w9.heap.size ((q.jolts.take i).map negJ) (by rfl) (by rfl) (by rfl) (by rfl) CTb.out.jl HL6.out HDb.out.size ?_; intro v' w10 ho10 hg10; rw [HLL.out] at ho10; obtain ⟨sa, sc, rfl⟩ := row_slice ho10; have HC10 : Hid (∀ w11, w11 = w10.setCell ⟨XM, 2, none⟩ (.slice sa (i + 1) sc) → Cut w9.heap.size XM (.slice tg tn tc) (.slice mb mn' mc') ((.slice sa (i + 1) sc)) (turnG q.safe) (q.moves.map negM) ((q.jolts.take (i + 1)).map negJ) w11) := hid (fun w11 e => by rw [e, ← HTK.out]; exact Cut.stepJ (m := ((-p0), p1)) CTc.out hg10 (by rw [HLL.out]; exact ho10)); have hb10 := Cut.boxJ CTc.out hg10; obtain ⟨b0, b1, b2⟩ := cells3_of hb10; obtain ⟨f0, f1, f2⟩ := free3_of hb10; have HD10 : Hid (Below w9.heap.size w9 w10) := (HDb.out.alloc HDb.out.size _).grown hg10 (Nat.le_trans HDb.out.size (by simp)) (fun k hk => (CTb.out.jl.lt k hk).1); clear ho10 hg10 hb10)
            | fail)
          go_roundw
          case rel => exact ⟨i + 1, sa, _, sc, by go_num, by omega, HC10.out _ rfl, HD10.out.setCell (p := ⟨XM, 2, none⟩) HXM.out _⟩
          case measure => simp [intOf]; omega
        · obtain rfl : i = q.jolts.length := by omega
          go_wp2_with fail
          go_meet
          exact ⟨b, n2, c2, CT, HDr⟩
    case rest =>
      obtain ⟨b, n2, c2, CT0, HDm⟩ := hcut
      rw [List.take_length] at CT0
      rename World => wn
      have HLV : Hid (IsOv wn (.slice tg tn tc) (.slice mb mn' mc') (.slice b n2 c2) q.mirror) := Cut.ov CT0.out (by unfold turnG; rw [List.length_map]; have := HSH1.out.2.1; omega) (by
        intro p hp
        unfold turnG at hp
        obtain ⟨p0, h0, rfl⟩ := List.mem_map.1 hp
        have := HSH1.out.2.2 p0 h0
        unfold turnP
        rw [List.length_map]; omega) (by rw [List.length_map]; have := HOK.out.nm; omega) (by rw [List.length_map]; have := HOK.out.nj; omega)
      obtain ⟨v0, v1, v2⟩ := cells3_of CT0.out.box
      go_upto_region 24 with (first | (go_at_call 25; refine (kernel_set _ _ _ q.mirror HLV.out (mirror_ok HOK.out)).mono ?_; rintro e w20 ⟨g20, n20, d20, rfl, hg20, hb20⟩; rw [mirror_grid HOK.out] at hg20; have HG20 : Hid (∀ w', Below w20.heap.size w20 w' → IsGrid w' (.slice g20 n20 d20) (turnG (q.gridOf q.KK))) := hid (fun w' hb => isGrid_below hg20 hb); have HD20 : Hid (Below w9.heap.size w9 w20) := HDm.out.trans (hb20.mono HDm.out.size); clear hg20 hb20) | fail)
      clear v0 v1 v2
      have HE20 : Hid (Below w20.heap.size w20 w20) := Below.refl _ _
      have G2 : Hid (∀ w', Below w20.heap.size w20 w' → IsGrid w' (.slice g5 n5 d5) (q.gridOf q.KK)) := fun w' hb => G0.out w' (HD20.out.trans (hb.mono HD20.out.size))
      have FIN2 : Hid (∀ w', Below w20.heap.size w20 w' → Below w.heap.size w w') := fun w' hb => FIN.out w' (HD20.out.trans (hb.mono HD20.out.size))
      go_wp2_with (first | (go_at_call 32; refine (turned_any _ (q.gridOf q.KK) _ (G2.out _ (by repeat (first | exact Below.refl _ _ | (apply Hid.out; assumption) | refine Below.drew ?_ | refine below_drewN_r ?_ _))) HSH2.out.1 HSH2.out.2.1 HSH2.out.2.2).mono ?_; rintro e w21 ⟨v21, rfl, ho21, hb21⟩; have hgt := ownG_isGrid ho21 (by unfold turnG; rw [List.length_map]; have := HSH2.out.2.1; omega) (by intro p hp; unfold turnG at hp; obtain ⟨p0, h0, rfl⟩ := List.mem_map.1 hp; have := HSH2.out.2.2 p0 h0; unfold turnP; rw [List.length_map]; omega); have HG21 : Hid (∀ w_, Below w21.heap.size w21 w_ → IsGrid w_ v21 (turnG (q.gridOf q.KK))) := hid (fun w_ hb => isGrid_below hgt hb); clear hgt; have HE21 : Hid (Below w20.heap.size w20 w21) := hid (below_step (by repeat (first | exact Below.refl _ _ | (apply Hid.out; assumption) | refine Below.drew ?_ | refine below_drewN_r ?_ _)) hb21); clear ho21 hb21; skip) | (go_at_call 31; refine (rSame_any _ _ (turnG (q.gridOf q.KK)) (turnG (q.gridOf q.KK)) _ (HG20.out _ (by repeat (first | exact Below.refl _ _ | (apply Hid.out; assumption) | refine Below.drew ?_ | refine below_drewN_r ?_ _))) (HG21.out _ (by repeat (first | exact Below.refl _ _ | (apply Hid.out; assumption) | refine Below.drew ?_ | refine below_drewN_r ?_ _)))).mono ?_; rw [decide_eq_true (rfl : turnG (q.gridOf q.KK) = turnG (q.gridOf q.KK))]; rintro e w22 ⟨rfl, hb22⟩; have HE22 : Hid (Below w20.heap.size w20 w22) := hid (below_step (by repeat (first | exact Below.refl _ _ | (apply Hid.out; assumption) | refine Below.drew ?_ | refine below_drewN_r ?_ _)) hb22); clear hb22; skip) | fail)
      go_ret
      exact ⟨rfl, FIN2.out _ HE22.out⟩
end Go.Proofs.YtjonbhimbhidpaaDoor
