/-
  The faces of the braid (25).
-/
import Derived.Test.YtppkgilpmmhpoaaDoorWalkD
namespace Go.Proofs.YtppkgilpmmhpoaaDoor
open Go.RowKit
def lenOf : Value → Nat
  | .slice _ n _ => n
  | _ => 0
theorem ownV_len {w : World} {B : Nat} {e : TypeId} {v : Value} {xs : List Value} (h : OwnV w B e v xs) : lenOf v = xs.length := by
  obtain ⟨a, c, rfl⟩ := ownV_slice h
  rfl
theorem ownFL_kept {n : Nat} {w w' : World} {B M : Nat} {v : Value} {us : List Value} {Ls : List (List Nat)} {L : List Int} (h : OwnFL n w B v us Ls) (hS : SetW w M L) (hg : w.grownBy w' (some M)) : OwnFL n w' B v us Ls := by
  obtain ⟨h1, h2, h3⟩ := h
  have k : ∀ {e : TypeId} {q : Value} {ys : List Value}, OwnV w B e q ys → OwnV w' B e q ys := fun hq => ownV_kept hq hg (.inr fun e => setW_ne hS hq M e rfl)
  exact ⟨h1, k h2, fun j hj => k (h3 j hj)⟩
theorem facesF_seen {n sg b s : Nat} (hb : b < 4 * n) (h : s.testBit b = true) : facesF n sg (4 * n - b) b s = facesF n sg (4 * n - (b + 1)) (b + 1) s := by
  obtain ⟨k, hk⟩ : ∃ k, 4 * n - b = k + 1 := ⟨4 * n - (b + 1), by omega⟩
  rw [hk, show 4 * n - (b + 1) = k by omega]
  show (if s.testBit b = true then _ else _) = _
  rw [if_pos h]
theorem facesF_new {n sg b s s2 : Nat} {F : List Nat} (hb : b < 4 * n) (h : s.testBit b = false) (hw : walkF n sg (4 * n) s b = (s2, F)) : facesF n sg (4 * n - b) b s = F :: facesF n sg (4 * n - (b + 1)) (b + 1) s2 := by
  obtain ⟨k, hk⟩ : ∃ k, 4 * n - b = k + 1 := ⟨4 * n - (b + 1), by omega⟩
  rw [hk, show 4 * n - (b + 1) = k by omega]
  show (if s.testBit b = true then _ else _) = _
  rw [if_neg (by rw [h]; simp), hw]
/-- the walk so far -/
def WK (n sg s b s2 c : Nat) (F : List Nat) : Prop := walkF n sg (4 * n) s b = ((walkF n sg (4 * n - F.length) s2 c).1, F ++ (walkF n sg (4 * n - F.length) s2 c).2)
theorem wk_start (n sg s b : Nat) : WK n sg s b s b [] := by unfold WK; simp
theorem wk_step {n sg s b s2 c : Nat} {F : List Nat} (h : WK n sg s b s2 c F) (hF : F.length < 4 * n) (hc : s2.testBit c = false) : WK n sg s b (s2 ||| 2 ^ c) (nxt n sg c) (F ++ [c]) := by
  unfold WK at *
  rw [h]
  obtain ⟨k, hk⟩ : ∃ k, 4 * n - F.length = k + 1 := ⟨4 * n - (F.length + 1), by omega⟩
  rw [hk, List.length_append, List.length_singleton, show 4 * n - (F.length + 1) = k by omega]
  have e : walkF n sg (k + 1) s2 c = ((walkF n sg k (s2 ||| 2 ^ c) (nxt n sg c)).1, c :: (walkF n sg k (s2 ||| 2 ^ c) (nxt n sg c)).2) := by
    show (if s2.testBit c = true then _ else _) = _
    rw [if_neg (by rw [hc]; simp)]
  rw [e]
  simp
theorem wk_end {n sg s b s2 c : Nat} {F : List Nat} (h : WK n sg s b s2 c F) (hc : s2.testBit c = true) : walkF n sg (4 * n) s b = (s2, F) := by
  unfold WK at h
  rw [h]
  have e : ∀ k, walkF n sg k s2 c = (s2, []) := fun k => by
    cases k with
    | zero => rfl
    | succ k =>
      show (if s2.testBit c = true then _ else _) = _
      rw [if_pos hc]
  rw [e]
  simp
set_option maxRecDepth 100000 in
set_option maxHeartbeats 4000000 in
theorem faces_any (D n wb wc pb : Nat) (gs cs : Nat → Nat) (sg sgb sc : Nat) (w : World) (h : Cur w D n wb wc pb gs cs) (hs : ∀ x, x < n → w.cell? ⟨sgb, x, none⟩ = some (.int .i64 (if sg.testBit x then 1 else -1))) :
    Calls Tryd.prog 25 #[.pointer (some ⟨D, 0, none⟩), .slice (some ⟨sgb, 0, none⟩) n sc] w fun e w' => ∃ u, e = .returned u ∧ (∃ us, OwnFL n w' w.heap.size u us (faces n sg)) ∧ Below w.heap.size w w' := by
  obtain ⟨hn1, hn10⟩ := h.nn
  have NX : Hid (∀ w' c, Below w.heap.size w w' → c < 4 * n → Calls Tryd.prog 34 #[.pointer (some ⟨D, 0, none⟩), .int .i64 (cz n c), .slice (some ⟨sgb, 0, none⟩) n sc] w' fun e w'' => e = .returned (.int .i64 (cz n (nxt n sg c))) ∧ Below w'.heap.size w' w'') := fun w' c hb hc => next_any D n wb wc pb gs cs sg sgb sc c w' (h.below hb) (fun x hx => (hb.cell (World.block_lt_of_cell? w _ (hs x hx))).trans (hs x hx)) hc
  have HB1 := hid (ba w (.map #[] 0))
  have HS1 := hid (setW_made w)
  have HM1 : Hid (w.heap.size < (w.alloc (.map #[] 0)).heap.size) := setW_lt HS1.out
  have hb1 := (HB1.out.block D (heap_lt h.box)).trans h.box
  obtain ⟨k0, k1, k2⟩ := cells3_of hb1
  obtain ⟨m, hm⟩ : ∃ m, m = 2 * n := ⟨_, rfl⟩
  rw [← hm] at k1
  have HM := hid hm
  have HN1 := hid hn1
  have HN10 := hid hn10
  have hm1 : 2 ≤ m := by omega
  have hm20 : m ≤ 20 := by omega
  have HF0 : Hid (faces n sg = [] ++ facesF n sg (4 * n - 0) 0 0) := rfl
  generalize faces n sg = FS at *
  clear h hs hb1 hm hn1 hn10
  have hmm := @run_makeMap Tryd.prog
  go_enter Tryd.func25, Tryd.ntmps25
  go_wp2_with fail
  obtain ⟨M, hM⟩ : ∃ M, M = w.heap.size := ⟨_, rfl⟩
  obtain ⟨wm, hwm⟩ : ∃ v, v = w.alloc (.map #[] 0) := ⟨_, rfl⟩
  rw [← hwm] at HB1 HS1 HM1 ⊢
  have HMM : Hid (w.heap.size ≤ M) := by show _ ≤ _; omega
  rw [← hM] at HS1 ⊢
  clear k0 k1 k2 hwm hM hmm
  go_loopw [5, 8] (fun ov bv wr => ∃ (b s : Nat) (L : List Nat) (z : Int) (u : Value) (us : List Value) (Ls : List (List Nat)), ov = u ∧ bv = .int .i64 z ∧ -(m : Int) ≤ z ∧ z ≤ m ∧ Hid (z = cz n b) ∧ Hid (OwnFL n wr w.heap.size u us Ls) ∧ Hid (SetW wr M (L.map (cz n))) ∧ Hid (Seen n s L) ∧ Hid (FS = Ls ++ facesF n sg (4 * n - b) b s) ∧ Hid (Ls.length ≤ b) ∧ Hid (Below w.heap.size w wr)) (fun _ bv _ => ((m : Int) - intOf bv).toNat)
  case atStart =>
    refine ⟨0, 0, [], -(m : Int), .slice none 0 0, [], [], rfl, by go_num, by omega, by omega, ?_, ⟨rfl, ownV_nil _ _ _, fun j hj => absurd hj (Nat.not_lt_zero _)⟩, HS1.out, seen_nil n, HF0.out, Nat.zero_le _, HB1.out⟩
    show _ = _
    have := HM.out
    unfold cz; omega
  case round =>
    obtain ⟨b, s, L, z, u, us, Ls, rfl, rfl, hz1, hz2, HZ, HO, HS, HSE, HF, HLL, HBr⟩ := hrel
    rename World => wr
    obtain ⟨oa, on, oc, rfl⟩ := ownV_sh HO.out.2.1
    by_cases hlt : z < m
    · have hb4 : b < 4 * n := by
        have e1 := HZ.out
        have e2 := HM.out
        unfold cz at e1; omega
      have HB4 := hid hb4
      have hlk := look68 HS.out HSE.out HN10.out hb4
      rw [← HZ.out] at hlk
      have HZN : Hid (z + 1 = cz n (b + 1)) := by
        show _ = _
        have := HZ.out
        unfold cz at *; omega
      by_cases hbit : s.testBit b = true
      · rw [hbit] at hlk
        have HBI := hid hbit
        clear hbit hb4
        go_wp2_with fail
        go_roundw
        case rel => exact ⟨b + 1, s, L, z + 1, _, us, Ls, rfl, by go_num, by omega, by omega, HZN, HO, HS, HSE, by show _ = _; rw [← facesF_seen HB4.out HBI.out]; exact HF.out, Nat.le_succ_of_le HLL.out, HBr⟩
        case measure => simp [intOf]; omega
      · have hbit : s.testBit b = false := by simpa using hbit
        rw [hbit] at hlk
        have HBI := hid hbit
        clear hbit hb4
        go_wp2_with fail
        clear hlk
        go_loopw [9, 10] (fun fv sv wk => ∃ (c s2 : Nat) (F L2 : List Nat) (y : Int), sv = .int .i64 y ∧ -(m : Int) ≤ y ∧ y < m ∧ Hid (y = cz n c) ∧ lenOf fv = F.length ∧ Hid (OwnV wk wr.heap.size 3 fv (F.map (cv n))) ∧ Hid (SetW wk M (L2.map (cz n))) ∧ Hid (Seen n s2 L2) ∧ Hid (F.length ≤ L2.length) ∧ Hid (WK n sg s b s2 c F) ∧ Hid (wr.grownBy wk (some M)) ∧ Hid (Below w.heap.size w wk)) (fun fv _ _ => 2 * m - lenOf fv)
        case atStart => exact ⟨b, s, [], L, z, rfl, hz1, hlt, HZ, rfl, ownV_nil _ _ _, HS, HSE, Nat.zero_le _, wk_start n sg s b, ⟨rfl, rfl, rfl, Nat.le_refl _, fun _ _ _ => rfl⟩, HBr⟩
        case round =>
          obtain ⟨c, s2, F, L2, y, rfl, hy1, hy2, HY, hlen, HFO, HS2, HSE2, HFL, HWK, HG, HBk⟩ := hrel
          rename World => wk
          obtain ⟨fa, fn, fc, rfl⟩ := ownV_sh HFO.out
          have hc4 : c < 4 * n := by
            have e1 := HY.out
            have e2 := HM.out
            unfold cz at e1; omega
          have HC4 := hid hc4
          have hlk := look68 HS2.out HSE2.out HN10.out hc4
          rw [← HY.out] at hlk
          have hfn : fn = F.length := hlen
          have HFN := hid hfn
          clear hlen hfn
          have HL40 : Hid (L2.length ≤ 40) := by
            have h1 := seen_len HSE2.out
            have h2 := HN10.out
            show _ ≤ _; omega
          by_cases hbit : s2.testBit c = true
          · rw [hbit] at hlk
            have HBI2 := hid hbit
            have HWE := hid (wk_end HWK.out hbit)
            have HOk := hid (ownFL_kept HO.out HS.out HG.out)
            have HLE : Hid (us.length < 1000000) := by
              have h1 := HO.out.1
              have h2 := HLL.out
              have h3 := HB4.out
              have h4 := HN10.out
              show _ < _; omega
            have HFO2 := hid (ownV_mono HFO.out HBr.out.size)
            clear hbit hc4
            go_wp2_with (first | (at_builtin; refine wpl_app_row _ _ _ _ _ (.slice oa on oc) w.heap.size us (by rfl) (by rfl) (by rfl) (by rfl) HOk.out.2.1 HLE.out HBk.out.size ?_; intro v' w7 ho7 hb7 hg7; have HO7 := hid (ownFL_app HOk.out HFO2.out ho7 hg7); have HS7 := hid (setW_kept HS2.out hg7 (fun e => setW_ne HS2.out HOk.out.2.1 M e.symm rfl)); obtain ⟨sa, sn, sc, rfl⟩ := ownV_sh ho7; have HB7 := hid (HBk.out.trans hb7); clear ho7 hb7 hg7) | fail)
            go_roundw
            case rel => exact ⟨b + 1, s2, L2, z + 1, _, _, _, rfl, by go_num, by omega, by omega, HZN, HO7, HS7, HSE2, by show _ = _; rw [HF.out, facesF_new HB4.out HBI.out HWE.out]; simp, by show _ ≤ _; rw [List.length_append]; exact Nat.succ_le_succ HLL.out, HB7⟩
            case measure => simp [intOf]; omega
          · have hbit : s2.testBit c = false := by simpa using hbit
            rw [hbit] at hlk
            have HL2 := hid (seen_less HSE2.out hc4 hbit)
            have hf40 : fn < 2 * m := by
              have h1 := HFL.out
              have h2 := HL2.out
              have h3 := HM.out
              have h4 := HFN.out
              omega
            have HWS := hid (wk_step HWK.out (Nat.lt_of_le_of_lt HFL.out HL2.out) hbit)
            have HSE3 := hid (seen_more HSE2.out hc4 hbit)
            have HNI : Hid (y ∉ L2.map (cz n)) := by
              rw [HY.out]
              intro e
              have h1 := cz_mem.1 e
              have h2 := HSE2.out.2.2 c hc4
              rw [hbit] at h2
              simp at h2
              exact h2 h1
            have HNC := hid (nxt_lt (sg := sg) HN1.out hc4)
            have HIN : Hid (InR y) := by rw [HY.out]; exact cz_in HN10.out hc4
            have HLM : Hid ((L2.map (cz n)).length < 1000000) := by show _ < _; rw [List.length_map]; exact Nat.lt_of_le_of_lt HL40.out (by decide)
            have HFM : Hid ((F.map (cv n)).length < 1000000) := by show _ < _; rw [List.length_map]; exact Nat.lt_of_le_of_lt (Nat.le_trans HFL.out HL40.out) (by decide)
            have HCV : Hid ((F ++ [c]).map (cv n) = F.map (cv n) ++ [.int .i64 y]) := by show _ = _; rw [HY.out]; simp [cv, cz]
            have HLV : Hid ((L2 ++ [c]).map (cz n) = L2.map (cz n) ++ [y]) := by show _ = _; rw [HY.out]; simp
            have HL3 : Hid ((F ++ [c]).length ≤ (L2 ++ [c]).length) := by show _ ≤ _; rw [List.length_append, List.length_append]; exact Nat.succ_le_succ HFL.out
            obtain ⟨nc, hnc⟩ : ∃ x, x = nxt n sg c := ⟨_, rfl⟩
            have NXC : Hid (∀ w', Below w.heap.size w w' → Calls Tryd.prog 34 #[.pointer (some ⟨D, 0, none⟩), .int .i64 y, .slice (some ⟨sgb, 0, none⟩) n sc] w' fun e w'' => ∃ y2 : Int, e = .returned (.int .i64 y2) ∧ Hid (y2 = cz n nc) ∧ Below w'.heap.size w' w'') := fun w' hb => by
              rw [HY.out, hnc]
              exact (NX.out w' c hb HC4.out).mono fun e w'' ⟨h1, h2⟩ => ⟨_, h1, rfl, h2⟩
            rw [← hnc] at HWS HNC
            clear hnc hbit hc4
            go_wp2_with (first
              | (at_mapUpdate; refine wpl_put_set (by rfl) _ _ _ (by rfl) M (L2.map (cz n)) (by rfl) HS2.out y (by rfl) (by rfl) HIN.out HNI.out HLM.out ?_; intro w5 hs5 hg5 hz5; rw [← HLV.out] at hs5; have HS5 := hid hs5; have HFO5 := hid (ownV_kept HFO.out hg5 (.inr fun e => setW_ne HS2.out HFO.out M e rfl)); have HG5 := hid (grown_trans HG.out hg5); have HB5 := hid (HBk.out.grown hg5 HBk.out.size (fun k hk => by cases hk; exact HMM.out)); clear hs5 hg5 hz5)
              | (at_builtin; refine wpl_app_int y _ _ (.slice fa fn fc) wr.heap.size (F.map (cv n)) (by rfl) (by rfl) (by rfl) (by rfl) HFO5.out HFM.out HG5.out.size ?_; intro v' w7 ho7 hb7 hg7; rw [← HCV.out] at ho7; have HO7 := hid ho7; have HS7 := hid (setW_kept HS5.out hg7 (fun e => setW_ne HS5.out HFO5.out M e.symm rfl)); have HLN7 := hid (ownV_len ho7); obtain ⟨sa, ssn, ssc, rfl⟩ := ownV_sh ho7; have HG7 := hid (grown_below HG5.out hb7); have HB7 := hid (HB5.out.trans (hb7.mono HBr.out.size)); clear ho7 hb7 hg7)
              | (go_at_call 34; refine (NXC.out _ HB7.out).mono ?_; rintro e w8 ⟨y2, rfl, HY2, hb8⟩; have HO8 := hid (ownV_below HO7.out hb8); have HS8 := hid (setW_below HS7.out hb8 (setW_lt HS7.out)); have HG8 := hid (grown_below HG7.out (hb8.mono HG7.out.size)); have HB8 := hid (below_step HB7.out hb8); clear hb8)
              | fail)
            have hy3 : -(m : Int) ≤ y2 ∧ y2 < m := by
              have h1 := HY2.out
              have h2 := HM.out
              have h3 := HNC.out
              unfold cz at h1; omega
            have hfl : (F ++ [c]).length = fn + 1 := by rw [List.length_append, HFN.out]; rfl
            have hssn : ssn = fn + 1 := by
              have h1 := HLN7.out
              rw [List.length_map, hfl] at h1
              exact h1
            go_roundw
            case rel => exact ⟨nc, s2 ||| 2 ^ c, F ++ [c], L2 ++ [c], y2, by go_num, hy3.1, hy3.2, HY2, by rw [hfl]; exact hssn, HO8, HS8, HSE3, HL3, HWS, HG8, HB8⟩
            case measure => simp [lenOf]; omega
    · have hzm : z = m := by omega
      have hb4 : b = 4 * n := by
        have e1 := HZ.out
        have e2 := HM.out
        unfold cz at e1; omega
      have HE : Hid (FS = Ls) := by
        have := HF.out
        rw [hb4, Nat.sub_self] at this
        show _ = _
        rw [this]
        show Ls ++ [] = Ls
        simp
      subst hzm
      clear hb4
      go_wp2_with fail
      go_ret
      exact ⟨_, rfl, ⟨us, by rw [HE.out]; exact HO.out⟩, HBr.out⟩
end Go.Proofs.YtppkgilpmmhpoaaDoor
