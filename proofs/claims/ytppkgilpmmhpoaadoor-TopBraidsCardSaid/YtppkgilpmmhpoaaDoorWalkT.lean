/-
  Colors (11).
-/
import Derived.Test.YtppkgilpmmhpoaaDoorBaseF
import Derived.Test.YtppkgilpmmhpoaaDoorWalkR
import Derived.Test.YtppkgilpmmhpoaaDoorWalkJ
import Derived.Deep.LoopGhost
import Derived.OwnWalk
namespace Go.Proofs.YtppkgilpmmhpoaaDoor
open Go.RowKit
theorem walkF_all {n sg : Nat} (hn : 1 ≤ n) : ∀ f s c, c < 4 * n → (walkF n sg f s c).2.length ≤ f ∧ ∀ d, d ∈ (walkF n sg f s c).2 → d < 4 * n
  | 0, s, c, _ => ⟨Nat.le_refl _, fun d hd => by simp [walkF] at hd⟩
  | f + 1, s, c, hc => by
    have ih := walkF_all (sg := sg) hn f (s ||| 2 ^ c) (nxt n sg c) (nxt_lt hn hc)
    unfold walkF
    by_cases h : s.testBit c = true
    · rw [if_pos h]; exact ⟨Nat.zero_le _, fun d hd => by simp at hd⟩
    · rw [if_neg h]
      refine ⟨Nat.succ_le_succ ih.1, fun d hd => ?_⟩
      rcases List.mem_cons.1 hd with rfl | hd
      · exact hc
      · exact ih.2 d hd
theorem facesF_all {n sg : Nat} (hn : 1 ≤ n) : ∀ k b s, b + k ≤ 4 * n → ∀ l, l ∈ facesF n sg k b s → l.length ≤ 4 * n ∧ ∀ d, d ∈ l → d < 4 * n
  | 0, _, _, _ => fun l hl => by simp [facesF] at hl
  | k + 1, b, s, h => by
    intro l hl
    unfold facesF at hl
    split at hl
    · exact facesF_all hn k _ _ (by omega) l hl
    · have hw := walkF_all (sg := sg) hn (4 * n) s b (by omega)
      rcases List.mem_cons.1 hl with rfl | hl
      · exact hw
      · exact facesF_all hn k _ _ (by omega) l hl
theorem faces_all {n sg : Nat} (hn : 1 ≤ n) (l : List Nat) (hl : l ∈ faces n sg) : l.length ≤ 4 * n ∧ ∀ d, d ∈ l → d < 4 * n := facesF_all hn _ _ _ (by omega) l hl
theorem isFL_at {n : Nat} {w : World} {a : Option Addr} {k c : Nat} {Ls : List (List Nat)} (h : IsFL n w (.slice a k c) Ls) (i : Nat) (hi : i < Ls.length) : ∃ g ra rc, a = some ⟨g, 0, none⟩ ∧ w.cell? ⟨g, i, none⟩ = some (.slice ra (Ls.getD i []).length rc) ∧ ∀ j, j < (Ls.getD i []).length → ∃ g2, ra = some ⟨g2, 0, none⟩ ∧ w.cell? ⟨g2, j, none⟩ = some (.int .i64 (cz n ((Ls.getD i []).getD j 0))) := by
  obtain ⟨us, h1, h2, h3⟩ := h
  obtain ⟨g, h4, h5, h6⟩ := isV_at h2 i (by omega)
  have h7 := h3 i hi
  obtain ⟨pa, pc, h8⟩ := isV_slice h7
  rw [List.length_map] at h8
  rw [h8] at h6 h7
  refine ⟨g, pa, pc, h4, h6, fun j hj => ?_⟩
  obtain ⟨g2, h9, _, h10⟩ := isV_at h7 j (by simpa using hj)
  refine ⟨g2, h9, h10.trans ?_⟩
  have e : (Ls.getD i []).getD j 0 = (Ls.getD i [])[j] := by rw [List.getD_eq_getElem?_getD, List.getElem?_eq_getElem hj]; rfl
  rw [e, List.getD_eq_getElem?_getD, List.getElem?_map, List.getElem?_eq_getElem hj]; rfl
theorem isFL_row {n : Nat} {w : World} {a : Option Addr} {k c : Nat} {Ls : List (List Nat)} (h : IsFL n w (.slice a k c) Ls) (i : Nat) (hi : i < Ls.length) : ∃ g ra rc, a = some ⟨g, 0, none⟩ ∧ ∀ w', Below w.heap.size w w' → w'.cell? ⟨g, i, none⟩ = some (.slice ra (Ls.getD i []).length rc) ∧ ∀ j, j < (Ls.getD i []).length → ∃ g2, ra = some ⟨g2, 0, none⟩ ∧ w'.cell? ⟨g2, j, none⟩ = some (.int .i64 (cz n ((Ls.getD i []).getD j 0))) := by
  obtain ⟨g, ra, rc, e, hc, hj⟩ := isFL_at h i hi
  refine ⟨g, ra, rc, e, fun w' hb => ⟨(hb.cell (World.block_lt_of_cell? w _ hc)).trans hc, fun j hjl => ?_⟩⟩
  obtain ⟨g2, h1, h2⟩ := hj j hjl
  exact ⟨g2, h1, (hb.cell (World.block_lt_of_cell? w _ h2)).trans h2⟩
/-- the colors, and what is still to be done -/
structure Clr (K : Nat) (cl : List Int) (td : List Nat) : Prop where
  len : cl.length = K
  all : ∀ k, k < K → cl.getD k 0 = -1 ∨ cl.getD k 0 = 0 ∨ cl.getD k 0 = 1
  done : ∀ x, x ∈ td → x < K ∧ (cl.getD x 0 = 0 ∨ cl.getD x 0 = 1)
theorem getD_set0 {cl : List Int} {o k : Nat} {c : Int} (ho : o < cl.length) : (cl.set o c).getD k 0 = if k = o then c else cl.getD k 0 := by
  rw [List.getD_eq_getElem?_getD, List.getD_eq_getElem?_getD, List.getElem?_set]
  by_cases e : o = k
  · rw [if_pos e, if_pos e.symm, if_pos (e ▸ ho)]; rfl
  · rw [if_neg e, if_neg (fun h => e h.symm)]
theorem Clr.more {K : Nat} {cl : List Int} {td : List Nat} (h : Clr K cl td) {o : Nat} {c : Int} (ho : o < K) (hc : c = 0 ∨ c = 1) : Clr K (cl.set o c) (td ++ [o]) := by
  have hol : o < cl.length := by rw [h.len]; exact ho
  refine ⟨by rw [List.length_set]; exact h.len, fun k hk => ?_, fun x hx => ?_⟩
  · rw [getD_set0 hol]
    split
    · rcases hc with rfl | rfl <;> simp
    · exact h.all k hk
  · rw [getD_set0 hol]
    rcases List.mem_append.1 hx with hx | hx
    · obtain ⟨h1, h2⟩ := h.done x hx
      refine ⟨h1, ?_⟩
      split
      · exact hc
      · exact h2
    · simp at hx
      subst hx
      exact ⟨ho, by rw [if_pos rfl]; exact hc⟩
theorem Clr.less {K : Nat} {cl : List Int} {x : Nat} {td : List Nat} (h : Clr K cl (x :: td)) : Clr K cl td := ⟨h.len, h.all, fun y hy => h.done y (List.mem_cons_of_mem _ hy)⟩
theorem count_mark {cl : List Int} {o : Nat} {c : Int} (ho : o < cl.length) (h : cl.getD o 0 = -1) (hc : c ≠ -1) : (cl.set o c).count (-1) + 1 = cl.count (-1) := by
  rw [List.getD_eq_getElem?_getD, List.getElem?_eq_getElem ho] at h
  simp only [Option.getD_some] at h
  have h2 : 0 < cl.count (-1) := List.count_pos_iff.2 (h ▸ List.getElem_mem ho)
  have e : (c == (-1 : Int)) = false := by simpa using hc
  rw [List.count_set ho, h, e]
  simp
  omega
theorem map_getD {cl : List Int} {k : Nat} (hk : k < cl.length) : (cl.map (Value.int .i64)).getD k undef = .int .i64 (cl.getD k 0) := by
  rw [List.getD_eq_getElem?_getD, List.getElem?_map, List.getElem?_eq_getElem hk, List.getD_eq_getElem?_getD, List.getElem?_eq_getElem hk]; rfl
/-- the sum of the first k -/
def sumTo (cl : List Int) : Nat → Int
  | 0 => 0
  | k + 1 => sumTo cl k + cl.getD k 0
theorem sumTo_bd {K : Nat} {cl : List Int} {td : List Nat} (h : Clr K cl td) : ∀ k, k ≤ K → -(k : Int) ≤ sumTo cl k ∧ sumTo cl k ≤ k
  | 0, _ => by simp [sumTo]
  | k + 1, hk => by
    have ih := sumTo_bd h k (by omega)
    have := h.all k (by omega)
    show -((k + 1 : Nat) : Int) ≤ sumTo cl k + cl.getD k 0 ∧ sumTo cl k + cl.getD k 0 ≤ ((k + 1 : Nat) : Int)
    omega
theorem ownV_belowB {w w' : World} {B B' : Nat} {e : TypeId} {v : Value} {xs : List Value} (h : OwnV w B e v xs) (hb : Below B' w w') (hk : ∀ k, v.ownBlock = some k → k < B') : OwnV w' B e v xs := by
  obtain ⟨h1, h2⟩ := h
  refine ⟨h1, h2.imp_right ?_⟩
  rintro ⟨g, cap, cur, rfl, hB, hh, r⟩
  exact ⟨g, cap, cur, rfl, hB, (hb.block g (hk g rfl)).trans hh, r⟩
/-- where the map of the faces leads -/
def Into (f : Int → Option Nat) (K : Nat) : Prop := ∀ d v, f d = some v → v < K
theorem Into.get {f : Int → Option Nat} {K : Nat} (h : Into f K) (hK : 1 ≤ K) (d : Int) : (f d).getD 0 < K := by
  cases e : f d with
  | none => exact hK
  | some v => exact h d v e
theorem Into.put {f : Int → Option Nat} {K k : Nat} (h : Into f K) (hk : k < K) (c : Int) : Into (fun d => if d = c then some k else f d) K := fun d v e => by
  have e' : (if d = c then some k else f d) = some v := e
  by_cases e2 : d = c
  · rw [if_pos e2] at e'; cases e'; exact hk
  · rw [if_neg e2] at e'; exact h d v e'
set_option maxRecDepth 100000 in
set_option maxHeartbeats 8000000 in
theorem colors_any (n wb wc sg sgb sc : Nat) (w : World) (hn : 1 ≤ n ∧ n ≤ 10) (hw : Wrd w n 0 wb) (hs : Sgs w n sg sgb) (hg : gen n sg = 0) (hf1 : 1 ≤ (faces n sg).length) :
    Calls Tryd.prog 11 #[.slice (some ⟨wb, 0, none⟩) (2 * n) wc, .slice (some ⟨sgb, 0, none⟩) n sc] w fun e w' => ∃ x : Int, e = .returned (.tuple #[.int .i64 (((faces n sg).length : Int) - x), .int .i64 x, .int .i64 0]) ∧ Hid (-1000 ≤ x ∧ x ≤ 1000) ∧ Below w.heap.size w w' := by
  have SG := hid (signed_any n wb wc sg sgb sc w hn hw hs)
  have HS := hid hs
  have HN := hid hn
  obtain ⟨hn1, hn10⟩ := hn
  have hk40 := faces_len n sg
  obtain ⟨FS, hFS⟩ : ∃ FS, FS = faces n sg := ⟨_, rfl⟩
  have HFS := hid hFS
  have HFA : Hid (∀ l, l ∈ FS → l.length ≤ 40 ∧ ∀ d, d ∈ l → d < 4 * n) := fun l hl => by
    have h := faces_all (sg := sg) hn1 l (by rw [← hFS]; exact hl)
    exact ⟨by omega, h.2⟩
  rw [← hFS] at hk40 hf1 ⊢
  obtain ⟨K, hK⟩ : ∃ K, K = FS.length := ⟨_, rfl⟩
  have HK := hid hK
  rw [← hK] at hk40 hf1 ⊢
  have hK40 : K ≤ 40 := by omega
  have HG := hid hg
  clear hw hs hFS hK hg hk40
  generalize 2 * n = m at *
  go_enter Tryd.func11, Tryd.ntmps11
  go_upto_region 2 with (first | (go_at_call 24; refine SG.out.mono ?_; rintro e w1 ⟨D, pb, gs, cs, rfl, HC, hb1⟩; have HB1 := hid hb1; clear hb1) | fail)
  have GC := hid (gen_any D n wb wc pb gs cs sg sgb sc w1 HC.out (HS.out.below HB1.out))
  rw [HG.out] at GC
  have FC : Hid (∀ w', Below w1.heap.size w1 w' → Calls Tryd.prog 25 #[.pointer (some ⟨D, 0, none⟩), .slice (some ⟨sgb, 0, none⟩) n sc] w' fun e w'' => ∃ u, e = .returned u ∧ (∃ us, OwnFL n w'' w'.heap.size u us FS) ∧ Below w'.heap.size w' w'') := fun w' hb => by rw [HFS.out]; exact faces_any D n wb wc pb gs cs sg sgb sc w' (HC.out.below hb) ((HS.out.below HB1.out).below hb)
  go_upto_region 7 with (first
    | (go_at_call 26; refine GC.out.mono ?_; rintro e w2 ⟨rfl, hb2⟩; have HB2 := hid (below_step HB1.out hb2); have F2 := hid (FC.out w2 hb2); clear hb2)
    | (go_at_call 25; refine F2.out.mono ?_; rintro e w4 ⟨u, rfl, ⟨us, ho⟩, hb4⟩; have HB4 := hid (below_step HB2.out hb4); have HU : Hid (IsFL n w4 u FS) := ownFL_isLL ho (by rw [← HK.out]; omega) (fun l hl => by have := (HFA.out l hl).1; omega); have hul : lenOf u = K := (by rw [HK.out, ← ho.1]; exact ownV_len ho.2.1); obtain ⟨ua, un, uc, rfl⟩ := ownV_sh ho.2.1; clear ho hb4)
    | fail)
  have hun : un = K := hul
  subst hun
  clear hul GC FC SG
  have HB5 := hid (ba w4 (.map #[] 0))
  have HM5 := hid (numW_made w4)
  have hmm := @run_makeMap Tryd.prog
  go_upto_region 9 with fail
  clear hmm
  obtain ⟨M, hM⟩ : ∃ M, M = w4.heap.size := ⟨_, rfl⟩
  obtain ⟨w5, hw5⟩ : ∃ v, v = w4.alloc (.map #[] 0) := ⟨_, rfl⟩
  rw [← hw5] at HB5 HM5 ⊢
  have HMM : Hid (w4.heap.size ≤ M) := by show _ ≤ _; omega
  rw [← hM] at HM5 ⊢
  clear hw5 hM
  go_loopw [44] (fun iv wr => ∃ (i cnt : Nat) (f : Int → Option Nat), iv = .int .i64 i ∧ i ≤ un ∧ Hid (NumW wr M cnt f) ∧ Hid (cnt ≤ 40 * i) ∧ Hid (Into f un) ∧ Hid (Below w4.heap.size w4 wr)) (fun iv _ => un - (intOf iv).toNat)
  case atStart => exact ⟨0, 0, _, rfl, Nat.zero_le _, HM5, Nat.le_refl _, (fun d v e => by cases e), HB5⟩
  case round =>
    obtain ⟨i, cnt, f, rfl, hi, HNW, HCN, HIN, HBr⟩ := hrel
    rename World => wr
    by_cases hlt : i < un
    · have hiF : i < FS.length := by rw [← HK.out]; exact hlt
      obtain ⟨ug, ra, rc, rfl, hrow⟩ := isFL_row HU.out i hiF
      have HRJ : Hid (∀ w' j, Below w4.heap.size w4 w' → j < (FS.getD i []).length → ∃ g2, ra = some ⟨g2, 0, none⟩ ∧ w'.cell? ⟨g2, j, none⟩ = some (.int .i64 (cz n ((FS.getD i []).getD j 0)))) := fun w' j hb hj => (hrow w' hb).2 j hj
      have cu := (hrow wr HBr.out).1
      have hll := HFA.out (FS.getD i []) (by rw [List.getD_eq_getElem?_getD, List.getElem?_eq_getElem hiF]; exact List.getElem_mem hiF)
      have HLD : Hid (∀ j, j < (FS.getD i []).length → (FS.getD i []).getD j 0 < 4 * n) := fun j hj => by
        rw [List.getD_eq_getElem?_getD, List.getElem?_eq_getElem hj]
        exact hll.2 _ (List.getElem_mem hj)
      have hl40 := hll.1
      generalize FS.getD i [] = l at *
      obtain ⟨ln, hln⟩ : ∃ ln, ln = l.length := ⟨_, rfl⟩
      have HLN := hid hln
      rw [← hln] at cu hl40 HRJ HLD
      clear hll hrow hln hiF
      go_wp2_with fail
      clear cu
      go_loopw [51] (fun jv wk => ∃ (j c2 : Nat) (f2 : Int → Option Nat), jv = .int .i64 j ∧ j ≤ ln ∧ Hid (NumW wk M c2 f2) ∧ Hid (c2 ≤ 40 * i + j) ∧ Hid (Into f2 un) ∧ Hid (Below w4.heap.size w4 wk)) (fun jv _ => ln - (intOf jv).toNat)
      case atStart => exact ⟨0, cnt, f, rfl, Nat.zero_le _, HNW, by have := HCN.out; show _ ≤ _; omega, HIN, HBr⟩
      case round =>
        obtain ⟨j, c2, f2, rfl, hj, HNW2, HCN2, HIN2, HBk⟩ := hrel
        rename World => wk
        by_cases hltj : j < ln
        · obtain ⟨g2, rfl, cj⟩ := HRJ.out wk j HBk.out hltj
          have HZI : Hid (InR (cz n (l.getD j 0))) := cz_in hn10 (HLD.out j hltj)
          generalize cz n (l.getD j 0) = y at *
          have HC9 : Hid (c2 < 1000000000) := by have := HCN2.out; show _ < _; omega
          go_wp2_with (first
            | (refine wpl_put_num (by rfl) _ _ _ (by rfl) M c2 f2 (by rfl) HNW2.out y (by rfl) i (by rfl) HZI.out (by omega) HC9.out ?_; intro w7 hz7 hg7 hs7; have HZ7 := hid hz7; have HB7 : Hid (Below w4.heap.size w4 w7) := hid (Below.grown HBk.out hg7 HBk.out.size (fun b hb => by injection hb with hb; rw [← hb]; exact HMM.out)); clear hz7 hg7 hs7)
            | fail)
          go_roundw
          case rel => exact ⟨j + 1, c2 + 1, _, by go_num, by omega, HZ7, by have := HCN2.out; show _ ≤ _; omega, HIN2.out.put hlt y, HB7⟩
          case measure => simp [intOf]; omega
        · obtain rfl : ln = j := by omega
          go_wp2_with fail
          go_roundw
          case rel => exact ⟨i + 1, c2, f2, by go_num, by omega, HNW2, by have := HCN2.out; show _ ≤ _; omega, HIN2, HBk⟩
          case measure => simp [intOf]; omega
    · obtain rfl : un = i := by omega
      have HB10 : Hid (Below wr.heap.size wr (wr.alloc (.cells #[.int .i64 (-1)] 3))) := ba _ _
      have h10 := heap_alloc_new wr (.cells #[.int .i64 (-1)] 3)
      have RP := hid (repeat_any un wr.heap.size (wr.alloc (.cells #[.int .i64 (-1)] 3)) ⟨hf1, by omega⟩ (box1 h10))
      clear h10
      go_upto_region 18 with (first | (go_at_call 15; refine RP.out.mono ?_; rintro e w11 ⟨cb, rfl, hg11, hge, hb11⟩; have HB11 := hid (below_step HB10.out hb11); have HGE : Hid (wr.heap.size ≤ cb) := hid (Nat.le_trans HB10.out.size hge.out); clear hb11 hge) | fail)
      clear RP
      have HC11 : Hid (OwnV w11 wr.heap.size 3 (.slice (some ⟨cb, 0, none⟩) un un) ((List.replicate un (-1 : Int)).map (.int .i64))) := by
        rw [List.map_replicate]
        exact ⟨by simp, .inr ⟨cb, un, _, by rw [List.length_replicate], HGE.out, hg11.out, by simp, by unfold maxLen; omega, by simp, by simp⟩⟩
      clear hg11
      have HL : Hid (∀ w' (c : Int), Below wr.heap.size wr w' → InR c → (Instr.lookup 60 (.map (some M)) (.int .i64 c) false).run Tryd.prog w' = .ok (.int .i64 (((f c).getD 0 : Nat) : Int)) w') := fun w' c hb hc => numW_look01 (numW_below HNW.out hb (numW_lt HNW.out)) hc
      have HFU : Hid (∀ w', Below wr.heap.size wr w' → Below w4.heap.size w4 w') := fun w' hb => below_step HBr.out hb
      have hz0 : InR 0 := wf64 (by omega)
      have hl0 := HL.out w11 0 HB11.out hz0
      have hv0 := HIN.out.get hf1 0
      have HV0 := hid hv0
      obtain ⟨v0, hv0e⟩ : ∃ v, v = (f 0).getD 0 := ⟨_, rfl⟩
      have HV0E := hid hv0e
      rw [← hv0e] at hl0 hv0 HV0
      have hc0 := ownV_cell HC11.out v0 (by simpa using hv0)
      have hf0 := ownV_frozen HC11.out v0
      clear hv0e
      go_upto_region 19 with fail
      clear hl0 hc0 hf0
      have HW := hid (ownV_set HC11.out v0 (.int .i64 0))
      have HC12 : Hid (OwnV (w11.setCell ⟨cb, v0, none⟩ (.int .i64 0)) wr.heap.size 3 (.slice (some ⟨cb, 0, none⟩) un un) (((List.replicate un (-1 : Int)).set v0 0).map (.int .i64))) := by rw [List.map_set]; exact HW.out.1
      have HB12 : Hid (Below wr.heap.size wr (w11.setCell ⟨cb, v0, none⟩ (.int .i64 0))) := hid (Below.grown HB11.out HW.out.2 HB11.out.size (fun b hb => by injection hb with hb; rw [← hb]; exact HGE.out))
      have HCL0 : Hid (Clr un ((List.replicate un (-1 : Int)).set v0 0) [v0]) := by
        have h0 : Clr un (List.replicate un (-1 : Int)) [] := ⟨by simp, fun k hk => .inl (by rw [List.getD_eq_getElem?_getD, List.getElem?_replicate, if_pos hk]; rfl), fun x hx => by simp at hx⟩
        exact h0.more HV0.out (.inl rfl)
      clear HW
      generalize w11.setCell ⟨cb, v0, none⟩ (.int .i64 0) = w12 at *
      generalize (List.replicate un (-1 : Int)).set v0 0 = cl0 at *
      have hl0 := HL.out w12 0 HB12.out hz0
      rw [← HV0E.out] at hl0
      have HQ13 : Hid (OwnQ (w12.alloc (.cells #[.int .i64 (v0 : Int)] 3)) w12.heap.size (.slice (some ⟨w12.heap.size, 0, none⟩) 1 1) ([v0].map iv)) :=
        ownQ_of (xs := [iv v0]) ⟨rfl, .inr ⟨_, 1, #[.int .i64 (v0 : Int)], rfl, Nat.le_refl _, heap_alloc_new _ _, Nat.le_refl _, by decide, rfl, rfl⟩⟩
      have HC13 := hid (ownV_below HC12.out (ba w12 (.cells #[.int .i64 (v0 : Int)] 3)))
      have HB13 := hid (HB12.out.alloc HB12.out.size (.cells #[.int .i64 (v0 : Int)] 3))
      have HCQ : Hid (cb < w12.heap.size) := (ownV_le HC12.out).2
      have HRQ : Hid (wr.heap.size ≤ w12.heap.size) := HB12.out.size
      go_upto_region 20 with fail
      clear hl0
      generalize w12.alloc (.cells #[.int .i64 (v0 : Int)] 3) = w13 at *
      obtain ⟨Bq, hBq⟩ : ∃ b, b = w12.heap.size := ⟨_, rfl⟩
      rw [← hBq] at HQ13 HCQ HRQ ⊢
      clear hBq HC11 HC12 HB11 HB12
      have HG100 : Hid (1 + cl0.count (-1) ≤ 100) := by
        have h1 := List.count_le_length (a := (-1 : Int)) (l := cl0)
        rw [HCL0.out.len] at h1
        show _ ≤ _; omega
      go_loopg [16] (1 + cl0.count (-1)) (fun g tv wz => ∃ (cl : List Int) (td : List Nat), g = td.length + cl.count (-1) ∧ g ≤ 100 ∧ Hid (Clr un cl td) ∧ Hid (OwnV wz wr.heap.size 3 (.slice (some ⟨cb, 0, none⟩) un un) (cl.map (.int .i64))) ∧ Hid (OwnQ wz Bq tv (td.map iv)) ∧ Hid (Below wr.heap.size wr wz))
      case atStart => exact ⟨cl0, [v0], rfl, HG100.out, HCL0, HC13, HQ13, HB13⟩
      case round =>
        obtain ⟨cl, td, hgk, hg100, HCL, HCO, HQU, HBz⟩ := hrel
        rename World => wz
        have HGK := hid hgk
        clear hgk
        cases td with
        | nil =>
          obtain ⟨qg, qo, qc, rfl, hqB, hqc⟩ := ownQ_sh HQU.out
          rw [List.map_nil, List.length_nil]
          go_wp2_with fail
          go_loopw [20, 113] (fun sv kv wk => ∃ k : Nat, kv = .int .i64 k ∧ k ≤ un ∧ sv = .int .i64 (sumTo cl k) ∧ wk = wz) (fun _ kv _ => un - (intOf kv).toNat)
          case atStart => exact ⟨0, rfl, Nat.zero_le _, rfl, rfl⟩
          case round =>
            obtain ⟨k, rfl, hk, rfl, rfl⟩ := hrel
            rename World => wy
            have hb1 := sumTo_bd HCL.out k hk
            by_cases hltk : k < un
            · have ck := ownV_cell HCO.out k (by rw [List.length_map, HCL.out.len]; exact hltk)
              rw [map_getD (by rw [HCL.out.len]; exact hltk)] at ck
              have hall := HCL.out.all k hltk
              have hy1 : -1 ≤ cl.getD k 0 ∧ cl.getD k 0 ≤ 1 := by omega
              have HSU : Hid (sumTo cl (k + 1) = sumTo cl k + cl.getD k 0) := rfl
              clear hall
              generalize cl.getD k 0 = y at *
              generalize sumTo cl k = s at *
              obtain ⟨hb2, hb3⟩ := hb1
              obtain ⟨hy2, hy3⟩ := hy1
              go_wp2_with fail
              go_roundw
              case rel => exact ⟨k + 1, by go_num, by omega, by rw [HSU.out], by first | rfl | trivial⟩
              case measure => simp [intOf]; omega
            · obtain rfl : un = k := by omega
              obtain ⟨y, hy⟩ : ∃ y, y = sumTo cl un := ⟨_, rfl⟩
              rw [← hy] at hb1 ⊢
              obtain ⟨hb2, hb3⟩ := hb1
              clear hy
              go_wp2_with fail
              refine bodyPost_ret (results_tmp3 rfl _ _ _) rfl ?_
              exact ⟨y, rfl, ⟨by omega, by omega⟩, HB4.out.trans ((HFU.out wy HBz.out).mono HB4.out.size)⟩
        | cons x ys =>
          obtain ⟨hx, hxc⟩ := HCL.out.done x (List.mem_cons_self ..)
          have hxF : x < FS.length := by rw [← HK.out]; exact hx
          obtain ⟨ug, ra, rc, rfl, hrow⟩ := isFL_row HU.out x hxF
          have HRJ : Hid (∀ w' j, Below w4.heap.size w4 w' → j < (FS.getD x []).length → ∃ g2, ra = some ⟨g2, 0, none⟩ ∧ w'.cell? ⟨g2, j, none⟩ = some (.int .i64 (cz n ((FS.getD x []).getD j 0)))) := fun w' j hb hj => (hrow w' hb).2 j hj
          have cu := (hrow wz (HFU.out wz HBz.out)).1
          have hll := HFA.out (FS.getD x []) (by rw [List.getD_eq_getElem?_getD, List.getElem?_eq_getElem hxF]; exact List.getElem_mem hxF)
          have HLD : Hid (∀ j, j < (FS.getD x []).length → (FS.getD x []).getD j 0 < 4 * n) := fun j hj => by
            rw [List.getD_eq_getElem?_getD, List.getElem?_eq_getElem hj]
            exact hll.2 _ (List.getElem_mem hj)
          have hl40 := hll.1
          generalize FS.getD x [] = l at *
          obtain ⟨ln, hln⟩ : ∃ ln, ln = l.length := ⟨_, rfl⟩
          have HLN := hid hln
          rw [← hln] at cu hl40 HRJ HLD
          obtain ⟨qg, qo, qc, rfl, hqB, hqc⟩ := ownQ_sh HQU.out
          have hc0 := ownQ_cell HQU.out 0 (by simp)
          rw [Nat.add_zero] at hc0
          replace hc0 : wz.cell? ⟨qg, qo, none⟩ = some (.int .i64 (x : Int)) := hc0
          obtain ⟨q, hq⟩ : ∃ q, q = ((x :: ys).map iv).length := ⟨_, rfl⟩
          have hq1 : 1 ≤ q := by rw [hq]; simp
          have hqd : decide (0 < q) = true := decide_eq_true (by omega)
          rw [← hq] at HQU ⊢
          clear hll hrow hln hxF hxc hq hqc hqB
          go_wp2_with fail
          clear cu hc0
          go_loopw [16, 83] (fun tv jv wk => ∃ (j : Nat) (cl2 : List Int) (ys2 : List Nat), jv = .int .i64 j ∧ j ≤ ln ∧ Hid (gk = (x :: ys2).length + cl2.count (-1)) ∧ Hid (Clr un cl2 (x :: ys2)) ∧ Hid (OwnV wk wr.heap.size 3 (.slice (some ⟨cb, 0, none⟩) un un) (cl2.map (.int .i64))) ∧ Hid (OwnQ wk Bq tv ((x :: ys2).map iv)) ∧ Hid (Below wr.heap.size wr wk)) (fun _ jv _ => ln - (intOf jv).toNat)
          case atStart => exact ⟨0, cl, ys, rfl, Nat.zero_le _, HGK, HCL, HCO, HQU, HBz⟩
          case round =>
            obtain ⟨j, cl2, ys2, rfl, hj, HGK2, HCL2, HCO2, HQU2, HBk⟩ := hrel
            rename World => wk
            obtain ⟨qg2, qo2, qc2, rfl, hqB2, hqc2⟩ := ownQ_sh HQU2.out
            have hc0 := ownQ_cell HQU2.out 0 (by simp)
            rw [Nat.add_zero] at hc0
            replace hc0 : wk.cell? ⟨qg2, qo2, none⟩ = some (.int .i64 (x : Int)) := hc0
            have hqlen : ((x :: ys2).map iv).length = ys2.length + 1 := by simp
            rw [hqlen] at HQU2 hqc2 ⊢
            clear hqlen
            by_cases hltj : j < ln
            · obtain ⟨g2, rfl, cj⟩ := HRJ.out wk j (HFU.out wk HBk.out) hltj
              have hcd := HLD.out j hltj
              have hzb : -100 ≤ cz n (l.getD j 0) ∧ cz n (l.getD j 0) ≤ 100 := by unfold cz; omega
              obtain ⟨hzb1, hzb2⟩ := hzb
              generalize cz n (l.getD j 0) = z at *
              have hlk := HL.out wk (-1 - z) HBk.out (wf64 (by omega))
              have hok := HIN.out.get hf1 (-1 - z)
              generalize (f (-1 - z)).getD 0 = o at *
              have co := ownV_cell HCO2.out o (by rw [List.length_map, HCL2.out.len]; exact hok)
              rw [map_getD (by rw [HCL2.out.len]; exact hok)] at co
              have hall := HCL2.out.all o hok
              clear hcd
              by_cases hneg : cl2.getD o 0 = -1
              · obtain ⟨hxk, hxc⟩ := HCL2.out.done x (List.mem_cons_self ..)
                have cx := ownV_cell HCO2.out x (by rw [List.length_map, HCL2.out.len]; exact hxk)
                rw [map_getD (by rw [HCL2.out.len]; exact hxk)] at cx
                have hof := ownV_frozen HCO2.out o
                have hx01 : 0 ≤ cl2.getD x 0 ∧ cl2.getD x 0 ≤ 1 := by omega
                have HOL : Hid (o < cl2.length) := by rw [HCL2.out.len]; exact hok
                have HOK := hid hok
                have HNG := hid hneg
                rw [hneg] at co
                obtain ⟨cxv, hcxv⟩ : ∃ v, v = cl2.getD x 0 := ⟨_, rfl⟩
                rw [← hcxv] at cx hx01
                obtain ⟨hx0, hx1⟩ := hx01
                have HCN3 : Hid ((cl2.set o (1 - cxv)).count (-1) + 1 = cl2.count (-1)) := count_mark HOL.out hneg (by omega)
                have HCL3 : Hid (Clr un (cl2.set o (1 - cxv)) ((x :: ys2) ++ [o])) := HCL2.out.more hok (by omega)
                have HLQ : Hid (((x :: ys2).map iv).length < 1000000) := by
                  have h2 := HGK2.out
                  show _ < _
                  rw [List.length_map]; omega
                clear hall hneg hxc hcxv
                go_upto_region 28 with fail
                clear hlk co cx hc0 cj hof
                have HW := hid (ownV_set HCO2.out o (.int .i64 (1 - cxv)))
                have HC7 : Hid (OwnV (wk.setCell ⟨cb, o, none⟩ (.int .i64 (1 - cxv))) wr.heap.size 3 (.slice (some ⟨cb, 0, none⟩) un un) ((cl2.set o (1 - cxv)).map (.int .i64))) := by rw [List.map_set]; exact HW.out.1
                have HB7 : Hid (Below wr.heap.size wr (wk.setCell ⟨cb, o, none⟩ (.int .i64 (1 - cxv)))) := hid (Below.grown HBk.out HW.out.2 HBk.out.size (fun b hb => by injection hb with hb; rw [← hb]; exact HGE.out))
                have HQ7 := hid (ownQ_kept HQU2.out HW.out.2 (fun k hk => by injection hk with hk; rw [← hk]; exact HCQ.out))
                have HSZ7 : Hid (Bq ≤ (wk.setCell ⟨cb, o, none⟩ (.int .i64 (1 - cxv))).heap.size) := by
                  obtain ⟨_, _, _, _, e, h1, h2, _⟩ := HQ7.out
                  have := heap_lt h2
                  show _ ≤ _; omega
                clear HW
                generalize wk.setCell ⟨cb, o, none⟩ (.int .i64 (1 - cxv)) = w7 at *
                go_wp2_with (first
                  | (at_builtin; refine wpl_app_q (o : Int) _ _ (.slice (some ⟨qg2, qo2, none⟩) (ys2.length + 1) qc2) Bq ((x :: ys2).map iv) (by rfl) (by rfl) (by rfl) (by rfl) HQ7.out HLQ.out HSZ7.out ?_; intro v' w8 hq8 hb8; have HQ8 := hid hq8; have HC8 := hid (ownV_belowB HC7.out hb8 (fun k hk => by injection hk with hk; rw [← hk]; exact HCQ.out)); have HB8 : Hid (Below wr.heap.size wr w8) := hid (HB7.out.trans (hb8.mono HRQ.out)); obtain ⟨sg8, so8, sc8, rfl, -, -⟩ := ownQ_sh hq8; clear hq8 hb8)
                  | fail)
                go_roundw
                case rel => first | exact ⟨j + 1, _, ys2 ++ [o], by go_num, by omega, by have h1 := HGK2.out; have h2 := HCN3.out; show _ = _; simp at h1 ⊢; omega, HCL3, HC8, by have h := HQ8.out; rw [show (List.map iv (x :: ys2) ++ [Value.int .i64 (o : Int)]).length = ys2.length + 1 + 1 by simp] at h; show OwnQ _ _ _ (((x :: ys2) ++ [o]).map iv); rw [List.map_append]; exact h, HB8⟩ | ((repeat apply Exists.intro); exact ⟨⟨j + 1, _, ys2 ++ [o], by go_num, by omega, by have h1 := HGK2.out; have h2 := HCN3.out; show _ = _; simp at h1 ⊢; omega, HCL3, HC8, by have h := HQ8.out; rw [show (List.map iv (x :: ys2) ++ [Value.int .i64 (o : Int)]).length = ys2.length + 1 + 1 by simp] at h; show OwnQ _ _ _ (((x :: ys2) ++ [o]).map iv); rw [List.map_append]; exact h, HB8⟩, rfl⟩)
                case measure => simp [intOf]; omega
              · have hnn : 0 ≤ cl2.getD o 0 ∧ cl2.getD o 0 ≤ 1 := by omega
                clear hall hneg
                generalize cl2.getD o 0 = y at *
                obtain ⟨hn0, hn1'⟩ := hnn
                go_wp2_with fail
                go_roundw
                case rel => exact ⟨j + 1, cl2, ys2, by go_num, by omega, HGK2, HCL2, HCO2, by have h := HQU2.out; exact h, HBk⟩
                case measure => simp [intOf]; omega
            · obtain rfl : ln = j := by omega
              have hgk2 : ys2.length + cl2.count (-1) < gk := by have h := HGK2.out; simp at h; omega
              have HGL := hid hgk2
              have HQE : Hid (OwnQ wk Bq (.slice (some ⟨qg2, qo2, none⟩) ((ys2.map iv).length + 1) qc2) (iv x :: ys2.map iv)) := by
                rw [List.length_map]
                exact HQU2.out
              have HPOP := hid (ownQ_pop HQE.out)
              rw [List.length_map] at HPOP
              clear hgk2
              by_cases hc1 : qc2 = 1
              · rw [if_pos hc1] at HPOP
                subst hc1
                have hy0 : ys2 = [] := List.length_eq_zero_iff.1 (by omega)
                subst hy0
                clear hqc2
                go_wp2_with fail
                go_roundg (0 + cl2.count (-1))
                case measure => have h := HGL.out; simp at h ⊢; exact h
                case rel => exact ⟨cl2, [], rfl, by have h := HGL.out; simp at h; omega, HCL2.out.less, HCO2, by have h := HPOP.out; exact h, HBk⟩
              · rw [if_neg hc1] at HPOP
                go_wp2_with fail
                go_roundg (ys2.length + cl2.count (-1))
                case measure => exact HGL.out
                case rel => exact ⟨cl2, ys2, rfl, by have h := HGL.out; omega, HCL2.out.less, HCO2, by have h := HPOP.out; exact h, HBk⟩
end Go.Proofs.YtppkgilpmmhpoaaDoor
