/-
  The names of letters, of a word that is twice the same (19).
-/
import Derived.Test.YtppkgilpmmhpoaaDoorBaseE
import Derived.Test.YtppkgilpmmhpoaaDoorBaseD
namespace Go.Proofs.YtppkgilpmmhpoaaDoor
open Go.RowKit
/-- the names so far: the first k numbers -/
structure Nms (f : Int → Option Nat) (z : Nat → Int) (k : Nat) : Prop where
  yes : ∀ j, j < k → f (z j) = some j
  no : ∀ d, (∀ j, j < k → d ≠ z j) → f d = none
theorem nms_nil (z : Nat → Int) : Nms (fun _ => none) z 0 := ⟨fun j h => absurd h (Nat.not_lt_zero _), fun _ _ => rfl⟩
theorem nms_more {f : Int → Option Nat} {z : Nat → Int} {k : Nat} (h : Nms f z k) (hz : ∀ j, j < k → z j ≠ z k) : Nms (fun d => if d = z k then some k else f d) z (k + 1) := by
  refine ⟨fun j hj => ?_, fun d hd => ?_⟩
  · by_cases e : j = k
    · subst e; simp
    · have hjk : j < k := by omega
      simp only [if_neg (hz j hjk)]
      exact h.yes j hjk
  · have h1 : d ≠ z k := hd k (by omega)
    simp only [if_neg h1]
    exact h.no d (fun j hj => hd j (by omega))
/-- the word of the braid -/
def brd (n k : Nat) : List Value := (List.range k).map fun i => iv (i % n)
theorem brd_len (n k : Nat) : (brd n k).length = k := by simp [brd]
theorem brd_snoc (n k : Nat) : brd n k ++ [.int .i64 ((k % n : Nat) : Int)] = brd n (k + 1) := by
  unfold brd
  rw [List.range_succ, List.map_append]; rfl
theorem brd_at {n k j : Nat} (h : j < k) : (brd n k).getD j undef = iv (j % n) := by
  unfold brd
  rw [List.getD_eq_getElem?_getD, List.getElem?_map, List.getElem?_range h]; rfl
set_option maxRecDepth 100000 in
set_option maxHeartbeats 4000000 in
theorem named_any (n b c : Nat) (z : Nat → Int) (w : World) (hn : 1 ≤ n ∧ n ≤ 10) (hz : ∀ i, i < 2 * n → w.cell? ⟨b, i, none⟩ = some (.int .i64 (z i))) (hin : ∀ i, InR (z i)) (hper : ∀ i, i < 2 * n → z i = z (i % n)) (hinj : ∀ i j, i < n → j < n → z i = z j → i = j) :
    Calls Tryd.prog 19 #[.slice (some ⟨b, 0, none⟩) (2 * n) c] w fun e w' => ∃ g c', e = .returned (.slice (some ⟨g, 0, none⟩) (2 * n) c') ∧ OwnV w' w.heap.size 3 (.slice (some ⟨g, 0, none⟩) (2 * n) c') (brd n (2 * n)) ∧ Below w.heap.size w w' := by
  obtain ⟨hn1, hn10⟩ := hn
  have HZ : Hid (∀ w' i, Below w.heap.size w w' → i < 2 * n → w'.cell? ⟨b, i, none⟩ = some (.int .i64 (z i))) := fun w' i hb hi => (hb.cell (World.block_lt_of_cell? w _ (hz i hi))).trans (hz i hi)
  have HIN := hid hin
  have HPER := hid hper
  have HINJ := hid hinj
  obtain ⟨m, hm⟩ : ∃ m, m = 2 * n := ⟨_, rfl⟩
  have HM := hid hm
  rw [← hm] at HZ HPER ⊢
  have hm2 : 2 ≤ m := by omega
  have hm20 : m ≤ 20 := by omega
  have HB1 := hid (ba w (.map #[] 0))
  have HS1 := hid (numZ_made w)
  clear hz hin hper hinj hm
  have hmm := @run_makeMap Tryd.prog
  go_enter Tryd.func19, Tryd.ntmps19
  go_wp2_with fail
  obtain ⟨M, hM⟩ : ∃ M, M = w.heap.size := ⟨_, rfl⟩
  obtain ⟨wm, hwm⟩ : ∃ v, v = w.alloc (.map #[] 0) := ⟨_, rfl⟩
  rw [← hwm] at HB1 HS1 ⊢
  have HMM : Hid (w.heap.size ≤ M) := by show _ ≤ _; omega
  have HMW : Hid (M < wm.heap.size) := by rw [hM]; exact numZ_lt HS1.out
  have HWS : Hid (w.heap.size ≤ wm.heap.size) := HB1.out.size
  rw [← hM] at HS1 ⊢
  clear hwm hM hmm
  go_loopw [4, 12] (fun ov cv wr => ∃ (i : Nat) (f : Int → Option Nat), cv = .int .i64 i ∧ i ≤ m ∧ Hid (OwnV wr wm.heap.size 3 ov (brd n i)) ∧ Hid (NumZ wr M (min i n) f) ∧ Hid (Nms f z (min i n)) ∧ Hid (Below w.heap.size w wr) ∧ Hid (wm.heap.size ≤ wr.heap.size)) (fun _ cv _ => m - (intOf cv).toNat)
  case atStart => exact ⟨0, _, rfl, Nat.zero_le _, ownV_nil _ _ _, by rw [Nat.zero_min]; exact HS1.out, by rw [Nat.zero_min]; exact nms_nil z, HB1.out, Nat.le_refl _⟩
  case round =>
    obtain ⟨i, f, rfl, hi, HO, HNZ, HNM, HBr, HSZ⟩ := hrel
    rename World => wr
    by_cases hlt : i < m
    · have cz := HZ.out wr i HBr.out hlt
      have HLN : Hid ((brd n i).length < 1000000) := by show _ < _; rw [brd_len]; omega
      obtain ⟨oa, on, oc, rfl⟩ := ownV_sh HO.out
      by_cases hin : i < n
      · have hmi : min i n = i := by omega
        rw [hmi] at HNZ HNM
        have HFN : Hid (f (z i) = none) := HNM.out.no _ (fun j hj e => by have := HINJ.out i j hin (by omega) e; omega)
        have HNE : Hid (∀ j, j < i → z j ≠ z i) := fun j hj e => by have := HINJ.out j i (by omega) hin e; omega
        have hlk := numW_look (numZ_w HNZ.out) (HIN.out i)
        rw [HFN.out] at hlk
        have hln := numZ_len HNZ.out 3
        have HIC := hid (HIN.out i)
        have HMD : Hid (i % n = i) := Nat.mod_eq_of_lt hin
        clear hmi
        obtain ⟨y, hy⟩ : ∃ y, y = z i := ⟨_, rfl⟩
        have HY := hid hy
        rw [← hy] at cz hlk HIC HFN
        clear hy
        go_upto_region 8 with fail
        clear hlk cz
        go_wp2_with (first
          | (refine wpl_put_numz (by rfl) _ _ _ (by rfl) M i f (by rfl) HNZ.out y (by rfl) i (by rfl) HIC.out HFN.out (by omega) (by omega) ?_; intro w5 hz5 hg5 hs5; have HZ5 := hid hz5; have HO5 := hid (ownV_kept HO.out hg5 (by cases h : (Value.slice oa on oc).ownBlock with | none => exact .inl rfl | some k => exact .inr (fun e => by have h1 := (ownV_lt HO.out k h).1; have h2 := HMW.out; injection e with e; omega))); have HB5 : Hid (Below w.heap.size w w5) := hid (HBr.out.trans ((Below.refl _ _).grown hg5 HBr.out.size (fun b hb => by injection hb with hb; rw [← hb]; exact HMM.out))); have HS5 : Hid (wm.heap.size ≤ w5.heap.size) := (by show _ ≤ _; rw [hs5]; exact HSZ.out); have hl5 := numW_look0 (numZ_w HZ5.out) HIC.out (k := i) (by simp); clear hz5 hg5 hs5)
          | (at_builtin; refine wpl_app_int (i : Int) _ _ (.slice oa on oc) wm.heap.size (brd n i) (by rfl) (by rfl) (by rfl) (by rfl) HO5.out HLN.out HS5.out ?_; intro v' w7 ho7 hb7 hg7; clear hl5; have HO7 : Hid (OwnV w7 wm.heap.size 3 v' (brd n (i + 1))) := (by have h := brd_snoc n i; rw [HMD.out] at h; rw [← h]; exact ho7); have HZ7 := hid (numZ_kept HZ5.out hg7 (by intro e; have h1 := (ownV_lt HO5.out M e.symm).1; have h2 := HMW.out; omega)); have HB7 : Hid (Below w.heap.size w w7) := hid (HB5.out.trans (hb7.mono HWS.out)); have HS7 : Hid (wm.heap.size ≤ w7.heap.size) := Nat.le_trans HS5.out hb7.size; obtain ⟨sa, sn, sc, rfl⟩ := ownV_sh ho7; clear ho7 hb7 hg7)
          | fail)
        go_roundw
        case rel =>
          have hm2 : min (i + 1) n = i + 1 := by omega
          have h3 := nms_more HNM.out HNE.out
          rw [← HY.out] at h3
          exact ⟨i + 1, _, by go_num, by omega, HO7, by rw [hm2]; exact HZ7, by rw [hm2]; exact h3, HB7, HS7⟩
        case measure => simp [intOf]; omega
      · have hmi : min i n = n := by omega
        rw [hmi] at HNZ HNM
        have HFN : Hid (f (z i) = some (i % n)) := by
          have h := HNM.out.yes (i % n) (Nat.mod_lt _ hn1)
          rw [← HPER.out i hlt] at h
          exact h
        have hlk := numW_look (numZ_w HNZ.out) (HIN.out i)
        rw [HFN.out] at hlk
        have hl5 := numW_look0 (numZ_w HNZ.out) (HIN.out i) HFN.out
        have HSN := hid (brd_snoc n i)
        have hxm : i % n < n := Nat.mod_lt _ hn1
        clear hmi
        generalize i % n = x at *
        obtain ⟨y, hy⟩ : ∃ y, y = z i := ⟨_, rfl⟩
        rw [← hy] at cz hlk hl5
        clear hy
        dsimp only [Option.getD_some, Option.isSome_some] at hlk
        go_wp2_with (first
          | (at_builtin; refine wpl_app_int (x : Int) _ _ (.slice oa on oc) wm.heap.size (brd n i) (by rfl) (by rfl) (by rfl) (by rfl) HO.out HLN.out HSZ.out ?_; intro v' w7 ho7 hb7 hg7; clear hl5 hlk cz; have HO7 : Hid (OwnV w7 wm.heap.size 3 v' (brd n (i + 1))) := (by rw [← HSN.out]; exact ho7); have HZ7 := hid (numZ_kept HNZ.out hg7 (by intro e; have h1 := (ownV_lt HO.out M e.symm).1; have h2 := HMW.out; omega)); have HB7 : Hid (Below w.heap.size w w7) := hid (HBr.out.trans (hb7.mono HWS.out)); have HS7 : Hid (wm.heap.size ≤ w7.heap.size) := Nat.le_trans HSZ.out hb7.size; obtain ⟨sa, sn, sc, rfl⟩ := ownV_sh ho7; clear ho7 hb7 hg7)
          | fail)
        go_roundw
        case rel =>
          have hm2 : min (i + 1) n = n := by omega
          exact ⟨i + 1, _, by go_num, by omega, HO7, by rw [hm2]; exact HZ7, by rw [hm2]; exact HNM, HB7, HS7⟩
        case measure => simp [intOf]; omega
    · obtain rfl : m = i := by omega
      obtain ⟨g, c', rfl, -⟩ := ownV_some HO.out (by rw [brd_len]; omega)
      rw [brd_len] at HO ⊢
      go_wp2_with fail
      go_ret
      exact ⟨g, c', rfl, ownV_mono HO.out HWS.out, HBr.out⟩
end Go.Proofs.YtppkgilpmmhpoaaDoor
