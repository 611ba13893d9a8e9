/-
  The least genus of the braid, and the signs with it (16).
-/
import Derived.Test.YtppkgilpmmhpoaaDoorWalkF
import Derived.Laws.BitsLemmas
namespace Go.Proofs.YtppkgilpmmhpoaaDoor
open Go.RowKit
def sgv (sg x : Nat) : Value := .int .i64 (if sg.testBit x then 1 else -1)
def sgl (n sg : Nat) : List Value := (List.range n).map (sgv sg)
theorem sgl_len (n sg : Nat) : (sgl n sg).length = n := by simp [sgl]
theorem sgl_at (n sg x : Nat) (h : x < n) : (sgl n sg).getD x undef = sgv sg x := by
  unfold sgl
  rw [List.getD_eq_getElem?_getD, List.getElem?_map, List.getElem?_range h]; rfl
theorem sgOf_bit (n number x : Nat) (h : x < n) : (sgOf n number).testBit x = number.testBit (n - 1 - x) := by
  have e : ∀ k, ((List.range k).foldl (fun o i => if number.testBit (n - 1 - i) then o ||| 2 ^ i else o) 0).testBit x = (decide (x < k) && number.testBit (n - 1 - x)) := fun k => by
    induction k with
    | zero => simp
    | succ k ih =>
      rw [List.range_succ, List.foldl_append]
      show (if number.testBit (n - 1 - k) = true then _ else _ : Nat).testBit x = _
      by_cases hk : number.testBit (n - 1 - k) = true
      · rw [if_pos hk, Nat.testBit_or, Nat.testBit_two_pow, ih]
        by_cases e : k = x
        · subst e; simp [hk]
        · have e2 : decide (x < k + 1) = decide (x < k) := by by_cases h : x < k <;> simp <;> omega
          rw [e2]; simp [e]
      · rw [if_neg hk, ih]
        by_cases e : k = x
        · subst e
          have hk' : number.testBit (n - 1 - k) = false := by simpa using hk
          rw [hk']; simp
        · have e2 : decide (x < k + 1) = decide (x < k) := by by_cases h : x < k <;> simp <;> omega
          rw [e2]
  unfold sgOf
  rw [e n, decide_eq_true h, Bool.true_and]
theorem shr_one (s i : Nat) : s / 2 ^ i &&& 1 = if s.testBit i then 1 else 0 := by
  rw [Nat.and_one_is_mod, Nat.testBit_eq_decide_div_mod_eq]
  have : s / 2 ^ i % 2 < 2 := Nat.mod_lt _ (by decide)
  by_cases h : s / 2 ^ i % 2 = 1
  · simp [h]
  · have h0 : s / 2 ^ i % 2 = 0 := by omega
    simp [h0]
theorem and64 {a b : Nat} (ha : a < 2 ^ 62) (hb : b < 2 ^ 62) : bits .and .i64 (a : Int) (b : Int) = ((a &&& b : Nat) : Int) := (bits_nat .i64 62 (by decide) wraps62 a b ha hb).1
theorem shr_int (s i : Nat) : ((s : Int) / 2 ^ i) = ((s / 2 ^ i : Nat) : Int) := by
  have h2 : ((2 : Int) ^ i) = ((2 ^ i : Nat) : Int) := by simp
  rw [h2]; exact (Int.natCast_ediv _ _).symm
theorem bit64 {s : Nat} (i : Nat) (h : s < 65536) : bits BinOp.and IntKind.i64 ((s : Int) / 2 ^ i) 1 = if s.testBit i then 1 else 0 := by
  have hd : s / 2 ^ i < 65536 := Nat.lt_of_le_of_lt (Nat.div_le_self _ _) h
  rw [shr_int]
  refine (and64 (a := s / 2 ^ i) (b := 1) (by omega) (by decide)).trans ?_
  rw [shr_one]
  cases s.testBit i <;> rfl
/-- the best signs so far -/
def BestW (n : Nat) (w : World) (B : Nat) (v4 v5 : Value) : Option (Int × Nat) → Prop
  | none => v4 = .slice none 0 0 ∧ v5 = .int .i64 0
  | some (g, j) => v5 = .int .i64 g ∧ (-20 ≤ g ∧ g ≤ 20) ∧ OwnV w B 3 v4 (sgl n (sgOf n j))
theorem leastF_none (n k : Nat) : leastF n (k + 1) none = leastF n k (some (gen n (sgOf n k), k)) := rfl
theorem leastF_less {n k : Nat} {g : Int} {j : Nat} (h : gen n (sgOf n k) < g) : leastF n (k + 1) (some (g, j)) = leastF n k (some (gen n (sgOf n k), k)) := by
  show leastF n k (if gen n (sgOf n k) < g then _ else _) = _
  rw [if_pos h]
theorem leastF_more {n k : Nat} {g : Int} {j : Nat} (h : ¬ gen n (sgOf n k) < g) : leastF n (k + 1) (some (g, j)) = leastF n k (some (g, j)) := by
  show leastF n k (if gen n (sgOf n k) < g then _ else _) = _
  rw [if_neg h]
set_option maxRecDepth 100000 in
set_option maxHeartbeats 4000000 in
theorem least_any (D n wb wc pb : Nat) (gs cs : Nat → Nat) (w : World) (h : Cur w D n wb wc pb gs cs) :
    Calls Tryd.prog 16 #[.pointer (some ⟨D, 0, none⟩)] w fun e w' => ∃ x, e = .returned x ∧ (∃ g j u, leastF n (2 ^ n) none = some (g, j) ∧ x = .tuple #[.int .i64 g, u] ∧ (-20 ≤ g ∧ g ≤ 20) ∧ OwnV w' w.heap.size 3 u (sgl n (sgOf n j))) ∧ Below w.heap.size w w' := by
  obtain ⟨hn1, hn10⟩ := h.nn
  have HC := hid h
  have KB : Hid (∀ w', Below w.heap.size w w' → w'.cell? ⟨D, 0, none⟩ = some (.int .i64 (n : Int))) := fun w' hb => (cells3_of (HC.out.below hb).box).1
  have k0 := KB.out w (Below.refl _ _)
  obtain ⟨p, hp⟩ : ∃ p, p = 2 ^ n := ⟨_, rfl⟩
  have hp1 : 1 ≤ p := by rw [hp]; exact Nat.pos_of_ne_zero (by simp)
  have hp2 : p ≤ 1024 := by rw [hp]; exact Nat.pow_le_pow_right (by decide) hn10
  have hsh : IntKind.i64.wrap (2 ^ n) = (p : Int) := by rw [hp]; exact wrap64 (by omega)
  have HP0 : Hid (leastF n (2 ^ n) none = leastF n p none) := by rw [hp]; exact rfl
  generalize leastF n (2 ^ n) none = FS at *
  clear h hp
  go_enter Tryd.func16, Tryd.ntmps16
  go_wp2_with fail
  clear hsh k0
  go_loopw [4, 5, 6] (fun v4 v5 v6 wr => ∃ (k : Nat) (best : Option (Int × Nat)), v6 = .int .i64 ((k : Int) - 1) ∧ k ≤ p ∧ Hid (FS = leastF n k best) ∧ Hid (BestW n wr w.heap.size v4 v5 best) ∧ Hid (best = none → k = p) ∧ Hid (Below w.heap.size w wr)) (fun _ _ v6 _ => (intOf v6 + 1).toNat)
  case atStart => exact ⟨p, none, by go_num, Nat.le_refl _, HP0, ⟨rfl, rfl⟩, fun _ => rfl, Below.refl _ _⟩
  case round =>
    obtain ⟨k1, best, rfl, hk, HLE, HBW, HBN, HBr⟩ := hrel
    rename World => wr
    have k0 := KB.out wr HBr.out
    cases k1 with
    | zero =>
      cases best with
      | none => have := HBN.out rfl; omega
      | some y =>
        obtain ⟨bg, bj⟩ := y
        obtain ⟨rfl, hg, ho⟩ := HBW.out
        obtain ⟨oa, on, oc, rfl⟩ := ownV_sh ho
        have HO := hid ho
        have HG := hid hg
        clear ho hg HBW
        go_wp2_with fail
        go_ret2
        exact ⟨_, rfl, ⟨bg, bj, _, HLE.out, rfl, HG.out, HO.out⟩, HBr.out⟩
    | succ k =>
      have hk2 : (((k + 1 : Nat) : Int) - 1) = (k : Int) := by omega
      have hk0 : (0 : Int) ≤ (k : Int) := by omega
      have hkp : k < 1024 := by omega
      rw [hk2]
      clear hk2
      have hmeas : (k : Int) - 1 = ((k : Nat) : Int) - 1 := rfl
      clear hmeas
      obtain ⟨sg, hsg⟩ : ∃ sg, sg = sgOf n k := ⟨_, rfl⟩
      have HSB : Hid (∀ x, x < n → sg.testBit x = k.testBit (n - 1 - x)) := by rw [hsg]; exact sgOf_bit n k
      have HSG : Hid (sgOf n k = sg) := hsg.symm
      clear hsg
      cases best with
      | none =>
        obtain ⟨rfl, rfl⟩ := HBW.out
        go_wp2_with fail
        clear k0
        go_loopw [7, 24] (fun fv iv wk => ∃ i : Nat, iv = .int .i64 i ∧ i ≤ n ∧ Hid (OwnV wk wr.heap.size 3 fv ((List.range i).map (sgv sg))) ∧ Hid (Below w.heap.size w wk) ∧ Hid (Below wr.heap.size wr wk)) (fun _ iv _ => n - (intOf iv).toNat)
        case atStart => exact ⟨0, rfl, Nat.zero_le _, ownV_nil _ _ _, HBr, Below.refl _ _⟩
        case round =>
          obtain ⟨i, rfl, hi, HFO, HBk, HRk⟩ := hrel
          rename World => wk
          by_cases hlt : i < n
          · have k0 := KB.out wk HBk.out
            obtain ⟨fa, fn, fc, rfl⟩ := ownV_sh HFO.out
            obtain ⟨j, hj⟩ : ∃ j, j = n - 1 - i := ⟨_, rfl⟩
            have hj2 : (n : Int) - 1 - (i : Int) = (j : Int) := by omega
            have hj10 : j < 10 := by omega
            have hj0 : (0 : Int) ≤ (j : Int) := by omega
            have hj64 : (j : Int) < 64 := by omega
            have hbit := bit64 j (s := k) (by omega)
            have hsb := HSB.out i hlt
            rw [← hj] at hsb
            clear hj
            have HFM : Hid (((List.range i).map (sgv sg)).length < 1000000) := by show _ < _; rw [List.length_map, List.length_range]; omega
            cases hb : k.testBit j with
            | true =>
              rw [hb, if_pos rfl] at hbit
              have HCV : Hid ((List.range (i + 1)).map (sgv sg) = (List.range i).map (sgv sg) ++ [.int .i64 1]) := by show _ = _; rw [List.range_succ, List.map_append]; simp [sgv, hsb, hb]
              clear hb hsb
              go_wp2_with (first
                | (at_builtin; refine wpl_app_int 1 _ _ (.slice fa fn fc) wr.heap.size _ (by rfl) (by rfl) (by rfl) (by rfl) HFO.out HFM.out HRk.out.size ?_; intro v' w7 ho7 hb7 hg7; rw [← HCV.out] at ho7; have HO7 := hid ho7; have HG7 := hid (HRk.out.trans hb7); obtain ⟨sa, ssn, ssc, rfl⟩ := ownV_sh ho7; have HB7 := hid (HBk.out.trans (hb7.mono HBr.out.size)); clear ho7 hb7 hg7)
                | fail)
              go_roundw
              case rel => exact ⟨i + 1, by go_num, by omega, HO7, HB7, HG7⟩
              case measure => simp [intOf]; omega
            | false =>
              rw [hb, if_neg (by decide)] at hbit
              have HCV : Hid ((List.range (i + 1)).map (sgv sg) = (List.range i).map (sgv sg) ++ [.int .i64 (-1)]) := by show _ = _; rw [List.range_succ, List.map_append]; simp [sgv, hsb, hb]
              clear hb hsb
              go_wp2_with (first
                | (at_builtin; refine wpl_app_int (-1) _ _ (.slice fa fn fc) wr.heap.size _ (by rfl) (by rfl) (by rfl) (by rfl) HFO.out HFM.out HRk.out.size ?_; intro v' w7 ho7 hb7 hg7; rw [← HCV.out] at ho7; have HO7 := hid ho7; have HG7 := hid (HRk.out.trans hb7); obtain ⟨sa, ssn, ssc, rfl⟩ := ownV_sh ho7; have HB7 := hid (HBk.out.trans (hb7.mono HBr.out.size)); clear ho7 hb7 hg7)
                | fail)
              go_roundw
              case rel => exact ⟨i + 1, by go_num, by omega, HO7, HB7, HG7⟩
              case measure => simp [intOf]; omega
          · obtain rfl : n = i := by omega
            have hfo := ownV_mono HFO.out HBr.out.size
            change OwnV wk w.heap.size 3 _ (sgl n sg) at hfo
            obtain ⟨fg, fc, rfl, -⟩ := ownV_some hfo (by rw [sgl_len]; omega)
            rw [sgl_len] at hfo ⊢
            have HFO2 := hid hfo
            have GC := hid (gen_any D n wb wc pb gs cs sg fg fc wk (HC.out.below HBk.out) (fun x hx => by
              have h1 := ownV_cell hfo x (by rw [sgl_len]; exact hx)
              rw [sgl_at _ _ _ hx] at h1
              exact h1))
            clear hfo HFO
            have hgb := gen_bound (sg := sg) hn10
            obtain ⟨gg, hgg⟩ : ∃ g, g = gen n sg := ⟨_, rfl⟩
            have HGG : Hid (gen n sg = gg) := hgg.symm
            rw [← hgg] at GC hgb
            have HGB := hid hgb
            clear hgg
            go_upto_region 13 with (first | (go_at_call 26; refine GC.out.mono ?_; rintro e w6 ⟨rfl, hb6⟩; have HB6 := hid (below_step HBk.out hb6); have HB36 := hid (below_step HRk.out hb6); have hfo6 := ownV_below HFO2.out hb6; clear hb6) | fail)
            have HFO3 : Hid (OwnV w6 w.heap.size 3 (.slice (some ⟨fg, 0, none⟩) n fc) (sgl n (sgOf n k))) := by rw [HSG.out]; exact hfo6
            clear hfo6
            have HLE : Hid (FS = leastF n k (some (gg, k))) := by
              show _ = _
              rw [HLE.out, ← HGG.out, ← HSG.out]
              exact leastF_none n k
            clear HGG HSG
            go_wp2_with fail
            rename_i hK
            refine hK _ _ ?_
            dsimp only [Option.isNone_none, Option.isNone_some]
            go_wp2_with fail
            go_roundw
            case rel => exact ⟨k, some (gg, k), by go_num, by omega, HLE, ⟨rfl, HGB.out, HFO3.out⟩, (fun h => by cases h), HB6⟩
            case measure => simp [intOf]
      | some yy =>
        obtain ⟨bg, bj⟩ := yy
        obtain ⟨rfl, hbg, hbo⟩ := HBW.out
        obtain ⟨og, oc, rfl, -⟩ := ownV_some hbo (by rw [sgl_len]; omega)
        rw [sgl_len] at hbo ⊢
        have HBO := hid hbo
        have HBB := hid hbg
        clear hbo HBW
        go_wp2_with fail
        clear k0
        go_loopw [7, 24] (fun fv iv wk => ∃ i : Nat, iv = .int .i64 i ∧ i ≤ n ∧ Hid (OwnV wk wr.heap.size 3 fv ((List.range i).map (sgv sg))) ∧ Hid (Below w.heap.size w wk) ∧ Hid (Below wr.heap.size wr wk)) (fun _ iv _ => n - (intOf iv).toNat)
        case atStart => exact ⟨0, rfl, Nat.zero_le _, ownV_nil _ _ _, HBr, Below.refl _ _⟩
        case round =>
          obtain ⟨i, rfl, hi, HFO, HBk, HRk⟩ := hrel
          rename World => wk
          by_cases hlt : i < n
          · have k0 := KB.out wk HBk.out
            obtain ⟨fa, fn, fc, rfl⟩ := ownV_sh HFO.out
            obtain ⟨j, hj⟩ : ∃ j, j = n - 1 - i := ⟨_, rfl⟩
            have hj2 : (n : Int) - 1 - (i : Int) = (j : Int) := by omega
            have hj10 : j < 10 := by omega
            have hj0 : (0 : Int) ≤ (j : Int) := by omega
            have hj64 : (j : Int) < 64 := by omega
            have hbit := bit64 j (s := k) (by omega)
            have hsb := HSB.out i hlt
            rw [← hj] at hsb
            clear hj
            have HFM : Hid (((List.range i).map (sgv sg)).length < 1000000) := by show _ < _; rw [List.length_map, List.length_range]; omega
            cases hb : k.testBit j with
            | true =>
              rw [hb, if_pos rfl] at hbit
              have HCV : Hid ((List.range (i + 1)).map (sgv sg) = (List.range i).map (sgv sg) ++ [.int .i64 1]) := by show _ = _; rw [List.range_succ, List.map_append]; simp [sgv, hsb, hb]
              clear hb hsb
              go_wp2_with (first
                | (at_builtin; refine wpl_app_int 1 _ _ (.slice fa fn fc) wr.heap.size _ (by rfl) (by rfl) (by rfl) (by rfl) HFO.out HFM.out HRk.out.size ?_; intro v' w7 ho7 hb7 hg7; rw [← HCV.out] at ho7; have HO7 := hid ho7; have HG7 := hid (HRk.out.trans hb7); obtain ⟨sa, ssn, ssc, rfl⟩ := ownV_sh ho7; have HB7 := hid (HBk.out.trans (hb7.mono HBr.out.size)); clear ho7 hb7 hg7)
                | fail)
              go_roundw
              case rel => exact ⟨i + 1, by go_num, by omega, HO7, HB7, HG7⟩
              case measure => simp [intOf]; omega
            | false =>
              rw [hb, if_neg (by decide)] at hbit
              have HCV : Hid ((List.range (i + 1)).map (sgv sg) = (List.range i).map (sgv sg) ++ [.int .i64 (-1)]) := by show _ = _; rw [List.range_succ, List.map_append]; simp [sgv, hsb, hb]
              clear hb hsb
              go_wp2_with (first
                | (at_builtin; refine wpl_app_int (-1) _ _ (.slice fa fn fc) wr.heap.size _ (by rfl) (by rfl) (by rfl) (by rfl) HFO.out HFM.out HRk.out.size ?_; intro v' w7 ho7 hb7 hg7; rw [← HCV.out] at ho7; have HO7 := hid ho7; have HG7 := hid (HRk.out.trans hb7); obtain ⟨sa, ssn, ssc, rfl⟩ := ownV_sh ho7; have HB7 := hid (HBk.out.trans (hb7.mono HBr.out.size)); clear ho7 hb7 hg7)
                | fail)
              go_roundw
              case rel => exact ⟨i + 1, by go_num, by omega, HO7, HB7, HG7⟩
              case measure => simp [intOf]; omega
          · obtain rfl : n = i := by omega
            have hfo := ownV_mono HFO.out HBr.out.size
            change OwnV wk w.heap.size 3 _ (sgl n sg) at hfo
            obtain ⟨fg, fc, rfl, -⟩ := ownV_some hfo (by rw [sgl_len]; omega)
            rw [sgl_len] at hfo ⊢
            have HFO2 := hid hfo
            have GC := hid (gen_any D n wb wc pb gs cs sg fg fc wk (HC.out.below HBk.out) (fun x hx => by
              have h1 := ownV_cell hfo x (by rw [sgl_len]; exact hx)
              rw [sgl_at _ _ _ hx] at h1
              exact h1))
            clear hfo HFO
            have hgb := gen_bound (sg := sg) hn10
            obtain ⟨gg, hgg⟩ : ∃ g, g = gen n sg := ⟨_, rfl⟩
            have HGG : Hid (gen n sg = gg) := hgg.symm
            rw [← hgg] at GC hgb
            have HGB := hid hgb
            clear hgg
            go_upto_region 13 with (first | (go_at_call 26; refine GC.out.mono ?_; rintro e w6 ⟨rfl, hb6⟩; have HB6 := hid (below_step HBk.out hb6); have HB36 := hid (below_step HRk.out hb6); have hfo6 := ownV_below HFO2.out hb6; clear hb6) | fail)
            have HFO3 : Hid (OwnV w6 w.heap.size 3 (.slice (some ⟨fg, 0, none⟩) n fc) (sgl n (sgOf n k))) := by rw [HSG.out]; exact hfo6
            clear hfo6
            have HBO3 := hid (ownV_below HBO.out HB36.out)
            by_cases hlt : gg < bg
            · have HLE : Hid (FS = leastF n k (some (gg, k))) := by
                show _ = _
                rw [HLE.out, ← HGG.out, ← HSG.out]
                exact leastF_less (by rw [HSG.out, HGG.out]; exact hlt)
              clear HGG HSG
              go_wp2_with fail
              rename_i hK
              refine hK _ _ ?_
              dsimp only [Option.isNone_none, Option.isNone_some]
              go_wp2_with fail
              go_roundw
              case rel => exact ⟨k, some (gg, k), by go_num, by omega, HLE, ⟨rfl, HGB.out, HFO3.out⟩, (fun h => by cases h), HB6⟩
              case measure => simp [intOf]
            · have HLE : Hid (FS = leastF n k (some (bg, bj))) := by
                show _ = _
                rw [HLE.out]
                exact leastF_more (by rw [HSG.out, HGG.out]; exact hlt)
              clear HGG HSG
              go_wp2_with fail
              rename_i hK
              refine hK _ _ ?_
              dsimp only [Option.isNone_none, Option.isNone_some]
              go_wp2_with fail
              go_roundw
              case rel => exact ⟨k, some (bg, bj), by go_num, by omega, HLE, ⟨rfl, HBB.out, HBO3.out⟩, (fun h => by cases h), HB6⟩
              case measure => simp [intOf]
end Go.Proofs.YtppkgilpmmhpoaaDoor
