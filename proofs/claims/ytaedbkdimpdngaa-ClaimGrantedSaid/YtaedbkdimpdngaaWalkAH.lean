/-
  The reference of chapter 12: the granted set (Granted, 22).
-/
import Derived.Test.YtaedbkdimpdngaaRefA
namespace Go.Proofs.Ytaedbkdimpdngaa
open Go.RowKit
/-- in which step a claim has been granted, of the first ones -/
def sb (d : Dsp) (k i : Nat) : Nat := ((List.range (k + 1)).find? fun j => (d.F j).testBit i).getD 0
theorem sb_zero (d : Dsp) (i : Nat) : sb d 0 i = 0 := by
  unfold sb
  have : (d.F 0).testBit i = false := Nat.zero_testBit i
  simp [this]
theorem find_pos (d : Dsp) {k i j : Nat} (h : (List.range k).find? (fun j => (d.F j).testBit i) = some j) : j ≠ 0 := fun e => by
  have h1 := List.find?_some h
  rw [e] at h1
  have h2 : (d.F 0).testBit i = false := Nat.zero_testBit i
  rw [h2] at h1
  cases h1
theorem sb_succ (d : Dsp) (k i : Nat) : sb d (k + 1) i = if (d.F (k + 1)).testBit i = true ∧ sb d k i = 0 then k + 1 else sb d k i := by
  unfold sb
  rw [List.range_succ, List.find?_append]
  cases h : (List.range (k + 1)).find? (fun j => (d.F j).testBit i) with
  | some j =>
    have := find_pos d h
    rw [if_neg (fun e => this e.2)]
    rfl
  | none =>
    cases hb : (d.F (k + 1)).testBit i with
    | true => simp [hb]
    | false => simp [hb]
theorem sb_last (d : Dsp) (i : Nat) : sb d (d.last + 1) i = (d.stepOf i).getD 0 := by
  have hs : d.F (d.last + 1) = d.F d.last := beq_iff_eq.1 d.last_spec.2.1
  rw [sb_succ]
  have h0 : sb d d.last i = (d.stepOf i).getD 0 := rfl
  rw [← h0]
  refine if_neg ?_
  rintro ⟨h1, h2⟩
  rw [hs] at h1
  unfold sb at h2
  cases h : (List.range (d.last + 1)).find? (fun j => (d.F j).testBit i) with
  | some j => rw [h] at h2; exact find_pos d h h2
  | none =>
    rw [List.find?_eq_none] at h
    exact h d.last (by rw [List.mem_range]; omega) h1
def mx (d : Dsp) (q i : Nat) : List Nat := (List.range d.n).map fun j => if j < i then sb d (q + 1) j else sb d q j
theorem mx_len (d : Dsp) (q i : Nat) : (mx d q i).length = d.n := by simp [mx]
theorem mx_at (d : Dsp) (q i j : Nat) (hj : j < d.n) : (mx d q i).getD j 0 = if j < i then sb d (q + 1) j else sb d q j := by
  unfold mx
  rw [List.getD_eq_getElem?_getD]
  simp [hj]
theorem mx_all (d : Dsp) (q : Nat) : mx d q d.n = mx d (q + 1) 0 := by
  unfold mx
  refine List.map_congr_left fun j hj => ?_
  rw [List.mem_range] at hj
  rw [if_pos hj, if_neg (by omega)]
theorem mx_zero (d : Dsp) : mx d 0 0 = List.replicate d.n 0 := by
  unfold mx
  refine List.ext_getElem (by simp) fun j h1 h2 => ?_
  simp [sb_zero]
theorem mx_succ (d : Dsp) (q i : Nat) (hi : i < d.n) : mx d q (i + 1) = if (d.F (q + 1)).testBit i = true ∧ sb d q i = 0 then (mx d q i).set i (q + 1) else mx d q i := by
  have h1 := sb_succ d q i
  refine List.ext_getElem (by split <;> simp [mx]) fun j h2 h3 => ?_
  have hj : j < d.n := by rw [mx_len] at h2; exact h2
  have e1 : (mx d q (i + 1))[j] = if j < i + 1 then sb d (q + 1) j else sb d q j := by simp [mx]
  have e2 : ∀ (h : j < (mx d q i).length), (mx d q i)[j] = if j < i then sb d (q + 1) j else sb d q j := fun h => by simp [mx]
  rw [e1]
  by_cases hc : (d.F (q + 1)).testBit i = true ∧ sb d q i = 0
  · simp only [if_pos hc] at h1 ⊢
    rw [List.getElem_set]
    by_cases he : i = j
    · subst he
      rw [if_pos (by omega), if_pos rfl, h1]
    · rw [if_neg he, e2]
      by_cases hl : j < i
      · rw [if_pos (by omega), if_pos hl]
      · rw [if_neg (by omega), if_neg hl]
  · simp only [if_neg hc] at h1 ⊢
    rw [e2]
    by_cases he : i = j
    · subst he
      rw [if_pos (by omega), if_neg (by omega), h1]
    · by_cases hl : j < i
      · rw [if_pos (by omega), if_pos hl]
      · rw [if_neg (by omega), if_neg hl]
theorem own_zeros {w0 v : World} {g n : Nat} {cs : Array Value} (hcs : cs.toList = (List.replicate n 0).map iv) (h1 : v.heap[g]? = some (.cells cs 3)) (hg : w0.heap.size ≤ g) (hn : n ≤ 12) : Hid (OwnV v w0.heap.size 3 (.slice (some ⟨g, 0, none⟩) n n) ((List.replicate n 0).map iv)) := by
  have hsz : cs.size = n := by rw [← Array.length_toList, hcs]; simp
  refine ⟨by simp, .inr ⟨g, n, cs, by simp, hg, h1, by simp, by unfold maxLen; omega, by rw [hsz]; simp, ?_⟩⟩
  rw [hcs, List.take_of_length_le (by simp)]
set_option maxRecDepth 100000 in
set_option maxHeartbeats 4000000 in
theorem rGranted_any (b1 b2 : Nat) (d : Dsp) (w : World) (h : RDd w b1 b2 d) :
    Calls Try.prog 22 #[Dv b1 b2 d] w fun e w' => ∃ g, e = .returned (.tuple #[.int .i64 ((d.grd : Nat) : Int), .slice (some ⟨g, 0, none⟩) d.n d.n]) ∧ (∀ c, c < d.n → w'.cell? ⟨g, c, none⟩ = some (.int .i64 (((d.stepOf c).getD 0 : Nat) : Int))) ∧ Below w.heap.size w w' := by
  have HC : Hid (∀ (s : Nat) w', s < 2 ^ d.n → Below w.heap.size w w' → Calls Try.prog 45 #[.agg #[.int .i64 (d.n : Int), .slice (some ⟨b1, 0, none⟩) d.n d.n, .slice (some ⟨b2, 0, none⟩) d.n d.n], .int .i64 (s : Int)] w' fun e w'' => e = .returned (.int .i64 ((d.dfd s : Nat) : Int)) ∧ Below w'.heap.size w' w'') := fun s w' hs hb => rDefends_any b1 b2 d s w' (rdd_below h hb) hs
  have HB0 : Hid (Below w.heap.size w (w.alloc (.cells #[.int .i64 (d.n : Int), .slice (some ⟨b1, 0, none⟩) d.n d.n, .slice (some ⟨b2, 0, none⟩) d.n d.n] 34))) := ba w _
  have hz := heap_alloc_new w (.cells #[.int .i64 (d.n : Int), .slice (some ⟨b1, 0, none⟩) d.n d.n, .slice (some ⟨b2, 0, none⟩) d.n d.n] 34)
  have HR := hid (rdd_below h HB0.out)
  obtain ⟨hn1, hn12, -⟩ := id h
  clear h
  obtain ⟨w0, hw0⟩ : ∃ w0, w0 = w.alloc (.cells #[.int .i64 (d.n : Int), .slice (some ⟨b1, 0, none⟩) d.n d.n, .slice (some ⟨b2, 0, none⟩) d.n d.n] 34) := ⟨_, rfl⟩
  rw [← hw0] at HB0 HR hz
  have HW0 := hid hw0
  clear hw0
  have hgl := heap_lt hz
  have KB : Hid (∀ w', Below w0.heap.size w0 w' → w'.cell? ⟨w.heap.size, 0, none⟩ = some (.int .i64 (d.n : Int)) ∧ w'.cell? ⟨w.heap.size, 1, none⟩ = some (.slice (some ⟨b1, 0, none⟩) d.n d.n) ∧ w'.cell? ⟨w.heap.size, 2, none⟩ = some (.slice (some ⟨b2, 0, none⟩) d.n d.n)) := fun w' hb => cells3_of ((hb.block _ hgl).trans hz)
  clear hz hgl
  unfold Dv
  go_enter Try.func22, Try.ntmps22
  go_upto_region 1 with fail
  rw [← HW0.out]
  obtain ⟨cs, hcs, hmk⟩ := make_ints d.n hn12
  have HCS := hid hcs
  have HMK := hid hmk
  clear HW0 hcs hmk
  have hl3 : 2 ^ d.n ≤ 4096 := pow_small (n := 12) hn12
  have HLS := hid d.last_spec
  go_cut [4, 5] (fun v4 v5 wx => ∃ g, v4 = .int .i64 0 ∧ v5 = .slice (some ⟨g, 0, none⟩) d.n d.n ∧ Hid (OwnV wx w0.heap.size 3 (.slice (some ⟨g, 0, none⟩) d.n d.n) ((List.replicate d.n 0).map iv)) ∧ Hid (Below w0.heap.size w0 wx))
  case first =>
    refine wp_region_held_drew (S := fun w' => w'.cell? ⟨w.heap.size, 0, none⟩ = some (.int .i64 (d.n : Int)) ∧ w'.cell? ⟨w.heap.size, 1, none⟩ = some (.slice (some ⟨b1, 0, none⟩) d.n d.n) ∧ w'.cell? ⟨w.heap.size, 2, none⟩ = some (.slice (some ⟨b2, 0, none⟩) d.n d.n)) (by kernel_rfl) (KB.out _ ((Below.refl _ _).drew)) (fun hHeld => ?_)
    have HU0 : Hid (Below w0.heap.size w0 w0.drew) := (Below.refl _ _).drew
    generalize w0.drew = u0 at *
    refine take_at (i := 0) 9 (v := .pointer (some ⟨w.heap.size, 0, none⟩)) rfl (by kernel_rfl) (by kernel_rfl) (by kernel_rfl) rfl (fun _ _ _ h => h) (by rfl) (fun w hSw => ?_) hHeld ?_
    · (try dsimp only at hSw); go_simp
    simp only [Act.put, List.setIfInBounds_toArray, List.set_cons_zero, List.set_cons_succ]
    refine take_at (i := 1) 10 (v := .int .i64 (d.n : Int)) rfl (by kernel_rfl) (by kernel_rfl) (by kernel_rfl) rfl (fun _ _ _ h => h) (by rfl) (fun w hSw => ?_) hHeld ?_
    · (try dsimp only at hSw); go_simp
    simp only [Act.put, List.setIfInBounds_toArray, List.set_cons_zero, List.set_cons_succ]
    refine take_at (i := 3) 4 (v := .int .i64 0) rfl (by kernel_rfl) (by kernel_rfl) (by kernel_rfl) rfl (fun _ _ _ h => h) (by rfl) (fun w hSw => ?_) hHeld ?_
    · (try dsimp only at hSw); go_simp
    simp only [Act.put, List.setIfInBounds_toArray, List.set_cons_zero, List.set_cons_succ]
    refine wpAnyH_ready (rs := [2]) (by kernel_rfl) (by simp) ?_
    refine node_make24 11 10 d.n cs rfl rfl rfl rfl rfl HMK.out (KB.out _ (below_step HU0.out (ba u0 _))) (fun hHeld => ?_) AllReadyH.nil
    · have HU1 := hid (below_step HU0.out (ba u0 (.cells cs 3)))
      have Z1 := hid (heap_alloc_new u0 (.cells cs 3))
      obtain ⟨u1, hu⟩ : ∃ v, v = u0.alloc (.cells cs 3) := ⟨_, rfl⟩
      obtain ⟨g, hg⟩ : ∃ b, b = u0.heap.size := ⟨_, rfl⟩
      have HG : Hid (w0.heap.size ≤ g) := by rw [hg]; exact HU0.out.size
      rw [← hu] at HU1 Z1 ⊢
      rw [← hg] at Z1 ⊢
      replace hHeld := KB.out _ HU1.out
      clear hu hg
      simp only [Act.put, List.setIfInBounds_toArray, List.set_cons_zero, List.set_cons_succ]
      refine take_at (i := 4) 5 (v := .slice (some ⟨g, 0, none⟩) d.n d.n) rfl (by kernel_rfl) (by kernel_rfl) (by kernel_rfl) rfl (fun _ _ _ h => h) (by rfl) (fun w hSw => ?_) hHeld ?_
      · (try dsimp only at hSw); go_simp
      simp only [Act.put, List.setIfInBounds_toArray, List.set_cons_zero, List.set_cons_succ]
      refine wpAnyH_done (by kernel_rfl) ?_ _
      clear hHeld
      go_wp2_with fail
      go_meet
      exact ⟨g, rfl, rfl, own_zeros HCS.out Z1.out HG.out hn12, HU1⟩
  case rest =>
    obtain ⟨g, rfl, rfl, HG0, HB1⟩ := hcut
    rename World => w1
    rw [← mx_zero] at HG0
    go_wp2_with fail
    go_loopw [6, 4] (fun kv sv' wr => ∃ q k : Nat, k = q + 1 ∧ kv = .int .i64 (k : Int) ∧ q ≤ d.last ∧ sv' = .int .i64 ((d.F q : Nat) : Int) ∧ Hid (OwnV wr w0.heap.size 3 (.slice (some ⟨g, 0, none⟩) d.n d.n) ((mx d q 0).map iv)) ∧ Hid (Below w0.heap.size w0 wr)) (fun kv _ _ => d.last + 2 - (intOf kv).toNat)
    case atStart => exact ⟨0, 1, rfl, rfl, Nat.zero_le _, rfl, HG0, HB1⟩
    case round =>
      obtain ⟨q, k, hkq, rfl, hq, rfl, HG, HBr⟩ := hrel
      rename World => wr
      clear HG0 HB1
      have HKQ := hid hkq
      have hkl : k ≤ d.last + 1 := by omega
      clear hkq
      have hln : d.last ≤ d.n := HLS.out.1
      obtain ⟨x0, x1, x2⟩ := KB.out wr HBr.out
      have hF := d.F_lt q
      have HF1 : Hid (d.F (q + 1) = d.dfd (d.F q)) := rfl
      have C1 := hid (HC.out (d.F q) wr hF (HB0.out.trans (HBr.out.mono HB0.out.size)))
      rw [← HF1.out] at C1
      have hF2 : d.F (q + 1) < 65536 := by have := d.F_lt (q + 1); omega
      have HST : Hid (d.F (q + 1) = d.F q ↔ q = d.last) := by
        constructor
        · intro e
          by_cases h : q < d.last
          · have h1 := HLS.out.2.2 q h
            unfold Dsp.still at h1
            rw [e, beq_self_eq_true] at h1
            cases h1
          · omega
        · intro e
          rw [e]
          exact beq_iff_eq.1 HLS.out.2.1
      go_upto_region 6 with (first | (go_at_call 45; refine C1.out.mono ?_; rintro e w5 ⟨rfl, hb5⟩; have HB5 := hid (below_step HBr.out hb5); have HG5 := hid (ownV_below HG.out hb5); clear hb5) | fail)
      clear x0 x1 x2 C1 HG HF1 hF
      obtain ⟨nx, hnx⟩ : ∃ nx, nx = d.F (q + 1) := ⟨_, rfl⟩
      have HNX := hid hnx
      rw [← hnx] at HST hF2 ⊢
      clear hnx
      go_loopw [8] (fun iv' wk => ∃ i : Nat, iv' = .int .i64 i ∧ i ≤ d.n ∧ Hid (OwnV wk w0.heap.size 3 (.slice (some ⟨g, 0, none⟩) d.n d.n) ((mx d q i).map iv)) ∧ Hid (Below w0.heap.size w0 wk)) (fun iv' _ => d.n - (intOf iv').toNat)
      case atStart => exact ⟨0, rfl, Nat.zero_le _, HG5, HB5⟩
      case round =>
        obtain ⟨i, rfl, hi, HGk, HBk⟩ := hrel
        rename World => wk
        clear HG5 HB5 HBr
        obtain ⟨x0, x1, x2⟩ := KB.out wk HBk.out
        by_cases hlt : i < d.n
        · have hil : i < (mx d q i).length := by rw [mx_len]; exact hlt
          have c0 := ownV_cell HGk.out i (by rw [List.length_map]; exact hil)
          have f0 := ownV_frozen HGk.out i
          rw [getD_map iv _ 0 i hil, mx_at d q i i hlt, if_neg (Nat.lt_irrefl i)] at c0
          have hS := mx_succ d q i hlt
          rw [← HNX.out] at hS
          have HW := hid (ownV_set HGk.out i (.int .i64 (k : Int)))
          have hbit := bit64 i hF2
          change wk.cell? _ = some (.int .i64 ((sb d q i : Nat) : Int)) at c0
          cases ht : nx.testBit i with
          | true =>
            rw [ht, if_pos rfl] at hbit
            by_cases hs0 : sb d q i = 0
            · have HS2 : Hid (((mx d q (i + 1)).map iv) = ((mx d q i).map iv).set i (.int .i64 (k : Int))) := by
                show _ = _
                rw [hS, if_pos ⟨ht, hs0⟩, List.map_set, HKQ.out]; rfl
              have HBS := hid (HBk.out.setCell (p := ⟨g, i, none⟩) (ownV_le HGk.out).1 (.int .i64 (k : Int)))
              rw [hs0] at c0
              clear hS ht hs0
              go_wp2_with fail
              go_roundw
              case rel => exact ⟨i + 1, by go_num, by omega, by rw [HS2.out]; exact HW.out.1, HBS⟩
              case measure => simp [intOf]; omega
            · have HS2 : Hid (mx d q (i + 1) = mx d q i) := by
                show _ = _
                rw [hS, if_neg (fun e => hs0 e.2)]
              have hsb : (((sb d q i : Nat) : Int) == 0) = false := beq_eq_false_iff_ne.2 (by omega)
              clear hS ht HW
              generalize sb d q i = y at *
              go_wp2_with fail
              go_roundw
              case rel => exact ⟨i + 1, by go_num, by omega, by rw [HS2.out]; exact HGk, HBk⟩
              case measure => simp [intOf]; omega
          | false =>
            rw [ht, if_neg (by decide)] at hbit
            have HS2 : Hid (mx d q (i + 1) = mx d q i) := by
              show _ = _
              rw [hS, if_neg (fun e => by rw [ht] at e; cases e.1)]
            clear hS ht HW
            go_wp2_with fail
            go_roundw
            case rel => exact ⟨i + 1, by go_num, by omega, by rw [HS2.out]; exact HGk, HBk⟩
            case measure => simp [intOf]; omega
        · have hin : i = d.n := by omega
          have HGn : Hid (OwnV wk w0.heap.size 3 (.slice (some ⟨g, 0, none⟩) d.n d.n) ((mx d (q + 1) 0).map iv)) := by
            have h1 := HGk.out
            rw [hin, mx_all] at h1
            exact h1
          clear HGk
          by_cases hst : nx = d.F q
          · have hql := HST.out.1 hst
            have HGR : Hid (d.F q = d.grd) := by show _ = _; rw [hql]; rfl
            rw [hst, HGR.out]
            have HCL : Hid (∀ c, c < d.n → wk.cell? ⟨g, c, none⟩ = some (.int .i64 (((d.stepOf c).getD 0 : Nat) : Int))) := fun c hc => by
              have hl : c < (mx d (q + 1) 0).length := by rw [mx_len]; exact hc
              have h1 := ownV_cell HGn.out c (by rw [List.length_map]; exact hl)
              rw [getD_map iv _ 0 c hl, mx_at d (q + 1) 0 c hc, if_neg (Nat.not_lt_zero c), hql, sb_last] at h1
              exact h1
            clear hst HST HNX HGR
            go_wp2_with fail
            go_ret2
            exact ⟨g, rfl, HCL.out, HB0.out.trans (HBk.out.mono HB0.out.size)⟩
          · have hql : q < d.last := by
              rcases Nat.lt_or_ge q d.last with h | h
              · exact h
              · exact absurd (HST.out.2 (by omega)) hst
            have hsi : ((nx : Int) == ((d.F q : Nat) : Int)) = false := beq_eq_false_iff_ne.2 (by omega)
            have hsn : ¬ (nx : Int) = ((d.F q : Nat) : Int) := by omega
            have HV : Hid (nx = d.F (q + 1)) := HNX
            clear HST HNX
            go_wp2_with fail
            go_roundw
            case rel => exact ⟨q + 1, k + 1, by rw [HKQ.out], by go_num, by omega, by rw [HV.out], HGn, HBk⟩
            case measure => simp [intOf]; omega
end Go.Proofs.Ytaedbkdimpdngaa
