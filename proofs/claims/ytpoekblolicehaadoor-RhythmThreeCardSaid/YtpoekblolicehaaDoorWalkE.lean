/-
  The walk over the reference: the critical positions of a rhythm.
-/
import Derived.Test.YtpoekblolicehaaDoorBaseB
namespace Go.Proofs.YtpoekblolicehaaDoor
open Go.RowKit

theorem rperiods_first (s : ByteArray) (w : World) (hs : s.size ≤ 1000) (h0 : 1 ≤ s.size) :
    Calls Tryd.prog 26 #[.string s] w fun e w' => ∃ (g n c : Nat), e = .returned (.slice (some ⟨g, 0, none⟩) n c) ∧ 0 < n ∧ g < w'.heap.size ∧ w'.cell? ⟨g, 0, none⟩ = some (.int .i64 (least s.data.toList)) ∧ Hid (Below w.heap.size w w') := by
  refine (rperiods_any s w hs).mono ?_
  rintro e w' ⟨v, rfl, hv, hb⟩
  obtain ⟨a, c, rfl, hl, hc⟩ := own_isInts hv
  obtain ⟨h1, h2⟩ := periods_ix s.data.toList h0
  obtain ⟨g, rfl, hcell⟩ := hc 0 h2
  rw [h1] at hcell
  exact ⟨g, _, c, rfl, h2, World.block_lt_of_cell? w' _ hcell, hcell, hb⟩

theorem rlocals_hid (s : ByteArray) (w : World) (hs : s.size ≤ 1000) (h0 : 1 ≤ s.size) :
    Calls Tryd.prog 29 #[.string s] w fun e w' => ∃ v, e = .returned v ∧ Hid (Own w' w.heap.size 3 v (ints (locals s.data.toList)) ∧ Below w.heap.size w w') := rlocals_any s w hs h0

/-- two slices lie apart -/
def Apart (o l : Value) : Prop := ∀ k, o.ownBlock = some k → l.ownBlock ≠ some k
def RcCut (s : ByteArray) (w : World) (o l p : Value) (wx : World) : Prop :=
  Own wx w.heap.size 3 o (ints []) ∧ IsInts wx l (locals s.data.toList) ∧ p = .int .i64 (least s.data.toList) ∧ Below w.heap.size w wx ∧ Apart o l ∧ ∀ k, l.ownBlock = some k → k < wx.heap.size

theorem below_of_drew {B : Nat} {w w' : World} (h : Below B w.drew w') : Below B w w' := ⟨h.os, h.tape, h.output, h.size, h.block⟩
theorem isInts_hid {w1 w' : World} {lv : Value} {xs : List Int} {B : Nat} (h : Own w1 B 3 lv (ints xs)) (hb : Below w1.heap.size w1 w') : IsInts w' lv xs := isInts_below (own_isInts h) hb

set_option maxHeartbeats 400000 in
theorem rcritical_any (s : ByteArray) (w : World) (hs : s.size ≤ 1000) (h0 : 1 ≤ s.size) :
    Calls Tryd.prog 30 #[.string s] w fun e w' => ∃ v, e = .returned v ∧ Own w' w.heap.size 3 v (ints (crits s.data.toList)) ∧ Below w.heap.size w w' := by
  have c1 := hid (fun w => rlocals_hid s w hs h0)
  have c2 := hid (fun w => rperiods_first s w hs h0)
  have Hs := hid hs
  have H0 := hid h0
  clear hs h0
  go_enter Tryd.func30, Tryd.ntmps30
  go_upto_region 1 with fail
  go_cut [3, 4, 5] (fun o l p wx => RcCut s w o l p wx)
  case first =>
    go_region_with ((first | (go_at_call 29; refine (c1.out _).mono ?_; rintro e w1 ⟨lv, rfl, hlv⟩) | (go_at_call 26; refine (c2.out _).mono ?_; rintro e w2 ⟨g, n, c, rfl, hn, hg, hc, hb2⟩)))
    all_goals (go_wp2_with fail; go_meet)
    case rel =>
      obtain ⟨h1, h2⟩ := hlv.out
      have b2 := hb2.out
      have h2' := below_of_drew h2
      exact ⟨own_below (own_made0 w _ 3 (Nat.le_refl _)) (h2'.trans (b2.mono h2.size)), isInts_hid h1 b2, rfl, (((Below.refl _ w).alloc (Nat.le_refl _) _).trans (h2'.mono (by simp))).trans (b2.mono (by have := h2.size; simp at this; omega)), fun k hk e => by have := (own_ge h1 k e).1; simp [Value.ownBlock] at hk this; omega, fun k hk => Nat.lt_of_lt_of_le (own_ge h1 k hk).2 b2.size⟩
    case rel =>
      obtain ⟨h1, h2⟩ := hlv.out
      have b2 := hb2.out
      have h2' := below_of_drew h2
      have hz := h2.size
      have b3 : Below w1.heap.size w1 (w1.alloc (.cells #[] 3)) := (Below.refl _ w1).alloc (Nat.le_refl _) _
      have b4 := b3.trans (b2.mono (by simp))
      exact ⟨own_below (own_made0 w1 _ 3 hz) b2, isInts_hid h1 b4, rfl, h2'.trans (b4.mono hz), fun k hk e => by have := (own_ge h1 k e).2; simp [Value.ownBlock] at hk this; omega, fun k hk => Nat.lt_of_lt_of_le (own_ge h1 k hk).2 b4.size⟩
    all_goals (
      obtain ⟨h1, h2⟩ := hlv.out
      have b2 := hb2.out
      have h2' := below_of_drew h2
      have hz := h2.size
      have hz2 := b2.size
      have hz3 : w.heap.size ≤ w2.heap.size := Nat.le_trans hz hz2
      have b3 : Below w1.heap.size w1 (w2.alloc (.cells #[] 3)) := b2.alloc hz2 _
      exact ⟨own_made0 w2 _ 3 hz3, isInts_hid h1 b3, rfl, h2'.trans (b3.mono hz), fun k hk e => by have := (own_ge h1 k e).2; simp [Value.ownBlock] at hk this; omega, fun k hk => Nat.lt_of_lt_of_le (own_ge h1 k hk).2 b3.size⟩)
  case rest =>
    obtain ⟨ho, hl, rfl, hb, hap, hlt⟩ := hcut
    obtain ⟨la, lc, rfl, hln, Hl⟩ := hl
    have hbs := hb.size
    have HL := hid Hl; clear Hl
    have Ho := hid ho; clear ho
    have Hb := hid hb; clear hb
    have Hap := hid hap; clear hap
    have Hlt := hid hlt; clear hlt
    have h0 := H0.out
    obtain ⟨m, hm⟩ : ∃ m, s.size = m + 1 := ⟨s.size - 1, by omega⟩
    have hm1 : m + 1 ≤ 1000 := by have := Hs.out; omega
    have HLen : Hid ((locals s.data.toList).length = m) := by unfold locals; rw [data_size, hm]; exact locTo_length _ _
    rw [HLen.out] at Hap Hlt
    rw [HLen.out]
    have HM := hid hm; clear hm hln h0
    generalize hr : least s.data.toList = r at *
    have Hr := hid hr; clear hr
    go_wp2_with fail
    go_loopw [3, 6] (fun v i wr => ∃ k : Nat, k ≤ m ∧ i = .int .i64 k ∧ Own wr w.heap.size 3 v (ints (critTo s.data.toList k)) ∧ IsInts wr (.slice la m lc) (locals s.data.toList) ∧ Below w.heap.size w wr ∧ Apart v (.slice la m lc) ∧ (∀ k, (Value.slice la m lc).ownBlock = some k → k < wr.heap.size)) (fun _ i _ => m - (intOf i).toNat)
    case atStart => exact ⟨0, Nat.zero_le _, rfl, Ho.out, ⟨la, lc, by rw [HLen.out], by rw [HLen.out]; unfold maxLen; omega, HL.out⟩, Hb.out, Hap.out, Hlt.out⟩
    case round =>
      obtain ⟨k, hk, rfl, hown, hl, hbel, hap, hlb⟩ := hrel
      have hbz := hbel.size
      have Hown := hid hown; clear hown
      have Hbel := hid hbel; clear hbel
      have Hl := hid hl; clear hl
      have HA := hid hap; clear hap
      have HB := hid hlb; clear hlb
      have hpl : (critTo s.data.toList k).length < 1099511627776 := by have := critTo_length s.data.toList k; omega
      have Hpl := hid hpl; clear hpl
      clear Hap Hlt Ho Hb HL
      by_cases hlt : k < m
      · obtain ⟨la', lc', he, hln, hc⟩ := Hl.out
        rw [HLen.out] at he hln hc
        injection he with e1 e2 e3
        subst e1 e3
        obtain ⟨g, rfl, cl2⟩ := hc k hlt
        clear hc hln e2
        have Hix : Hid (ix (locals s.data.toList) k = loc s.data.toList (k + 1)) := locTo_ix _ _ _ (by rw [data_size, HM.out]; omega)
        rw [Hix.out] at cl2
        generalize hq : loc s.data.toList (k + 1) = q at *
        have Hq := hid hq; clear hq
        by_cases hqr : q = r
        · have hqb : ((q : Int) == (r : Int)) = true := by simp [hqr]
          have Hqr := hid hqr; clear hqr
          go_wp2_with (at_builtin; refine wpl_app_int2 (.tmp 26) (.tmp 29) u3 w.heap.size (critTo s.data.toList k) (by rfl) (by rfl) (by rfl) (by rfl) (by exact Hown.out) (by exact Hpl.out) (by exact hbz) ?_; intro v' w' hown' hgrow)
          have Hown' := hid hown'; clear hown'
          have Hg := hid hgrow; clear hgrow
          go_wp2_with fail
          go_roundw
          case rel =>
            have hal : Below wr.heap.size wr (wr.alloc (.cells #[.int .i64 ((k : Int) + 1)] 3)) := (Below.refl _ _).alloc (Nat.le_refl _) _
            refine ⟨k + 1, by omega, by go_num, by rw [critTo_yes _ _ (by rw [Hq.out, Hr.out]; exact Hqr.out)]; exact Hown'.out, isInts_app (isInts_below Hl.out hal) Hg.out HA.out, (Hbel.out.trans (hal.mono hbz)).trans (below_app Hg.out (by simp; omega) (fun k hk => (own_ge Hown.out k hk).1)), apart_app Hg.out HA.out (fun k hk => by have := HB.out k hk; simp; omega), fun k hk => ?_⟩
            have h1 := HB.out k hk
            have h2 := Hg.out.grown.size
            simp at h2
            omega
          case measure => simp [intOf]; omega
        · have hqb : ((q : Int) == (r : Int)) = false := by simp; omega
          have Hqr := hid hqr; clear hqr
          go_wp2_with fail
          go_roundw
          case rel => exact ⟨k + 1, by omega, by go_num, by rw [critTo_no _ _ (by rw [Hq.out, Hr.out]; exact Hqr.out)]; exact Hown.out, Hl.out, Hbel.out, HA.out, HB.out⟩
          case measure => simp [intOf]; omega
      · go_wp2_with fail
        go_ret
        obtain rfl : k = m := by omega
        exact ⟨_, rfl, by unfold crits; rw [data_size, HM.out]; exact Hown.out, Hbel.out⟩
end Go.Proofs.YtpoekblolicehaaDoor
