/-
  The pairs of the braid (7); its signs (5).
-/
import Derived.Test.YtppkgilpmmhpoaaDoorWalkH
namespace Go.Proofs.YtppkgilpmmhpoaaDoor
open Go.RowKit
/-- the word of the braid, in memory -/
def Wrd (w : World) (n r wb : Nat) : Prop := ∀ i, i < 2 * n → w.cell? ⟨wb, i, none⟩ = some (.int .i64 (((i + r) % n : Nat) : Int))
theorem Wrd.below {w w' : World} {n r wb : Nat} (h : Wrd w n r wb) (hb : Below w.heap.size w w') : Wrd w' n r wb := fun i hi => (hb.cell (World.block_lt_of_cell? w _ (h i hi))).trans (h i hi)
theorem read_cur (n wb wc : Nat) (w : World) (hn : 1 ≤ n ∧ n ≤ 10) (hw : Wrd w n 0 wb) :
    Calls Tryd.prog 12 #[.slice (some ⟨wb, 0, none⟩) (2 * n) wc] w fun e w' => ∃ D pb gs cs, e = .returned (.tuple #[.pointer (some ⟨D, 0, none⟩), .int .i64 0]) ∧ Hid (Cur w' D n wb wc pb gs cs) ∧ Below w.heap.size w w' :=
  (read_any n 0 wb wc w hn (by omega) hw).mono fun e w' ⟨x, he, ⟨D, hx, hc⟩, hb⟩ => by
    obtain ⟨pb, gs, cs, h⟩ := hc rfl
    subst hx
    exact ⟨D, pb, gs, cs, he, h, hb⟩
def cnt (n : Nat) : Nat → Nat
  | 0 => 0
  | x + 1 => cnt n x + (n - 1 - x)
theorem cnt_small : ∀ n < 11, ∀ x < 11, cnt n x ≤ 100 := by decide +kernel
theorem cnt_all : ∀ n < 11, cnt n n = n * (n - 1) / 2 := by decide +kernel
set_option maxRecDepth 100000 in
set_option maxHeartbeats 4000000 in
theorem pairs_any (n wb wc : Nat) (w : World) (hn : 1 ≤ n ∧ n ≤ 10) (hw : Wrd w n 0 wb) :
    Calls Tryd.prog 7 #[.slice (some ⟨wb, 0, none⟩) (2 * n) wc] w fun e w' => ∃ a c, e = .returned (.tuple #[.slice a (n * (n - 1) / 2) c, .int .i64 0]) ∧ Below w.heap.size w w' := by
  obtain ⟨hn1, hn10⟩ := hn
  have RC := hid (read_cur n wb wc w ⟨hn1, hn10⟩ hw)
  have HCA := hid (cnt_all n (by omega))
  have HCS : Hid (∀ x, x ≤ n → cnt n x ≤ 100) := fun x hx => cnt_small n (by omega) x (by omega)
  clear hw
  generalize n * (n - 1) / 2 = tt at *
  generalize 2 * n = m at *
  go_enter Tryd.func7, Tryd.ntmps7
  go_upto_region 2 with (first | (go_at_call 12; refine RC.out.mono ?_; rintro e w1 ⟨D, pb, gs, cs, rfl, HC, hb1⟩; have HB1 := hid hb1; clear hb1) | fail)
  have KB : Hid (∀ w', Below w1.heap.size w1 w' → w'.cell? ⟨D, 0, none⟩ = some (.int .i64 (n : Int))) := fun w' hb => (cells3_of (HC.out.below hb).box).1
  have IC : Hid (∀ w' x y, Below w1.heap.size w1 w' → x < n → y < n → Calls Tryd.prog 14 #[.pointer (some ⟨D, 0, none⟩), .int .i64 (x : Int), .int .i64 (y : Int)] w' fun e w'' => e = .returned (.bool (x != y)) ∧ Below w'.heap.size w' w'') := fun w' x y hb hx hy => inter_any D n wb wc pb gs cs x y w' (HC.out.below hb) hx hy
  clear RC
  have k0 := KB.out w1 (Below.refl _ _)
  go_wp2_with fail
  clear k0
  go_loopw [6, 21] (fun ov xv wr => ∃ (x : Nat) (l : List Pr), xv = .int .i64 x ∧ x ≤ n ∧ Hid (OwnP wr w1.heap.size 54 ov l) ∧ Hid (l.length = cnt n x) ∧ Hid (Below w1.heap.size w1 wr)) (fun _ xv _ => n - (intOf xv).toNat)
  case atStart => exact ⟨0, [], rfl, Nat.zero_le _, World.ownsRow_nil _ _ _ _, rfl, Below.refl _ _⟩
  case round =>
    obtain ⟨x, l, rfl, hx, HO, HL, HBr⟩ := hrel
    rename World => wr
    obtain ⟨oa, on, oc, rfl⟩ := ownP_sh HO.out
    by_cases hlt : x < n
    · have k0 := KB.out wr HBr.out
      go_wp2_with fail
      clear k0
      go_loopw [6, 8] (fun ov yv wk => ∃ (y : Nat) (l2 : List Pr), yv = .int .i64 y ∧ x < y ∧ y ≤ n ∧ Hid (OwnP wk w1.heap.size 54 ov l2) ∧ Hid (l2.length = cnt n x + (y - x - 1)) ∧ Hid (Below w1.heap.size w1 wk)) (fun _ yv _ => n - (intOf yv).toNat)
      case atStart => exact ⟨x + 1, l, by go_num, by omega, by omega, HO, by show _ = _; rw [HL.out]; omega, HBr⟩
      case round =>
        obtain ⟨y, l2, rfl, hxy, hyn, HO2, HL2, HBk⟩ := hrel
        rename World => wk
        obtain ⟨pa, pn, pc, rfl⟩ := ownP_sh HO2.out
        have k0 := KB.out wk HBk.out
        by_cases hlt2 : y < n
        · have ICC := hid (IC.out wk x y HBk.out hlt hlt2)
          have hxe : (x != y) = true := by simp; omega
          rw [hxe] at ICC
          have HLM : Hid (l2.length < 1000000) := by
            have h1 := HL2.out
            have h2 := HCS.out x hx
            show _ < _; omega
          clear hxe
          go_wp2_with (first
            | (go_at_call 14; refine ICC.out.mono ?_; rintro e w5 ⟨rfl, hb5⟩; have HB5 := hid (below_step HBk.out hb5); have HO5 := hid (row_below HO2.out hb5); clear hb5)
            | (at_builtin; refine wpl_app_pr (x : Int) (y : Int) _ _ (.slice pa pn pc) w1.heap.size l2 (by rfl) (by rfl) (by rfl) (by rfl) HO5.out HLM.out HB5.out.size ?_; intro v' w7 ho7 hb7 hg7; obtain ⟨sa, sn, sc, rfl⟩ := ownP_sh ho7; have HO7 := hid ho7; have HB7 := hid (HB5.out.trans hb7); clear ho7 hb7 hg7)
            | fail)
          go_roundw
          case rel => exact ⟨y + 1, _, by go_num, by omega, by omega, HO7, by show _ = _; rw [List.length_append, HL2.out]; simp; omega, HB7⟩
          case measure => simp [intOf]; omega
        · obtain rfl : n = y := by omega
          go_wp2_with fail
          go_roundw
          case rel => exact ⟨x + 1, l2, by go_num, by omega, HO2, HL2.out.trans (by show _ = cnt n x + (n - 1 - x); omega), HBk⟩
          case measure => simp [intOf]; omega
    · obtain rfl : n = x := by omega
      have hon : on = tt := by
        obtain ⟨_, _, e⟩ := row_slice HO.out
        cases e
        rw [HL.out, HCA.out]
      subst hon
      go_wp2_with fail
      go_ret2
      exact ⟨_, _, rfl, below_step HB1.out HBr.out⟩
def PlaneR (n : Nat) (w : World) (B : Nat) (x : Value) : Prop :=
  ∃ g j, leastF n (2 ^ n) none = some (g, j) ∧ ((g = 0 ∧ ∃ u, x = .tuple #[u, .int .i64 0] ∧ OwnV w B 3 u (sgl n (sgOf n j))) ∨ (g ≠ 0 ∧ x = .tuple #[.slice none 0 0, .int .i64 5]))
set_option maxRecDepth 100000 in
set_option maxHeartbeats 4000000 in
theorem plane_any (n wb wc : Nat) (w : World) (hn : 1 ≤ n ∧ n ≤ 10) (hw : Wrd w n 0 wb) :
    Calls Tryd.prog 5 #[.slice (some ⟨wb, 0, none⟩) (2 * n) wc] w fun e w' => ∃ x, e = .returned x ∧ PlaneR n w' w.heap.size x ∧ Below w.heap.size w w' := by
  have RC := hid (read_cur n wb wc w hn hw)
  clear hw
  generalize 2 * n = m at *
  go_enter Tryd.func5, Tryd.ntmps5
  go_upto_region 5 with (first | (go_at_call 12; refine RC.out.mono ?_; rintro e w1 ⟨D, pb, gs, cs, rfl, HC, hb1⟩; have HB1 := hid hb1; have LC := hid (least_any D n wb wc pb gs cs w1 HC.out); clear hb1) | (go_at_call 16; refine LC.out.mono ?_; rintro e w2 ⟨x, rfl, ⟨g, j, u, hl, rfl, hg, ho⟩, hb2⟩; have HL := hid hl; have HB2 := hid (below_step HB1.out hb2); have HO := hid (ownV_mono ho HB1.out.size); obtain ⟨ua, un, uc, rfl⟩ := ownV_sh ho; clear hl hb2 ho) | fail)
  obtain ⟨hg1, hg2⟩ := hg
  by_cases h0 : g = 0
  · have HG := hid h0
    subst h0
    go_wp2_with fail
    go_ret2
    exact ⟨_, rfl, ⟨0, j, HL.out, .inl ⟨rfl, _, rfl, HO.out⟩⟩, HB2.out⟩
  · go_wp2_with fail
    go_ret2
    exact ⟨_, rfl, ⟨g, j, HL.out, .inr ⟨h0, rfl⟩⟩, HB2.out⟩
end Go.Proofs.YtppkgilpmmhpoaaDoor
