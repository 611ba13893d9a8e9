/-
  Kinds of changes.
  Changes are made in a table.
-/
import Derived.Test.YtpenleogafdbhaaGreatDoorZ4
import Derived.Laws.EntriesVeiled
namespace Go.Proofs.YtpenleogafdbhaaGreatDoor
open Go.RowKit Go.Maps Go.ChangeMaps Go.WideElems Go.WideShapes Go.WideAt Go.WideMaps
/-- bytes as a string -/
def str (b : Bs) : ByteArray := ⟨b.toArray⟩
theorem str_list (b : Bs) : (str b).data.toList = b := rfl
theorem str_size (b : Bs) : (str b).size = b.length := by show b.toArray.size = _; simp
def cellV (x : Bs × Bool) : Value := .agg #[.string (str x.1), .bool x.2]
def tabV (t : Tab) : Mp Value := mmap cellV t
theorem kinds_any (w : World) : Calls Tryz.prog 135 #[] w fun e w' => e = .returned (.agg #[.int .u8 61, .func (.func 163) #[] #[], .int .u8 45, .func (.func 164) #[] #[]]) ∧ Below w.heap.size w w' := by
  go_enter Tryz.func135, Tryz.ntmps135
  go_wp2_with fail
  refine bodyPost_ret (results_cell_row rfl _ _ w.heap.size 194 _ (0, 0) _ rfl (heap_alloc_new _ _) Tryz.underlying194 rfl (by kernel_rfl)) rfl ?_
  exact ⟨rfl, ba _ _⟩
theorem set_any (tb : Nat) (m : Mp Value) (k v : ByteArray) (w : World) (h : MapM Tryz.prog 9 w tb m) (hl : m.length < 10000000) (hk : k.size ≤ 1000000) :
    Calls Tryz.prog 163 #[.map (some tb), .string k, .string v] w fun e w' => e = .returned (.tuple #[]) ∧ MapM Tryz.prog 9 w' tb (mput k.data.toList (.agg #[.string v, .bool false]) m) ∧ w.mapTurned w' tb := by
  have H := hid h
  have HL : Hid (m.length < maxLen) := hid (Nat.lt_trans hl (by decide))
  have HK : Hid (k.size ≤ maxLen) := hid (Nat.le_trans hk (by decide))
  clear h
  go_enter Tryz.func163, Tryz.ntmps163
  go_wp2_with (first | (at_mapUpdate; refine wpl_put rfl _ _ _ 105 rfl 9 138 Tryz.underlying9 Tryz.underlying105 tb m rfl H.out HL.out k rfl HK.out _ rfl ?_; intro w1 hm1 ht1; have HM1 := hid hm1; have HT1 := hid ht1; clear hm1 ht1) | fail)
  go_end0
  exact ⟨rfl, HM1.out, HT1.out⟩
theorem del_any (tb : Nat) (m : Mp Value) (k v : ByteArray) (w : World) (h : MapM Tryz.prog 9 w tb m) (hl : m.length < 10000000) (hk : k.size ≤ 1000000) :
    Calls Tryz.prog 164 #[.map (some tb), .string k, .string v] w fun e w' => e = .returned (.tuple #[]) ∧ MapM Tryz.prog 9 w' tb (mput k.data.toList (.agg #[.string (str []), .bool true]) m) ∧ w.mapTurned w' tb := by
  have H := hid h
  have HL : Hid (m.length < maxLen) := hid (Nat.lt_trans hl (by decide))
  have HK : Hid (k.size ≤ maxLen) := hid (Nat.le_trans hk (by decide))
  clear h
  go_enter Tryz.func164, Tryz.ntmps164
  go_wp2_with (first | (at_mapUpdate; refine wpl_put rfl _ _ _ 105 rfl 9 138 Tryz.underlying9 Tryz.underlying105 tb m rfl H.out HL.out k rfl HK.out _ rfl ?_; intro w1 hm1 ht1; have HM1 := hid hm1; have HT1 := hid ht1; clear hm1 ht1) | fail)
  go_end0
  exact ⟨rfl, HM1.out, HT1.out⟩
end Go.Proofs.YtpenleogafdbhaaGreatDoor

namespace Go.Proofs.YtpenleogafdbhaaGreatDoor
open Go.RowKit Go.Maps Go.ChangeMaps Go.WideElems Go.WideShapes Go.WideAt Go.WideMaps
theorem below_set {B X j : Nat} {w w' : World} {v : Value} (h : Below B w w') (hX : B ≤ X) : Below B w (w'.setCell ⟨X, j, none⟩ v) := h.setCell (by simpa using hX) _
/-- changes in memory, read -/
def IsCh (w : World) (v : Value) (l : List Ch) : Prop := ∃ p c, v = .slice p l.length c ∧ l.length ≤ 1000000 ∧ (∀ x ∈ l, x.key.length ≤ 1000 ∧ x.val.length ≤ 1000) ∧ ∀ i x, l[i]? = some x → ∃ g, p = some ⟨g, 0, none⟩ ∧ w.cell? ⟨g, i * 3, none⟩ = some (.string (str x.key)) ∧ w.cell? ⟨g, i * 3 + 1, none⟩ = some (.string (str x.val)) ∧ w.cell? ⟨g, i * 3 + 2, none⟩ = some (.bool x.del)
theorem IsCh.keep {w w' : World} {v : Value} {l : List Ch} (h : IsCh w v l) (hk : ∀ k, v.ownBlock = some k → k < w.heap.size → w'.heap[k]? = w.heap[k]?) : IsCh w' v l := by
  obtain ⟨p, c, rfl, hl, hs, h⟩ := h
  refine ⟨p, c, rfl, hl, hs, fun i x hx => ?_⟩
  obtain ⟨g, rfl, h0, h1, h2⟩ := h i x hx
  have hb := hk g rfl (World.block_lt_of_cell? w _ h0)
  exact ⟨g, rfl, (cell_same hb).trans h0, (cell_same hb).trans h1, (cell_same hb).trans h2⟩
theorem IsCh.below {w w' : World} {v : Value} {l : List Ch} (h : IsCh w v l) (hb : Below w.heap.size w w') : IsCh w' v l := h.keep fun k _ hk => hb.block k hk
/-- a map is turned: changes stand -/
theorem IsCh.turned {w w' : World} {b : Nat} {v : Value} {l : List Ch} (h : IsCh w v l) (hm : ∃ es clock, w.heap[b]? = some (.map es clock)) (hb : w.mapTurned w' b) : IsCh w' v l := by
  obtain ⟨p, c, rfl, hl, hs, h⟩ := h
  refine ⟨p, c, rfl, hl, hs, fun i x hx => ?_⟩
  obtain ⟨g, rfl, h0, h1, h2⟩ := h i x hx
  have hne : g ≠ b := fun e => by
    obtain ⟨es, clock, hm⟩ := hm
    rw [World.cell?, e, hm] at h0
    cases h0
  have hb := mapTurned_other hb hne
  exact ⟨g, rfl, (cell_same hb).trans h0, (cell_same hb).trans h1, (cell_same hb).trans h2⟩
theorem tab_do_len (t : Tab) (c : Ch) : (t.do c).length ≤ t.length + 1 := by
  unfold Tab.do mput
  rw [length_mins]
  have := List.length_filter_le (fun p : Bs × (Bs × Bool) => !(p.1 == c.key)) t
  unfold mdel
  omega
theorem tab_apply_len : ∀ (l : List Ch) (t : Tab), (t.apply l).length ≤ t.length + l.length
  | [], t => Nat.le_refl _
  | c :: r, t => by
    have h := tab_apply_len r (t.do c)
    have h2 := tab_do_len t c
    show (Tab.apply (t.do c) r).length ≤ _
    rw [List.length_cons]
    omega
theorem cells3_alloc {W : World} {a b c : Value} {t : TypeId} : (W.alloc (.cells #[a, b, c] t)).cell? ⟨W.heap.size, 0, none⟩ = some a := (cells3_of (heap_alloc_new _ _)).1
theorem ix0 (w : World) : (Instr.index 194 (.agg #[.int .u8 61, .func (.func 163) #[] #[], .int .u8 45, .func (.func 164) #[] #[]]) (.int .i64 0)).run Tryz.prog w = .ok (.agg #[.int .u8 61, .func (.func 163) #[] #[]]) w := by kernel_rfl
theorem ix1 (w : World) : (Instr.index 194 (.agg #[.int .u8 61, .func (.func 163) #[] #[], .int .u8 45, .func (.func 164) #[] #[]]) (.int .i64 1)).run Tryz.prog w = .ok (.agg #[.int .u8 45, .func (.func 164) #[] #[]]) w := by kernel_rfl
set_option maxRecDepth 100000 in
set_option maxHeartbeats 8000000 in
theorem apply_any (tb : Nat) (T : Tab) (v : Value) (l : List Ch) (w : World) (h : MapM Tryz.prog 9 w tb (tabV T)) (hv : IsCh w v l) (hT : T.length ≤ 5000000) :
    Calls Tryz.prog 71 #[.map (some tb), v] w fun e w' => e = .returned (.tuple #[]) ∧ MapM Tryz.prog 9 w' tb (tabV (T.apply l)) ∧ Chg (fun k => k = tb) w w' := by
  have HM := hid h
  have HV := hid hv
  obtain ⟨p, c, rfl, hl, HS, -⟩ := hv
  obtain ⟨n, hn⟩ : ∃ n, n = l.length := ⟨_, rfl⟩
  have HN := hid hn
  rw [← hn] at hl HV ⊢
  have HSS : Hid (∀ x ∈ l, x.key.length ≤ 1000 ∧ x.val.length ≤ 1000) := hid HS
  clear h hn HS
  go_enter Tryz.func71, Tryz.ntmps71
  go_wp2_with fail
  go_loopw [9] (fun kv wr => ∃ k : Nat, kv = .int .i64 (k : Int) ∧ k ≤ n ∧ Hid (MapM Tryz.prog 9 wr tb (tabV (T.apply (l.take k)))) ∧ Hid (IsCh wr (.slice p n c) l) ∧ Hid (Chg (fun k => k = tb) w wr)) (fun kv _ => n - (intOf kv).toNat)
  case atStart => exact ⟨0, rfl, Nat.zero_le _, HM, HV, Chg.refl _ _⟩
  case round =>
    obtain ⟨k, rfl, hk, HMr, HVr, HC⟩ := hrel
    rename World => wr
    by_cases hlt : k < n
    · have hkl : k < l.length := by rw [← HN.out]; exact hlt
      obtain ⟨x, hx⟩ : ∃ x, l[k]? = some x := ⟨_, List.getElem?_eq_getElem hkl⟩
      have HX := hid hx
      obtain ⟨p', c', hv', _, _, hcell⟩ := HVr.out
      obtain ⟨g, hp, c0, c1, c2⟩ := hcell k x hx
      injection hv' with e1 e2 e3
      subst e1
      subst hp
      clear e2 e3 hcell hx
      have KD := hid kinds_any
      have hix0 := ix0
      have hix1 := ix1
      have hx0 := heap_alloc_new wr (.cells #[.string (str x.key), .string (str x.val), .bool x.del] 39)
      have hb1 := ba wr (.cells #[.string (str x.key), .string (str x.val), .bool x.del] 39)
      have HX0 := hid hx0
      have HB1 : Hid (Below wr.heap.size wr (wr.alloc (.cells #[.string (str x.key), .string (str x.val), .bool x.del] 39))) := hid (ba wr _)
      clear hx0 hb1
      have hks : x.key.length ≤ 1000 ∧ x.val.length ≤ 1000 := HSS.out x (List.mem_of_getElem? HX.out)
      have HKS := hid hks
      have hTl : (T.apply (l.take k)).length < 10000000 := by
        have h1 := tab_apply_len (l.take k) T
        have h2 : (l.take k).length ≤ k := by rw [List.length_take]; omega
        omega
      have HTL := hid hTl
      have HTK : Hid (T.apply (l.take (k + 1)) = (T.apply (l.take k)).do x) := hid (by
        have : l.take (k + 1) = l.take k ++ [x] := by
          have := HX.out
          rw [List.take_add_one, this]; rfl
        rw [this]
        unfold Tab.apply
        rw [List.foldl_append]; rfl)
      clear hks hTl
      go_wp2_with fail
      generalize wr.alloc (.cells #[.string (str x.key), .string (str x.val), .bool x.del] 39) = w1 at *
      go_at_call 135
      refine (KD.out w1).mono ?_
      rintro e w2 ⟨rfl, hb2⟩
      have HX2 := hid ((hb2.block _ (heap_lt HX0.out)).trans HX0.out)
      have HB2 := hid (below_step HB1.out hb2)
      clear hb2
      cases hdel : x.del with
      | false =>
        have HDEL := hid hdel
        clear hdel
        go_upto_region 4 with fail
        have HX3 := hid (((ba w2 (.cells #[.int .u8 61, .func (.func 163) #[] #[]] 193)).block _ (heap_lt HX2.out)).trans HX2.out)
        have HY3 := hid (heap_alloc_new w2 (.cells #[.int .u8 61, .func (.func 163) #[] #[]] 193))
        have HB3 := hid (below_step HB2.out (ba w2 (.cells #[.int .u8 61, .func (.func 163) #[] #[]] 193)))
        have HSZ2 : Hid (wr.heap.size < w2.heap.size) := hid (heap_lt HX2.out)
        have HSY : Hid (w2.heap.size < (w2.alloc (.cells #[.int .u8 61, .func (.func 163) #[] #[]] 193)).heap.size) := hid (heap_lt HY3.out)
        obtain ⟨y0, y1, y2⟩ := cells3_of HX3.out
        rw [HDEL.out] at y2
        obtain ⟨z0, z1⟩ := cells2_of HY3.out
        generalize w2.alloc (.cells #[.int .u8 61, .func (.func 163) #[] #[]] 193) = w3 at *
        obtain ⟨Y, hY⟩ : ∃ Y, Y = w2.heap.size := ⟨_, rfl⟩
        rw [← hY] at z0 z1 HY3 HSZ2 HSY ⊢
        clear hY
        have HM3 : Hid (MapM Tryz.prog 9 w3 tb (tabV (T.apply (l.take k)))) := hid (HMr.out.block (HB3.out.block tb HMr.out.lt))
        have CS := hid (set_any tb _ (str x.key) (str x.val) w3 HM3.out (by unfold tabV; rw [mmap_length]; exact HTL.out) (by rw [str_size]; have := HKS.out.1; omega))
        go_wp2_with fail
        go_at_call 163
        refine CS.out.mono ?_
        rintro e w7 ⟨rfl, hm7, ht7⟩
        have HM7 := hid hm7
        have HT7 := hid ht7
        clear hm7 ht7 CS
        go_wp2_with fail
        go_roundw
        case rel =>
          refine ⟨k + 1, by go_num, by omega, hid ?_, hid ?_, hid ?_⟩
          · have h := HM7.out
            rw [HTK.out]
            unfold tabV Tab.do
            rw [mmap_mput, HDEL.out]
            exact h
          · exact (HVr.out.below HB3.out).turned HM3.out.kind HT7.out
          · exact (HC.out.trans0 (chg_below HB3.out)).trans0 (chg_turned HT7.out rfl)
        case measure => simp [intOf]; omega
      | true =>
        have HDEL := hid hdel
        clear hdel
        go_upto_region 4 with fail
        have HX3 := hid (((ba w2 (.cells #[.int .u8 61, .func (.func 163) #[] #[]] 193)).block _ (heap_lt HX2.out)).trans HX2.out)
        have HY3 := hid (heap_alloc_new w2 (.cells #[.int .u8 61, .func (.func 163) #[] #[]] 193))
        have HB3 := hid (below_step HB2.out (ba w2 (.cells #[.int .u8 61, .func (.func 163) #[] #[]] 193)))
        have HSZ2 : Hid (wr.heap.size < w2.heap.size) := hid (heap_lt HX2.out)
        have HSY : Hid (w2.heap.size < (w2.alloc (.cells #[.int .u8 61, .func (.func 163) #[] #[]] 193)).heap.size) := hid (heap_lt HY3.out)
        obtain ⟨y0, y1, y2⟩ := cells3_of HX3.out
        rw [HDEL.out] at y2
        obtain ⟨z0, z1⟩ := cells2_of HY3.out
        generalize w2.alloc (.cells #[.int .u8 61, .func (.func 163) #[] #[]] 193) = w3 at *
        obtain ⟨Y, hY⟩ : ∃ Y, Y = w2.heap.size := ⟨_, rfl⟩
        rw [← hY] at z0 z1 HY3 HSZ2 HSY ⊢
        clear hY
        go_wp2_with fail
        go_at_call 135
        refine (KD.out w3).mono ?_
        rintro e w4 ⟨rfl, hb4⟩
        have HX4 := hid ((hb4.block _ (heap_lt HX3.out)).trans HX3.out)
        have HY4 := hid ((hb4.block _ HSY.out).trans HY3.out)
        have HB4 := hid (below_step HB3.out hb4)
        obtain ⟨u0, u1⟩ := cells2_of HY4.out
        have g0 := free_of HY4.out 0
        have g1 := free_of HY4.out 1
        clear hb4 y0 y1 y2 z0 z1
        go_upto_region 6 with fail
        have HB5 : Hid (Below wr.heap.size wr ((w4.setCell ⟨Y, 0, none⟩ (.int .u8 45)).setCell ⟨Y, 1, none⟩ (.func (.func 164) #[] #[]))) := hid (below_set (below_set HB4.out (Nat.le_of_lt HSZ2.out)) (Nat.le_of_lt HSZ2.out))
        have HX5 : Hid (((w4.setCell ⟨Y, 0, none⟩ (.int .u8 45)).setCell ⟨Y, 1, none⟩ (.func (.func 164) #[] #[])).heap[wr.heap.size]? = _) := hid (((set_other (Nat.ne_of_lt HSZ2.out)).trans (set_other (Nat.ne_of_lt HSZ2.out))).trans HX4.out)
        have HY5 : Hid (((w4.setCell ⟨Y, 0, none⟩ (.int .u8 45)).setCell ⟨Y, 1, none⟩ (.func (.func 164) #[] #[])).heap[Y]? = some (.cells #[.int .u8 45, .func (.func 164) #[] #[]] 193)) := hid (by rw [modify_at (modify_at HY4.out)]; rfl)
        generalize (w4.setCell ⟨Y, 0, none⟩ (.int .u8 45)).setCell ⟨Y, 1, none⟩ (.func (.func 164) #[] #[]) = w5 at *
        obtain ⟨y0, y1, y2⟩ := cells3_of HX5.out
        obtain ⟨z0, z1⟩ := cells2_of HY5.out
        have HM5 : Hid (MapM Tryz.prog 9 w5 tb (tabV (T.apply (l.take k)))) := hid (HMr.out.block (HB5.out.block tb HMr.out.lt))
        have CS := hid (del_any tb _ (str x.key) (str x.val) w5 HM5.out (by unfold tabV; rw [mmap_length]; exact HTL.out) (by rw [str_size]; have := HKS.out.1; omega))
        go_wp2_with fail
        go_at_call 164
        refine CS.out.mono ?_
        rintro e w7 ⟨rfl, hm7, ht7⟩
        have HM7 := hid hm7
        have HT7 := hid ht7
        clear hm7 ht7 CS
        go_wp2_with fail
        go_roundw
        case rel =>
          refine ⟨k + 1, by go_num, by omega, hid ?_, hid ?_, hid ?_⟩
          · have h := HM7.out
            rw [HTK.out]
            unfold tabV Tab.do
            rw [mmap_mput, HDEL.out]
            exact h
          · exact (HVr.out.below HB5.out).turned HM5.out.kind HT7.out
          · exact (HC.out.trans0 (chg_below HB5.out)).trans0 (chg_turned HT7.out rfl)
        case measure => simp [intOf]; omega
    · obtain rfl : k = n := by omega
      go_wp2_with fail
      go_end0
      have h := HMr.out
      rw [List.take_of_length_le (by rw [← HN.out]; exact Nat.le_refl _)] at h
      exact ⟨rfl, h, HC.out⟩
end Go.Proofs.YtpenleogafdbhaaGreatDoor
