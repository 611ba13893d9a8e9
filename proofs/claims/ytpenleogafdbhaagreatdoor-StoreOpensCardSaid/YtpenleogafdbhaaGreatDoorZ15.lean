/-
  The reference: are two lists of entries the same.
  A disk, and a store on it, that a call has made itself: what its functions return, and leave.
  The document's example, in plain words.
  The laws' own walk through the document's example.
  A store of one's own: its disk is armed, asked; whether it is broken.
  Disks and stores that nobody made.
-/
import Derived.Test.YtpenleogafdbhaaGreatDoorZ14
import Derived.BigQuiet
import Derived.Laws.StructEq
namespace Go.Proofs.YtpenleogafdbhaaGreatDoor
open Go.RowKit Go.Maps Go.ChangeMaps Go.WideElems Go.WideShapes Go.WideAt Go.WideMaps
/-- entries in memory, read -/
def IsE (w : World) (v : Value) (l : En) : Prop := ∃ p c, v = .slice p l.length c ∧ l.length ≤ 1000000 ∧ ∀ i x, l[i]? = some x → ∃ g, p = some ⟨g, 0, none⟩ ∧ w.cell? ⟨g, i * 2, none⟩ = some (.string (str x.1)) ∧ w.cell? ⟨g, i * 2 + 1, none⟩ = some (.string (str x.2))
theorem IsE.keep {w w' : World} {v : Value} {l : En} (h : IsE w v l) (hk : ∀ k, v.ownBlock = some k → k < w.heap.size → w'.heap[k]? = w.heap[k]?) : IsE w' v l := by
  obtain ⟨p, c, rfl, hl, h⟩ := h
  refine ⟨p, c, rfl, hl, fun i x hx => ?_⟩
  obtain ⟨g, rfl, h0, h1⟩ := h i x hx
  have hb := hk g rfl (World.block_lt_of_cell? w _ h0)
  exact ⟨g, rfl, (cell_same hb).trans h0, (cell_same hb).trans h1⟩
theorem IsE.below {w w' : World} {v : Value} {l : En} (h : IsE w v l) (hb : Below w.heap.size w w') : IsE w' v l := h.keep fun k _ hk => hb.block k hk
theorem isE_own {w : World} {B : Nat} {v : Value} {l : En} (h : OwnE w B v l) (hl : l.length ≤ 1000000) : IsE w v l := by
  obtain ⟨a, c, rfl⟩ := ownS_sh h
  refine ⟨a, c, by rw [List.length_map], hl, fun i x hx => ?_⟩
  obtain ⟨hi, hxe⟩ := List.getElem?_eq_some_iff.1 hx
  have h0 : 0 < (l.map enRow).length := by rw [List.length_map]; omega
  obtain ⟨g, c', hv, -⟩ := ownS_some h h0
  injection hv with e1 e2 e3
  subst e1
  have hi2 : i < (l.map enRow).length := by rw [List.length_map]; exact hi
  have c0 := ownS_cell h i 0 hi2 (by decide)
  have c1 := ownS_cell h i 1 hi2 (by decide)
  have hr : (l.map enRow).getD i [] = enRow x := by rw [List.getD_eq_getElem?_getD, List.getElem?_map, hx]; rfl
  rw [hr] at c0 c1
  exact ⟨g, rfl, c0, c1⟩
theorem str_toList (a : Bs) : (str a).toList = a := by rw [toList_data, str_list]
theorem run_neq_en (w : World) (x y : Bs × Bs) : (binOp .neq 145 (.agg #[.string (str x.1), .string (str x.2)]) (.agg #[.string (str y.1), .string (str y.2)])).run Tryz.prog w = .ok (.bool (decide (x ≠ y))) w := by
  have h1 : Tryz.prog.stoodInHeld 145 = false := by kernel_rfl
  have h3 : Tryz.prog.underlying 145 = some (.struct (Tryz.prog.fieldsOf 145)) := by unfold Program.fieldsOf; rw [Tryz.underlying145]
  rw [run_neq_struct, run_equalIn_agg w 9999 145 _ _ h3 h1]
  unfold Program.fieldsOf
  rw [Tryz.underlying145]
  obtain ⟨x1, x2⟩ := x
  obtain ⟨y1, y2⟩ := y
  simp [go_sem, Tryz.underlying9]
  by_cases e1 : x1 = y1
  · by_cases e2 : x2 = y2 <;> simp [str_toList, e1, e2]
  · simp [str_toList, e1]
set_option maxRecDepth 100000 in
set_option maxHeartbeats 4000000 in
theorem same_any (va vb : Value) (a b : En) (w : World) (ha : IsE w va a) (hb : IsE w vb b) : Calls Tryz.prog 48 #[va, vb] w fun e w' => e = .returned (.bool (decide (a = b))) ∧ Below w.heap.size w w' := by
  have HA := hid ha
  have HB := hid hb
  obtain ⟨pa, ca, rfl, hla, -⟩ := ha
  obtain ⟨pb, cb, rfl, hlb, -⟩ := hb
  obtain ⟨n, hn⟩ : ∃ n, n = a.length := ⟨_, rfl⟩
  obtain ⟨m, hm⟩ : ∃ m, m = b.length := ⟨_, rfl⟩
  have HN := hid hn
  have HM := hid hm
  rw [← hn] at hla HA ⊢
  rw [← hm] at hlb HB ⊢
  clear hn hm
  by_cases hnm : n = m
  · subst hnm
    have hz : ((n : Int) == (n : Int)) = true := by simp
    go_enter Tryz.func48, Tryz.ntmps48
    go_wp2_with fail
    go_loopw [5] (fun kv wr => ∃ k : Nat, kv = .int .i64 (k : Int) ∧ k ≤ n ∧ Hid (a.take k = b.take k) ∧ Hid (Below w.heap.size w wr)) (fun kv _ => n - (intOf kv).toNat)
    case atStart => exact ⟨0, rfl, Nat.zero_le _, rfl, Below.refl _ _⟩
    case round =>
      obtain ⟨k, rfl, hk, HT, HBW⟩ := hrel
      rename World => wr
      by_cases hlt : k < n
      · have hka : k < a.length := by rw [← HN.out]; exact hlt
        have hkb : k < b.length := by rw [← HM.out]; exact hlt
        obtain ⟨x, hx⟩ : ∃ x, a[k]? = some x := ⟨_, List.getElem?_eq_getElem hka⟩
        obtain ⟨y, hy⟩ : ∃ y, b[k]? = some y := ⟨_, List.getElem?_eq_getElem hkb⟩
        have HX := hid hx
        have HY := hid hy
        obtain ⟨pa', ca', ea, -, hca⟩ := HA.out.below HBW.out
        obtain ⟨pb', cb', eb, -, hcb⟩ := HB.out.below HBW.out
        obtain ⟨ga, hpa, a0, a1⟩ := hca k x hx
        obtain ⟨gb, hpb, b0, b1⟩ := hcb k y hy
        injection ea with ea1 ea2 ea3
        injection eb with eb1 eb2 eb3
        subst ea1 eb1 hpa hpb
        clear hca hcb hx hy hka hkb ea2 ea3 eb2 eb3
        have HT1 : Hid (a.take (k + 1) = a.take k ++ [x]) := hid (by rw [List.take_add_one, HX.out]; rfl)
        have HT2 : Hid (b.take (k + 1) = b.take k ++ [y]) := hid (by rw [List.take_add_one, HY.out]; rfl)
        have hcmp := fun w => run_neq_en w x y
        by_cases he : x = y
        · have hb : decide (x ≠ y) = false := by simp [he]
          have HE := hid he
          clear he
          go_upto_region 6 with fail
          go_quiet (fail)
          go_wp2_with fail
          have HBD : Hid (Below w.heap.size w (wr.drewN nq)) := hid (below_drewN_r HBW.out _)
          generalize wr.drewN nq = wq at *
          go_roundw
          case rel => exact ⟨k + 1, by go_num, by omega, hid (by rw [HT1.out, HT2.out, HT.out, HE.out]), HBD⟩
          case measure => simp [intOf]; omega
        · have hb : decide (x ≠ y) = true := by simp [he]
          have HE := hid he
          clear he
          go_upto_region 6 with fail
          go_quiet (fail)
          go_wp2_with fail
          go_ret
          refine ⟨?_, below_drewN_r HBW.out _⟩
          have hd : decide (a = b) = false := decide_eq_false fun h => by
            have h1 := HX.out
            rw [h, HY.out] at h1
            exact HE.out (Option.some.inj h1).symm
          rw [hd]; rfl
      · obtain rfl : k = n := by omega
        go_wp2_with fail
        go_ret
        refine ⟨?_, HBW.out⟩
        have h := HT.out
        rw [List.take_of_length_le (by rw [← HN.out]; exact Nat.le_refl _), List.take_of_length_le (by rw [← HM.out]; exact Nat.le_refl _)] at h
        have hd : decide (a = b) = true := decide_eq_true h
        rw [hd]; rfl
  · have hz : ((n : Int) == (m : Int)) = false := by simp; omega
    have HNE : Hid (decide (a = b) = false) := hid (by
      rw [decide_eq_false_iff_not]
      intro h
      exact hnm (by rw [HN.out, HM.out, h]))
    clear hnm
    go_enter Tryz.func48, Tryz.ntmps48
    go_wp2_with fail
    go_ret
    rw [HNE.out]
    exact ⟨rfl, Below.refl _ _⟩
end Go.Proofs.YtpenleogafdbhaaGreatDoor

namespace Go.Proofs.YtpenleogafdbhaaGreatDoor
open Go.RowKit Go.Maps Go.ChangeMaps Go.WideElems Go.WideShapes Go.WideAt Go.WideMaps
/-- a disk of one's own -/
def DL (w0 w : World) (dp mb : Nat) (d : Dk) : Prop := ∃ L, DiskM w dp mb L d ∧ d.Ok ∧ Glb w ∧ Below w0.heap.size w0 w ∧ (∀ k, fpD dp mb L k → w0.heap.size ≤ k) ∧ 4 ≤ w0.heap.size
/-- a store of one's own, on a disk of one's own -/
def SL (w0 w : World) (sp dp mb vb : Nat) (V : Mi (Nat × Tab)) (s : St) (d : Dk) : Prop := ∃ tb L rv qv R, Env w sp dp mb tb vb L rv qv R V s d ∧ Below w0.heap.size w0 w ∧ (∀ k, foot sp dp mb tb vb L k → w0.heap.size ≤ k) ∧ 4 ≤ w0.heap.size
section
variable {w0 w w' : World} {sp dp mb vb : Nat} {V : Mi (Nat × Tab)} {s : St} {d : Dk}
theorem DL.below (h : DL w0 w dp mb d) (hb : Below w.heap.size w w') : DL w0 w' dp mb d := by
  obtain ⟨L, a, b, c, e, f, g⟩ := h
  exact ⟨L, a.below hb, b, c.below hb, below_step e hb, f, g⟩
theorem DL.bw (h : DL w0 w dp mb d) : Below w0.heap.size w0 w := by
  obtain ⟨L, -, -, -, h, -⟩ := h
  exact h
theorem SL.below (h : SL w0 w sp dp mb vb V s d) (hb : Below w.heap.size w w') : SL w0 w' sp dp mb vb V s d := by
  obtain ⟨tb, L, rv, qv, R, a, b, c⟩ := h
  exact ⟨tb, L, rv, qv, R, a.below hb, below_step b hb, c⟩
theorem SL.bw (h : SL w0 w sp dp mb vb V s d) : Below w0.heap.size w0 w := by
  obtain ⟨tb, L, rv, qv, R, -, h, -⟩ := h
  exact h
/-- a change of own blocks only -/
theorem chg_own {F : Fp} (hb : Below w0.heap.size w0 w) (hc : Chg F w w') (hF : ∀ k, F k → w0.heap.size ≤ k) : Below w0.heap.size w0 w' := hb.trans (hc.below hb.size hF)
theorem SL.does {tb : Nat} {L : Mp FileR} {rv qv : Value} {R : List (Nat × Tab)} {s' : St} {d' : Dk} (hb : Below w0.heap.size w0 w) (hF : ∀ k, foot sp dp mb tb vb L k → w0.heap.size ≤ k) (h4 : 4 ≤ w0.heap.size) (D : Does w w' sp dp mb tb vb L rv qv R V s' d') : SL w0 w' sp dp mb vb V s' d' := by
  obtain ⟨tb', L', rv', qv', R', D⟩ := D
  exact ⟨tb', L', rv', qv', R', D.env, chg_own hb D.chg hF, fun k hk => (D.new k hk).elim (hF k) fun h => Nat.le_trans hb.size h, h4⟩
/-- the disk alone -/
theorem SL.dl (h : SL w0 w sp dp mb vb V s d) : DL w0 w dp mb d := by
  obtain ⟨tb, L, rv, qv, R, E, b, c, h4⟩ := h
  exact ⟨L, E.dk, E.ok, E.g, b, fun k hk => c k (.inr hk), h4⟩
theorem sl_sync (h : SL w0 w sp dp mb vb V s d) : Calls Tryz.prog 20 #[.pointer (some ⟨sp, 0, none⟩)] w fun e w' => e = .returned (.int .i64 ((s.sync d).1 : Int)) ∧ SL w0 w' sp dp mb vb V (s.sync d).2.1 (s.sync d).2.2 := by
  obtain ⟨tb, L, rv, qv, R, E, b, c, h4⟩ := h
  refine (syncS_any E).mono ?_
  rintro e w' ⟨rfl, D⟩
  exact ⟨rfl, SL.does b c h4 D⟩
theorem sl_apply (h : SL w0 w sp dp mb vb V s d) (v : Value) (l : List Ch) (hv : IsCh w v l) (hvb : ∀ k, v.ownBlock = some k → ∃ cs, w.heap[k]? = some (.cells cs 39)) (h64 : s.mem.length + l.length ≤ 64) :
    Calls Tryz.prog 19 #[.pointer (some ⟨sp, 0, none⟩), v] w fun e w' => e = .returned (.int .i64 ((s.apply d l).1 : Int)) ∧ SL w0 w' sp dp mb vb V (s.apply d l).2.1 (s.apply d l).2.2 := by
  obtain ⟨tb, L, rv, qv, R, E, b, c, h4⟩ := h
  refine (apply64_any E v l hv (fun k hk => ?_) h64).mono ?_
  · obtain ⟨cs, hcs⟩ := hvb k hk
    refine ⟨heap_lt hcs, ?_⟩
    rintro (hf | hf)
    · rcases E.st.kinds k (.inl hf) with ⟨cs', t, e, ht⟩ | ⟨⟨es, cl, e⟩, -⟩
      · rw [hcs] at e
        injection e with e
        injection e with _ e
        subst e
        rcases ht with ⟨h, -⟩ | h | h <;> exact absurd h (by decide)
      · rw [hcs] at e
        cases e
    · rcases E.dk.kinds k hf with ⟨cs', t, e, ht⟩ | ⟨⟨es, cl, e⟩, -⟩
      · rw [hcs] at e
        injection e with e
        injection e with _ e
        subst e
        rcases ht with h | h | h <;> exact absurd h (by decide)
      · rw [hcs] at e
        cases e
  · rintro e w' ⟨rfl, D⟩
    exact ⟨rfl, SL.does b c h4 D⟩
theorem sl_get (h : SL w0 w sp dp mb vb V s d) (v : Int) (hv : (Lit.int .i64 v).wf = true) (k : Bs) (hk : k.length ≤ 1000000) :
    Calls Tryz.prog 22 #[.pointer (some ⟨sp, 0, none⟩), .int .i64 v, .string (str k)] w fun e w' => e = .returned (.tuple #[.string (str (s.get v k).1), .int .i64 ((s.get v k).2 : Int)]) ∧ SL w0 w' sp dp mb vb V s d := by
  obtain ⟨tb, L, rv, qv, R, E, b, c, h4⟩ := h
  refine (getS_any E.st E.sm v hv k hk).mono ?_
  rintro e w' ⟨rfl, hb⟩
  exact ⟨rfl, tb, L, rv, qv, R, E.below hb, below_step b hb, c, h4⟩
theorem sl_scan (h : SL w0 w sp dp mb vb V s d) (hw : ∀ p ∈ V, p.2.2.length ≤ 100000) (v : Int) (hv : (Lit.int .i64 v).wf = true) (x y : Bs) (hx : x.length ≤ 1000000) (hy : y.length ≤ 1000000) :
    Calls Tryz.prog 23 #[.pointer (some ⟨sp, 0, none⟩), .int .i64 v, .string (str x), .string (str y)] w fun e w' => ∃ v', e = .returned (.tuple #[v', .int .i64 ((s.scan v x y).2 : Int)]) ∧ OwnE w' w.heap.size v' (s.scan v x y).1 ∧ SL w0 w' sp dp mb vb V s d := by
  obtain ⟨tb, L, rv, qv, R, E, b, c, h4⟩ := h
  refine (scan_any E.st E.sm hw v hv x y hx hy).mono ?_
  rintro e w' ⟨v', rfl, ho, hb⟩
  exact ⟨v', rfl, ho, tb, L, rv, qv, R, E.below hb, below_step b hb, c, h4⟩
theorem sl_view (h : SL w0 w sp dp mb vb V s d) (hr : s.ready d = true) (h8 : V.length < 8) (hnx : s.next < 1000000) (hv : ∀ p ∈ V, p.1 < (s.next : Int)) :
    Calls Tryz.prog 46 #[.pointer (some ⟨sp, 0, none⟩)] w fun e w' => e = .returned (.tuple #[.int .i64 (s.next : Int), .int .i64 0]) ∧ ∃ ob, SL w0 w' sp dp mb vb (V ++ [((s.next : Int), ob, s.all)]) { s with views := s.views ++ [((s.next : Int), s.all)], next := s.next + 1 } d := by
  obtain ⟨tb, L, rv, qv, R, E, b, c, h4⟩ := h
  refine (view_ok E.st E.sm E.dk hr h8 hnx hv).mono ?_
  rintro e w' ⟨rfl, ob, hob, hst, hc⟩
  have hcf : Chg (fpS sp tb vb) w w' := hc.mono fun k e => e.elim .inl fun e => .inr (.inr e)
  have hcf2 : Chg (foot sp dp mb tb vb L) w w' := hcf.mono fun k e => .inl e
  refine ⟨rfl, ob, tb, L, rv, qv, R, ⟨hst, E.dk.store E.st E.sd hcf, ⟨E.sd.t, E.sd.v, E.sd.r, fun p hp => ?_⟩, E.ok, E.g.chg hcf2 E.lo, E.lo, ⟨E.sm.mem, E.sm.run, E.sm.runs⟩, ⟨E.num.log, E.num.next, E.num.runs⟩⟩, chg_own b hcf2 c, c, h4⟩
  rcases List.mem_append.1 hp with hp | hp
  · exact E.sd.w p hp
  · obtain rfl := List.mem_singleton.1 hp
    have := E.dk.lt mb (.inr (.inl rfl))
    show mb ≠ ob
    omega
theorem dl_new (hG : Glb w0) (w : World) (hb : Below w0.heap.size w0 w) (h4 : 4 ≤ w0.heap.size) : Calls Tryz.prog 15 #[] w fun e w' => ∃ dp mb, e = .returned (.pointer (some ⟨dp, 0, none⟩)) ∧ DL w0 w' dp mb Dk.new ∧ w.heap.size ≤ dp := by
  refine (newDisk_any w).mono ?_
  rintro e w' ⟨dp, mb, rfl, hd, hb2, h1, h2⟩
  refine ⟨dp, mb, rfl, ⟨[], hd, ⟨srt_nil, by decide, by decide, by decide, by decide, fun p hp => (by cases hp), fun p hp => (by cases hp)⟩, (hG.below hb).below hb2, below_step hb hb2, ?_, h4⟩, h1⟩
  rintro k (rfl | rfl | ⟨p, hp, -⟩)
  · exact Nat.le_trans hb.size h1
  · exact Nat.le_trans hb.size h2
  · cases hp
theorem dl_arm (h : DL w0 w dp mb d) (n : Int) (hn : n < 9223372036854775808) : Calls Tryz.prog 17 #[.pointer (some ⟨dp, 0, none⟩), .int .i64 n] w fun e w' => e = .returned (.tuple #[]) ∧ DL w0 w' dp mb (d.arm n) := by
  obtain ⟨L, hd, ok, hG, hb, hF, h4⟩ := h
  refine (arm_any dp mb L d n w hd).mono ?_
  rintro e w' ⟨rfl, hd', hc⟩
  have hcF : Chg (fpD dp mb L) w w' := hc.mono fun k e => .inl e
  refine ⟨rfl, L, hd', ⟨ok.srt, ok.few, ok.size, ?_, ok.opened, ok.safe, ok.name⟩, hG.chg hcF fun k hk => Nat.le_trans h4 (hF k hk), chg_own hb hcF hF, hF, h4⟩
  show n.toNat < _
  omega
theorem dl_restart (h : DL w0 w dp mb d) (ho : d.opened + 1 < 1000000000) (keep : Int) : Calls Tryz.prog 21 #[.pointer (some ⟨dp, 0, none⟩), .int .i64 keep] w fun e w' => e = .returned (.tuple #[]) ∧ DL w0 w' dp mb (d.restart keep) := by
  obtain ⟨L, hd, ok, hG, hb, hF, h4⟩ := h
  refine (restart_any dp mb L d keep w hd ok).mono ?_
  rintro e w' ⟨rfl, hd', hc⟩
  refine ⟨rfl, _, hd', restart_ok ok ho keep, hG.chg hc fun k hk => Nat.le_trans h4 (hF k hk), chg_own hb hc hF, ?_, h4⟩
  rintro k (rfl | rfl | ⟨p, hp, hk⟩)
  · exact hF _ (.inl rfl)
  · exact hF _ (.inr (.inl rfl))
  · obtain ⟨x, hx, e⟩ := mem_mmap.1 (show (p.1, p.2) ∈ _ from hp)
    rw [← e, cut_own] at hk
    exact hF k (.inr (.inr ⟨(p.1, x), hx, hk⟩))
theorem dl_down (h : DL w0 w dp mb d) : Calls Tryz.prog 25 #[.pointer (some ⟨dp, 0, none⟩)] w fun e w' => e = .returned (.bool d.down) ∧ w' = w := by
  obtain ⟨L, hd, -⟩ := h
  exact down_any dp mb L d w hd
theorem dl_open0 (h : DL w0 w dp mb d) (up : d.down = false) (ho : d.opened + 1 < 1000000000) (gs : List (List Ch)) (hn : ∀ x ∈ d.names, x = nLog 0) (hlog : d.bytes (nLog 0) = logOf gs)
    (hg : ∀ g ∈ gs, g ≠ [] ∧ g.length ≤ 1000 ∧ ∀ c ∈ g, okCh c) (hgn : gs.flatten.length ≤ 2000) (h0 : ((opn0 d gs).sync d.op).1 = 0) :
    Calls Tryz.prog 16 #[.pointer (some ⟨dp, 0, none⟩)] w fun e w' => ∃ sp vb, e = .returned (.tuple #[.pointer (some ⟨sp, 0, none⟩), .int .i64 0]) ∧ SL w0 w' sp dp mb vb [] ((opn0 d gs).sync d.op).2.1 ((opn0 d gs).sync d.op).2.2 := by
  obtain ⟨L, hd, ok, hG, hb, hF, h4⟩ := h
  refine (open0_any hd ok hG (fun k hk => Nat.le_trans h4 (hF k hk)) up ho gs hn hlog hg hgn).mono ?_
  rintro e w' ⟨sp, rfl, tb, vb, L', rv, qv, R, E, hc, hf, -⟩
  rw [if_pos h0, h0]
  exact ⟨sp, vb, rfl, tb, L', rv, qv, R, E, chg_own hb hc hF, fun k hk => (hf k hk).elim (hF k) fun h => Nat.le_trans hb.size h, h4⟩
end
end Go.Proofs.YtpenleogafdbhaaGreatDoor

namespace Go.Proofs.YtpenleogafdbhaaGreatDoor
def gA : List Ch := [⟨[97], [49], false⟩, ⟨[98], [50], false⟩]
def gB : List Ch := [⟨[97], [], true⟩]
def q1 : Nat × St × Dk := (opn0 Dk.new []).sync Dk.new.op
def q2 : Nat × St × Dk := q1.2.1.apply q1.2.2 gA
def s3 : St := { q2.2.1 with views := q2.2.1.views ++ [((q2.2.1.next : Int), q2.2.1.all)], next := q2.2.1.next + 1 }
def q4 : Nat × St × Dk := s3.apply q2.2.2 gB
def q5 : Nat × St × Dk := q4.2.1.sync q4.2.2
def d6 : Dk := q5.2.2.restart 0
def q7 : Nat × St × Dk := (opn0 d6 [gA, gB]).sync d6.op
theorem q1_0 : q1.1 = 0 := by kernel_rfl
theorem q2_0 : q2.1 = 0 := by kernel_rfl
theorem q2_m : q1.2.1.mem.length = 0 := by kernel_rfl
theorem q2_r : q2.2.1.ready q2.2.2 = true := by kernel_rfl
theorem q2_n : q2.2.1.next = 0 := by kernel_rfl
theorem q4_m : s3.mem.length = 2 := by kernel_rfl
theorem q4_0 : q4.1 = 0 := by kernel_rfl
theorem q5_0 : q5.1 = 0 := by kernel_rfl
theorem get_a : q5.2.1.get (-1) [97] = ([], 5) := by kernel_rfl
theorem get_b : q5.2.1.get 0 [97] = ([49], 0) := by kernel_rfl
theorem d6_names : d6.names = [nLog 0] := by kernel_rfl
theorem d6_bytes : d6.bytes (nLog 0) = logOf [gA, gB] := by kernel_rfl
theorem d6_up : d6.down = false := by kernel_rfl
theorem d6_op : d6.opened = 2 := by kernel_rfl
theorem d5_op : q5.2.2.opened = 1 := by kernel_rfl
theorem q7_0 : q7.1 = 0 := by kernel_rfl
theorem scan_b : q7.2.1.scan (-1) [] [] = ([([98], [50])], 0) := by kernel_rfl
end Go.Proofs.YtpenleogafdbhaaGreatDoor

namespace Go.Proofs.YtpenleogafdbhaaGreatDoor
open Go.RowKit Go.Maps Go.ChangeMaps Go.WideElems Go.WideShapes Go.WideAt Go.WideMaps
theorem cell_of {W : World} {g i : Nat} {cs : Array Value} {t : TypeId} (h : W.heap[g]? = some (.cells cs t)) : W.cell? ⟨g, i, none⟩ = cs[i]? := by simp [World.cell?, h]
theorem isCh_lit1 (w : World) (k v : ByteArray) (d : Bool) (hk : k.data.toList.length ≤ 1000) (hv : v.data.toList.length ≤ 1000) : IsCh (w.alloc (.cells #[.string k, .string v, .bool d] 39)) (.slice (some ⟨w.heap.size, 0, none⟩) 1 1) [⟨k.data.toList, v.data.toList, d⟩] := by
  obtain ⟨c0, c1, c2⟩ := cells3_of (heap_alloc_new w (.cells #[.string k, .string v, .bool d] 39))
  refine ⟨_, 1, rfl, show 1 ≤ 1000000 by decide, fun x hx => ?_, fun i x hx => ?_⟩
  · obtain rfl := List.mem_singleton.1 hx
    exact ⟨hk, hv⟩
  · match i with
    | 0 =>
      obtain rfl : _ = x := by simpa using hx
      exact ⟨_, rfl, c0, c1, c2⟩
    | n + 1 => simp at hx
theorem isCh_lit2 (w : World) (k v k2 v2 : ByteArray) (d d2 : Bool) (hk : k.data.toList.length ≤ 1000) (hv : v.data.toList.length ≤ 1000) (hk2 : k2.data.toList.length ≤ 1000) (hv2 : v2.data.toList.length ≤ 1000) :
    IsCh (w.alloc (.cells #[.string k, .string v, .bool d, .string k2, .string v2, .bool d2] 39)) (.slice (some ⟨w.heap.size, 0, none⟩) 2 2) [⟨k.data.toList, v.data.toList, d⟩, ⟨k2.data.toList, v2.data.toList, d2⟩] := by
  have h := heap_alloc_new w (.cells #[.string k, .string v, .bool d, .string k2, .string v2, .bool d2] 39)
  refine ⟨_, 2, rfl, show 2 ≤ 1000000 by decide, fun x hx => ?_, fun i x hx => ?_⟩
  · rcases List.mem_cons.1 hx with rfl | hx
    · exact ⟨hk, hv⟩
    · obtain rfl := List.mem_singleton.1 hx
      exact ⟨hk2, hv2⟩
  · match i with
    | 0 =>
      obtain rfl : _ = x := by simpa using hx
      exact ⟨_, rfl, (cell_of h).trans rfl, (cell_of h).trans rfl, (cell_of h).trans rfl⟩
    | 1 =>
      obtain rfl : _ = x := by simpa using hx
      exact ⟨_, rfl, (cell_of h).trans rfl, (cell_of h).trans rfl, (cell_of h).trans rfl⟩
    | n + 2 => simp at hx
theorem isE_lit1 (w : World) (k v : ByteArray) : IsE (w.alloc (.cells #[.string k, .string v] 145)) (.slice (some ⟨w.heap.size, 0, none⟩) 1 1) [(k.data.toList, v.data.toList)] := by
  obtain ⟨c0, c1⟩ := cells2_of (heap_alloc_new w (.cells #[.string k, .string v] 145))
  refine ⟨_, 1, rfl, show 1 ≤ 1000000 by decide, fun i x hx => ?_⟩
  match i with
  | 0 =>
    obtain rfl : _ = x := by simpa using hx
    exact ⟨_, rfl, c0, c1⟩
  | n + 1 => simp at hx
section
variable {w0 w : World} {sp dp mb vb : Nat} {V : Mi (Nat × Tab)} {s : St} {d : Dk}
theorem liv_n (w : World) (hG : Glb w) : Calls Tryz.prog 15 #[] w fun e w' => ∃ dp mb, e = .returned (.pointer (some ⟨dp, 0, none⟩)) ∧ DL w w' dp mb Dk.new := by
  refine (dl_new hG w (Below.refl _ _) hG.size).mono ?_
  rintro e w' ⟨dp, mb, rfl, h, -⟩
  exact ⟨dp, mb, rfl, h⟩
theorem liv_1 (h : DL w0 w dp mb Dk.new) : Calls Tryz.prog 16 #[.pointer (some ⟨dp, 0, none⟩)] w fun e w' => ∃ sp vb, e = .returned (.tuple #[.pointer (some ⟨sp, 0, none⟩), .int .i64 0]) ∧ SL w0 w' sp dp mb vb [] q1.2.1 q1.2.2 :=
  dl_open0 h rfl (by decide) [] (fun x hx => by cases hx) rfl (fun g hg => by cases hg) (by decide) q1_0
theorem liv_a (h : SL w0 w sp dp mb vb V q1.2.1 q1.2.2) : Calls Tryz.prog 19 #[.pointer (some ⟨sp, 0, none⟩), .slice (some ⟨w.heap.size, 0, none⟩) 2 2] (w.alloc (.cells #[.string ⟨#[97]⟩, .string ⟨#[49]⟩, .bool false, .string ⟨#[98]⟩, .string ⟨#[50]⟩, .bool false] 39)) fun e w' => e = .returned (.int .i64 0) ∧ SL w0 w' sp dp mb vb V q2.2.1 q2.2.2 := by
  have h1 := sl_apply (h.below (ba w _)) _ gA (isCh_lit2 w ⟨#[97]⟩ ⟨#[49]⟩ ⟨#[98]⟩ ⟨#[50]⟩ false false (by decide) (by decide) (by decide) (by decide)) (fun k hk => by cases hk; exact ⟨_, heap_alloc_new w _⟩) (by rw [q2_m]; decide)
  refine h1.mono ?_
  rintro e w' ⟨rfl, h2⟩
  exact ⟨by rw [show (q1.2.1.apply q1.2.2 gA).1 = 0 from q2_0]; rfl, h2⟩
theorem liv_v (h : SL w0 w sp dp mb vb [] q2.2.1 q2.2.2) : Calls Tryz.prog 46 #[.pointer (some ⟨sp, 0, none⟩)] w fun e w' => e = .returned (.tuple #[.int .i64 0, .int .i64 0]) ∧ ∃ ob, SL w0 w' sp dp mb vb [((q2.2.1.next : Int), ob, q2.2.1.all)] s3 q2.2.2 := by
  refine (sl_view h q2_r (by decide) (by rw [q2_n]; decide) (fun p hp => by cases hp)).mono ?_
  rintro e w' ⟨rfl, ob, h2⟩
  exact ⟨by rw [q2_n]; rfl, ob, h2⟩
theorem liv_b (h : SL w0 w sp dp mb vb V s3 q2.2.2) : Calls Tryz.prog 19 #[.pointer (some ⟨sp, 0, none⟩), .slice (some ⟨w.heap.size, 0, none⟩) 1 1] (w.alloc (.cells #[.string ⟨#[97]⟩, .string ⟨#[]⟩, .bool true] 39)) fun e w' => e = .returned (.int .i64 0) ∧ SL w0 w' sp dp mb vb V q4.2.1 q4.2.2 := by
  have h1 := sl_apply (h.below (ba w _)) _ gB (isCh_lit1 w ⟨#[97]⟩ ⟨#[]⟩ true (by decide) (by decide)) (fun k hk => by cases hk; exact ⟨_, heap_alloc_new w _⟩) (by rw [q4_m]; decide)
  refine h1.mono ?_
  rintro e w' ⟨rfl, h2⟩
  exact ⟨by rw [show (s3.apply q2.2.2 gB).1 = 0 from q4_0]; rfl, h2⟩
theorem liv_s (h : SL w0 w sp dp mb vb V q4.2.1 q4.2.2) : Calls Tryz.prog 20 #[.pointer (some ⟨sp, 0, none⟩)] w fun e w' => e = .returned (.int .i64 0) ∧ SL w0 w' sp dp mb vb V q5.2.1 q5.2.2 := by
  refine (sl_sync h).mono ?_
  rintro e w' ⟨rfl, h2⟩
  exact ⟨by rw [show (q4.2.1.sync q4.2.2).1 = 0 from q5_0]; rfl, h2⟩
theorem liv_g1 (h : SL w0 w sp dp mb vb V q5.2.1 q5.2.2) : Calls Tryz.prog 22 #[.pointer (some ⟨sp, 0, none⟩), .int .i64 (-1), .string ⟨#[97]⟩] w fun e w' => e = .returned (.tuple #[.string ⟨#[]⟩, .int .i64 5]) ∧ SL w0 w' sp dp mb vb V q5.2.1 q5.2.2 := by
  refine (sl_get h (-1) (by decide) [97] (by decide)).mono ?_
  rintro e w' ⟨rfl, h2⟩
  exact ⟨by rw [get_a]; rfl, h2⟩
theorem liv_g2 (h : SL w0 w sp dp mb vb V q5.2.1 q5.2.2) : Calls Tryz.prog 22 #[.pointer (some ⟨sp, 0, none⟩), .int .i64 0, .string ⟨#[97]⟩] w fun e w' => e = .returned (.tuple #[.string ⟨#[49]⟩, .int .i64 0]) ∧ SL w0 w' sp dp mb vb V q5.2.1 q5.2.2 := by
  refine (sl_get h 0 (by decide) [97] (by decide)).mono ?_
  rintro e w' ⟨rfl, h2⟩
  exact ⟨by rw [get_b]; rfl, h2⟩
theorem liv_r (h : DL w0 w dp mb q5.2.2) : Calls Tryz.prog 21 #[.pointer (some ⟨dp, 0, none⟩), .int .i64 0] w fun e w' => e = .returned (.tuple #[]) ∧ DL w0 w' dp mb d6 := dl_restart h (by rw [d5_op]; decide) 0
theorem liv_2 (h : DL w0 w dp mb d6) : Calls Tryz.prog 16 #[.pointer (some ⟨dp, 0, none⟩)] w fun e w' => ∃ sp vb, e = .returned (.tuple #[.pointer (some ⟨sp, 0, none⟩), .int .i64 0]) ∧ SL w0 w' sp dp mb vb [] q7.2.1 q7.2.2 :=
  dl_open0 h d6_up (by rw [d6_op]; decide) [gA, gB] (fun x hx => by rw [d6_names] at hx; exact List.mem_singleton.1 hx) d6_bytes (by
    intro g hg
    rcases List.mem_cons.1 hg with rfl | hg
    · refine ⟨by decide, by decide, fun c hc => ?_⟩
      rcases List.mem_cons.1 hc with rfl | hc
      · exact ⟨by decide, by decide, fun h => by cases h⟩
      · obtain rfl := List.mem_singleton.1 hc
        exact ⟨by decide, by decide, fun h => by cases h⟩
    · obtain rfl := List.mem_singleton.1 hg
      refine ⟨by decide, by decide, fun c hc => ?_⟩
      obtain rfl := List.mem_singleton.1 hc
      exact ⟨by decide, by decide, fun _ => rfl⟩) (by decide) q7_0
theorem liv_c (h : SL w0 w sp dp mb vb [] q7.2.1 q7.2.2) : Calls Tryz.prog 23 #[.pointer (some ⟨sp, 0, none⟩), .int .i64 (-1), .string ⟨#[]⟩, .string ⟨#[]⟩] w fun e w' => ∃ v', e = .returned (.tuple #[v', .int .i64 0]) ∧ IsE w' v' [([98], [50])] ∧ SL w0 w' sp dp mb vb [] q7.2.1 q7.2.2 := by
  refine (sl_scan h (fun p hp => by cases hp) (-1) (by decide) [] [] (by decide) (by decide)).mono ?_
  rintro e w' ⟨v', rfl, ho, h2⟩
  rw [scan_b] at ho ⊢
  exact ⟨v', rfl, isE_own ho (by decide), h2⟩
end
set_option maxRecDepth 100000 in
set_option maxHeartbeats 8000000 in
theorem lives_any (w : World) (hG : Glb w) : Calls Tryz.prog 24 #[] w fun e w' => e = .returned (.bool true) ∧ Below w.heap.size w w' := by
  have HN := hid (liv_n w hG)
  clear hG
  go_enter Tryz.func24, Tryz.ntmps24
  go_upto_region 3 with (first
    | (go_at_call 15; refine HN.out.mono ?_; rintro e w1 ⟨dp, mb, rfl, h1⟩; have H1 := hid (liv_1 h1); clear h1)
    | (go_at_call 16; refine H1.out.mono ?_; rintro e w2 ⟨sp, vb, rfl, h2⟩; have H2 := hid (liv_a h2); clear h2 H1 HN)
    | fail)
  go_upto_region 6 with (first
    | (go_at_call 19; refine H2.out.mono ?_; rintro e w3 ⟨rfl, h3⟩; have H3 := hid (liv_v h3); clear h3 H2)
    | (go_at_call 46; refine H3.out.mono ?_; rintro e w4 ⟨rfl, ob, h4⟩; have H4 := hid (liv_b h4); clear h4 H3)
    | fail)
  go_upto_region 11 with (first
    | (go_at_call 19; refine H4.out.mono ?_; rintro e w5 ⟨rfl, h5⟩; have H5 := hid (liv_s h5); clear h5 H4)
    | (go_at_call 20; refine H5.out.mono ?_; rintro e w6 ⟨rfl, h6⟩; have H6 := hid (liv_g1 h6); clear h6 H5)
    | (go_at_call 22; refine H6.out.mono ?_; rintro e w7 ⟨rfl, h7⟩; have H7 := hid (liv_g2 h7); clear h7 H6)
    | (go_at_call 22; refine H7.out.mono ?_; rintro e w8 ⟨rfl, h8⟩; have H8 := hid (liv_r h8.dl); clear h8 H7)
    | (go_at_call 21; refine H8.out.mono ?_; rintro e w9 ⟨rfl, h9⟩; have H9 := hid (liv_2 h9); clear h9 H8)
    | fail)
  go_wp2_with (first
    | (go_at_call 16; refine H9.out.mono ?_; rintro e w10 ⟨sp2, vb2, rfl, h10⟩; have H10 := hid (liv_c h10); clear h10 H9)
    | (go_at_call 23; refine H10.out.mono ?_; rintro e w11 ⟨v11, rfl, he, h11⟩; have HSM := hid (same_any v11 _ _ _ (w11.alloc (.cells #[.string ⟨#[98]⟩, .string ⟨#[50]⟩] 145)) (he.below (ba w11 _)) (isE_lit1 w11 ⟨#[98]⟩ ⟨#[50]⟩)); have HBW := hid (below_step h11.bw (ba w11 (.cells #[.string ⟨#[98]⟩, .string ⟨#[50]⟩] 145))); clear he h11 H10)
    | (go_at_call 48; refine HSM.out.mono ?_; rintro e w12 ⟨rfl, hb⟩; have HB := hid (below_step HBW.out hb); clear hb)
    | fail)
  go_ret
  exact ⟨rfl, HB.out⟩
end Go.Proofs.YtpenleogafdbhaaGreatDoor

namespace Go.Proofs.YtpenleogafdbhaaGreatDoor
open Go.RowKit Go.Maps Go.ChangeMaps Go.WideElems Go.WideShapes Go.WideAt Go.WideMaps
section
variable {w0 w w' : World} {sp dp mb vb : Nat} {V : Mi (Nat × Tab)} {s : St} {d : Dk}
theorem sl_arm (h : SL w0 w sp dp mb vb V s d) (n : Int) (hn : n < 9223372036854775808) : Calls Tryz.prog 17 #[.pointer (some ⟨dp, 0, none⟩), .int .i64 n] w fun e w' => e = .returned (.tuple #[]) ∧ SL w0 w' sp dp mb vb V s (d.arm n) := by
  obtain ⟨tb, L, rv, qv, R, E, b, c, h4⟩ := h
  refine (arm_any dp mb L d n w E.dk).mono ?_
  rintro e w' ⟨rfl, hd', hc⟩
  have hcF : Chg (fpD dp mb L) w w' := hc.mono fun k e => .inl e
  have hcf2 : Chg (foot sp dp mb tb vb L) w w' := hcF.mono fun k e => .inr e
  refine ⟨rfl, tb, L, rv, qv, R, ⟨E.st.disk E.dk E.sd hcF, hd', E.sd, ⟨E.ok.srt, E.ok.few, E.ok.size, ?_, E.ok.opened, E.ok.safe, E.ok.name⟩, E.g.chg hcf2 E.lo, E.lo, E.sm, E.num⟩, chg_own b hcf2 c, c, h4⟩
  show n.toNat < _
  omega
theorem sl_down (h : SL w0 w sp dp mb vb V s d) : Calls Tryz.prog 25 #[.pointer (some ⟨dp, 0, none⟩)] w fun e w' => e = .returned (.bool d.down) ∧ w' = w := dl_down h.dl
theorem sl_broken (h : SL w0 w sp dp mb vb V s d) : Calls Tryz.prog 26 #[.pointer (some ⟨sp, 0, none⟩)] w fun e w' => e = .returned (.bool s.broken) ∧ w' = w := by
  obtain ⟨tb, L, rv, qv, R, E, b, c, h4⟩ := h
  obtain ⟨e0, e1, e2, -⟩ := stc_of E.st.cells
  exact broken_any e0 e2
theorem sl_disk (h : SL w0 w sp dp mb vb V s d) : Calls Tryz.prog 27 #[.pointer (some ⟨sp, 0, none⟩)] w fun e w' => e = .returned (.pointer (some ⟨dp, 0, none⟩)) ∧ w' = w := by
  obtain ⟨tb, L, rv, qv, R, E, b, c, h4⟩ := h
  obtain ⟨e0, e1, e2, -⟩ := stc_of E.st.cells
  exact disk_any e0
end
/-- the store that is opened on a new disk -/
def sN : St := ⟨1, false, ⟨0, [], 1⟩, [], [], [], 0⟩
def gK : List Ch := [⟨[107], [118], false⟩]
theorem open_arm (n : Int) : (opn0 (Dk.new.arm n) []).sync (Dk.new.arm n).op = (0, sN, (Dk.new.arm n).op) := rfl
theorem apply_gk : (sN.apply ⟨[], false, 0, 1⟩ gK).1 = 0 := by kernel_rfl
theorem scan_n : sN.scan (-1) [] [] = ([], 0) := rfl
section
variable {w0 w w' : World} {sp dp mb vb : Nat} {V : Mi (Nat × Tab)}
theorem opn_1 (n : Int) (h : DL w0 w dp mb (Dk.new.arm n)) : Calls Tryz.prog 16 #[.pointer (some ⟨dp, 0, none⟩)] w fun e w' => ∃ sp vb, e = .returned (.tuple #[.pointer (some ⟨sp, 0, none⟩), .int .i64 0]) ∧ SL w0 w' sp dp mb vb [] sN (Dk.new.arm n).op := by
  have h1 := dl_open0 h rfl (show 1 < 1000000000 by decide) [] (fun x hx => by cases hx) rfl (fun g hg => by cases hg) (by decide) (by rw [open_arm])
  rw [open_arm] at h1
  exact h1
theorem opn_s (n : Int) (h : SL w0 w sp dp mb vb [] sN ((Dk.new.arm n).op.arm 0)) : Calls Tryz.prog 23 #[.pointer (some ⟨sp, 0, none⟩), .int .i64 (-1), .string ⟨#[]⟩, .string ⟨#[]⟩] w fun e w' => ∃ a c, e = .returned (.tuple #[.slice a 0 c, .int .i64 0]) ∧ SL w0 w' sp dp mb vb [] sN ⟨[], false, 0, 1⟩ := by
  refine (sl_scan h (fun p hp => by cases hp) (-1) (by decide) [] [] (by decide) (by decide)).mono ?_
  rintro e w' ⟨v', rfl, ho, h2⟩
  rw [scan_n] at ho ⊢
  obtain ⟨a, c, rfl⟩ := ownS_sh ho
  exact ⟨a, c, rfl, h2⟩
theorem opn_a (h : SL w0 w sp dp mb vb V sN ⟨[], false, 0, 1⟩) : Calls Tryz.prog 19 #[.pointer (some ⟨sp, 0, none⟩), .slice (some ⟨w.heap.size, 0, none⟩) 1 1] (w.alloc (.cells #[.string ⟨#[107]⟩, .string ⟨#[118]⟩, .bool false] 39)) fun e w' => e = .returned (.int .i64 0) ∧ Below w0.heap.size w0 w' := by
  have h1 := sl_apply (h.below (ba w _)) _ gK (isCh_lit1 w ⟨#[107]⟩ ⟨#[118]⟩ false (by decide) (by decide)) (fun k hk => by cases hk; exact ⟨_, heap_alloc_new w _⟩) (by decide)
  refine h1.mono ?_
  rintro e w' ⟨rfl, h2⟩
  exact ⟨by rw [apply_gk]; rfl, h2.bw⟩
end
end Go.Proofs.YtpenleogafdbhaaGreatDoor

namespace Go.Proofs.YtpenleogafdbhaaGreatDoor
open Go.RowKit Go.Maps Go.ChangeMaps Go.WideElems Go.WideShapes Go.WideAt Go.WideMaps
/-- a disk that nobody made -/
def NoD (w : World) (v : Value) : Prop := v = .pointer none ∨ ∃ b, v = .pointer (some ⟨b, 0, none⟩) ∧ w.heap[b]? = some (.cells #[.bool false, .map none, .bool false, .int .i64 0, .int .i64 0] 51)
theorem NoD.below {w w' : World} {v : Value} (h : NoD w v) (hb : Below w.heap.size w w') : NoD w' v := h.imp id fun ⟨b, e, hc⟩ => ⟨b, e, (hb.block b (heap_lt hc)).trans hc⟩
/-- a store that nobody made -/
def NoS (w : World) (v : Value) : Prop := v = .pointer none ∨ ∃ b cs, v = .pointer (some ⟨b, 0, none⟩) ∧ w.heap[b]? = some (.cells cs 109) ∧ cs[0]? = some (.pointer none)
theorem NoS.below {w w' : World} {v : Value} (h : NoS w v) (hb : Below w.heap.size w w') : NoS w' v := h.imp id fun ⟨b, cs, e, hc, h0⟩ => ⟨b, cs, e, (hb.block b (heap_lt hc)).trans hc, h0⟩
theorem is_no {w : World} {v : Value} (h : NoD w v) : Calls Tryz.prog 62 #[v] w fun e w' => e = .returned (.bool false) ∧ w' = w := by
  rcases h with rfl | ⟨b, rfl, hc⟩
  · exact is_nil w
  · exact is_b b false w (cells5_of hc).1
theorem made_no {w : World} {v : Value} (h : NoS w v) : Calls Tryz.prog 83 #[v] w fun e w' => e = .returned (.bool false) ∧ w' = w := by
  rcases h with rfl | ⟨b, cs, rfl, hc, h0⟩
  · exact made_nil w
  · exact made_zero (by simp only [World.cell?, hc]; exact h0)
set_option maxRecDepth 100000 in
set_option maxHeartbeats 4000000 in
theorem ready_no {w : World} {v : Value} (h : NoD w v) (a : Option Addr) (n c : Nat) : Calls Tryz.prog 87 #[v, .slice a n c] w fun e w' => e = .returned (.int .i64 6) ∧ Below w.heap.size w w' := by
  have HC : Hid (∀ w', Below w.heap.size w w' → Calls Tryz.prog 62 #[v] w' fun e w2 => e = .returned (.bool false) ∧ w2 = w') := hid fun w' hb => is_no (h.below hb)
  have HB0 : Hid (Below w.heap.size w w) := hid (Below.refl _ _)
  have HBA : Hid (∀ o, Below w.heap.size w (w.alloc o)) := hid fun o => ba w o
  clear h
  go_enter Tryz.func87, Tryz.ntmps87
  go_wp2_with (first
    | (go_at_call 62; refine (HC.out _ HB0.out).mono ?_; rintro e w1 ⟨rfl, hw⟩; obtain rfl := hw.symm; clear hw)
    | (go_at_call 62; refine (HC.out _ (HBA.out _)).mono ?_; rintro e w1 ⟨rfl, hw⟩; obtain rfl := hw.symm; clear hw)
    | fail)
  go_ret
  exact ⟨rfl, by first | exact HB0.out | exact HBA.out _⟩
set_option maxRecDepth 100000 in
set_option maxHeartbeats 4000000 in
theorem append_no {w : World} {v : Value} (h : NoD w v) (s : ByteArray) (a : Option Addr) (n c : Nat) : Calls Tryz.prog 38 #[v, .string s, .slice a n c] w fun e w' => e = .returned (.int .i64 6) ∧ Below w.heap.size w w' := by
  have HC : Hid (∀ o a n c, Calls Tryz.prog 87 #[v, .slice a n c] (w.alloc o) fun e w2 => e = .returned (.int .i64 6) ∧ Below (w.alloc o).heap.size (w.alloc o) w2) := hid fun o a n c => ready_no (h.below (ba w o)) a n c
  have HBA : Hid (∀ o, Below w.heap.size w (w.alloc o)) := hid fun o => ba w o
  clear h
  go_enter Tryz.func38, Tryz.ntmps38
  go_wp2_with (first
    | (go_at_call 87; refine (HC.out _ _ _ _).mono ?_; rintro e w1 ⟨rfl, hb⟩; have HB1 := hid (below_step (HBA.out _) hb); clear hb)
    | fail)
  go_ret
  exact ⟨rfl, HB1.out⟩
set_option maxRecDepth 100000 in
set_option maxHeartbeats 4000000 in
theorem sync_no {w : World} {v : Value} (h : NoD w v) (s : ByteArray) : Calls Tryz.prog 29 #[v, .string s] w fun e w' => e = .returned (.int .i64 6) ∧ Below w.heap.size w w' := by
  have HC : Hid (∀ o a n c, Calls Tryz.prog 87 #[v, .slice a n c] (w.alloc o) fun e w2 => e = .returned (.int .i64 6) ∧ Below (w.alloc o).heap.size (w.alloc o) w2) := hid fun o a n c => ready_no (h.below (ba w o)) a n c
  have HBA : Hid (∀ o, Below w.heap.size w (w.alloc o)) := hid fun o => ba w o
  clear h
  go_enter Tryz.func29, Tryz.ntmps29
  go_wp2_with (first
    | (go_at_call 87; refine (HC.out _ _ _ _).mono ?_; rintro e w1 ⟨rfl, hb⟩; have HB1 := hid (below_step (HBA.out _) hb); clear hb)
    | fail)
  go_ret
  exact ⟨rfl, HB1.out⟩
set_option maxRecDepth 100000 in
set_option maxHeartbeats 4000000 in
theorem remove_no {w : World} {v : Value} (h : NoD w v) (s : ByteArray) : Calls Tryz.prog 31 #[v, .string s] w fun e w' => e = .returned (.int .i64 6) ∧ Below w.heap.size w w' := by
  have HC : Hid (∀ o a n c, Calls Tryz.prog 87 #[v, .slice a n c] (w.alloc o) fun e w2 => e = .returned (.int .i64 6) ∧ Below (w.alloc o).heap.size (w.alloc o) w2) := hid fun o a n c => ready_no (h.below (ba w o)) a n c
  have HBA : Hid (∀ o, Below w.heap.size w (w.alloc o)) := hid fun o => ba w o
  clear h
  go_enter Tryz.func31, Tryz.ntmps31
  go_wp2_with (first
    | (go_at_call 87; refine (HC.out _ _ _ _).mono ?_; rintro e w1 ⟨rfl, hb⟩; have HB1 := hid (below_step (HBA.out _) hb); clear hb)
    | fail)
  go_ret
  exact ⟨rfl, HB1.out⟩
set_option maxRecDepth 100000 in
set_option maxHeartbeats 4000000 in
theorem rename_no {w : World} {v : Value} (h : NoD w v) (s t : ByteArray) : Calls Tryz.prog 33 #[v, .string s, .string t] w fun e w' => e = .returned (.int .i64 6) ∧ Below w.heap.size w w' := by
  have HC : Hid (∀ o a n c, Calls Tryz.prog 87 #[v, .slice a n c] (w.alloc o) fun e w2 => e = .returned (.int .i64 6) ∧ Below (w.alloc o).heap.size (w.alloc o) w2) := hid fun o a n c => ready_no (h.below (ba w o)) a n c
  have HBA : Hid (∀ o, Below w.heap.size w (w.alloc o)) := hid fun o => ba w o
  clear h
  go_enter Tryz.func33, Tryz.ntmps33
  go_wp2_with (first
    | (go_at_call 87; refine (HC.out _ _ _ _).mono ?_; rintro e w1 ⟨rfl, hb⟩; have HB1 := hid (below_step (HBA.out _) hb); clear hb)
    | fail)
  go_ret
  exact ⟨rfl, HB1.out⟩
set_option maxRecDepth 100000 in
set_option maxHeartbeats 4000000 in
theorem files_no {w : World} {v : Value} (h : NoD w v) : Calls Tryz.prog 58 #[v] w fun e w' => e = .returned (.slice none 0 0) ∧ Below w.heap.size w w' := by
  have HC : Hid (∀ w', Below w.heap.size w w' → Calls Tryz.prog 62 #[v] w' fun e w2 => e = .returned (.bool false) ∧ w2 = w') := hid fun w' hb => is_no (h.below hb)
  have HB0 : Hid (Below w.heap.size w w) := hid (Below.refl _ _)
  have HBA : Hid (∀ o, Below w.heap.size w (w.alloc o)) := hid fun o => ba w o
  clear h
  go_enter Tryz.func58, Tryz.ntmps58
  go_wp2_with (first
    | (go_at_call 62; refine (HC.out _ HB0.out).mono ?_; rintro e w1 ⟨rfl, hw⟩; obtain rfl := hw.symm; clear hw)
    | (go_at_call 62; refine (HC.out _ (HBA.out _)).mono ?_; rintro e w1 ⟨rfl, hw⟩; obtain rfl := hw.symm; clear hw)
    | fail)
  go_ret
  exact ⟨rfl, by first | exact HB0.out | exact HBA.out _⟩
set_option maxRecDepth 100000 in
set_option maxHeartbeats 4000000 in
theorem bytes_no {w : World} {v : Value} (h : NoD w v) (s : ByteArray) : Calls Tryz.prog 59 #[v, .string s] w fun e w' => e = .returned (.slice none 0 0) ∧ Below w.heap.size w w' := by
  have HC : Hid (∀ w', Below w.heap.size w w' → Calls Tryz.prog 62 #[v] w' fun e w2 => e = .returned (.bool false) ∧ w2 = w') := hid fun w' hb => is_no (h.below hb)
  have HB0 : Hid (Below w.heap.size w w) := hid (Below.refl _ _)
  have HBA : Hid (∀ o, Below w.heap.size w (w.alloc o)) := hid fun o => ba w o
  clear h
  go_enter Tryz.func59, Tryz.ntmps59
  go_wp2_with (first
    | (go_at_call 62; refine (HC.out _ HB0.out).mono ?_; rintro e w1 ⟨rfl, hw⟩; obtain rfl := hw.symm; clear hw)
    | (go_at_call 62; refine (HC.out _ (HBA.out _)).mono ?_; rintro e w1 ⟨rfl, hw⟩; obtain rfl := hw.symm; clear hw)
    | fail)
  go_ret
  exact ⟨rfl, by first | exact HB0.out | exact HBA.out _⟩
set_option maxRecDepth 100000 in
set_option maxHeartbeats 4000000 in
theorem cloneD_no {w : World} {v : Value} (h : NoD w v) : Calls Tryz.prog 37 #[v] w fun e w' => e = .returned (.pointer none) ∧ Below w.heap.size w w' := by
  have HC : Hid (∀ w', Below w.heap.size w w' → Calls Tryz.prog 62 #[v] w' fun e w2 => e = .returned (.bool false) ∧ w2 = w') := hid fun w' hb => is_no (h.below hb)
  have HB0 : Hid (Below w.heap.size w w) := hid (Below.refl _ _)
  have HBA : Hid (∀ o, Below w.heap.size w (w.alloc o)) := hid fun o => ba w o
  clear h
  go_enter Tryz.func37, Tryz.ntmps37
  go_wp2_with (first
    | (go_at_call 62; refine (HC.out _ HB0.out).mono ?_; rintro e w1 ⟨rfl, hw⟩; obtain rfl := hw.symm; clear hw)
    | (go_at_call 62; refine (HC.out _ (HBA.out _)).mono ?_; rintro e w1 ⟨rfl, hw⟩; obtain rfl := hw.symm; clear hw)
    | fail)
  go_ret
  exact ⟨rfl, by first | exact HB0.out | exact HBA.out _⟩
set_option maxRecDepth 100000 in
set_option maxHeartbeats 4000000 in
theorem down_no {w : World} {v : Value} (h : NoD w v) : Calls Tryz.prog 25 #[v] w fun e w' => e = .returned (.bool false) ∧ Below w.heap.size w w' := by
  have HC : Hid (∀ w', Below w.heap.size w w' → Calls Tryz.prog 62 #[v] w' fun e w2 => e = .returned (.bool false) ∧ w2 = w') := hid fun w' hb => is_no (h.below hb)
  have HB0 : Hid (Below w.heap.size w w) := hid (Below.refl _ _)
  have HBA : Hid (∀ o, Below w.heap.size w (w.alloc o)) := hid fun o => ba w o
  clear h
  go_enter Tryz.func25, Tryz.ntmps25
  go_wp2_with (first
    | (go_at_call 62; refine (HC.out _ HB0.out).mono ?_; rintro e w1 ⟨rfl, hw⟩; obtain rfl := hw.symm; clear hw)
    | (go_at_call 62; refine (HC.out _ (HBA.out _)).mono ?_; rintro e w1 ⟨rfl, hw⟩; obtain rfl := hw.symm; clear hw)
    | fail)
  go_ret
  exact ⟨rfl, by first | exact HB0.out | exact HBA.out _⟩
set_option maxRecDepth 100000 in
set_option maxHeartbeats 4000000 in
theorem arm_no {w : World} {v : Value} (h : NoD w v) (n : Int) : Calls Tryz.prog 17 #[v, .int .i64 n] w fun e w' => e = .returned (.tuple #[]) ∧ Below w.heap.size w w' := by
  have HC : Hid (∀ w', Below w.heap.size w w' → Calls Tryz.prog 62 #[v] w' fun e w2 => e = .returned (.bool false) ∧ w2 = w') := hid fun w' hb => is_no (h.below hb)
  have HB0 : Hid (Below w.heap.size w w) := hid (Below.refl _ _)
  have HBA : Hid (∀ o, Below w.heap.size w (w.alloc o)) := hid fun o => ba w o
  clear h
  go_enter Tryz.func17, Tryz.ntmps17
  go_wp2_with (first
    | (go_at_call 62; refine (HC.out _ HB0.out).mono ?_; rintro e w1 ⟨rfl, hw⟩; obtain rfl := hw.symm; clear hw)
    | (go_at_call 62; refine (HC.out _ (HBA.out _)).mono ?_; rintro e w1 ⟨rfl, hw⟩; obtain rfl := hw.symm; clear hw)
    | fail)
  go_end0
  exact ⟨rfl, by first | exact HB0.out | exact HBA.out _⟩
set_option maxRecDepth 100000 in
set_option maxHeartbeats 4000000 in
theorem restart_no {w : World} {v : Value} (h : NoD w v) (n : Int) : Calls Tryz.prog 21 #[v, .int .i64 n] w fun e w' => e = .returned (.tuple #[]) ∧ Below w.heap.size w w' := by
  have HC : Hid (∀ w', Below w.heap.size w w' → Calls Tryz.prog 62 #[v] w' fun e w2 => e = .returned (.bool false) ∧ w2 = w') := hid fun w' hb => is_no (h.below hb)
  have HB0 : Hid (Below w.heap.size w w) := hid (Below.refl _ _)
  have HBA : Hid (∀ o, Below w.heap.size w (w.alloc o)) := hid fun o => ba w o
  clear h
  go_enter Tryz.func21, Tryz.ntmps21
  go_wp2_with (first
    | (go_at_call 62; refine (HC.out _ HB0.out).mono ?_; rintro e w1 ⟨rfl, hw⟩; obtain rfl := hw.symm; clear hw)
    | (go_at_call 62; refine (HC.out _ (HBA.out _)).mono ?_; rintro e w1 ⟨rfl, hw⟩; obtain rfl := hw.symm; clear hw)
    | fail)
  ((try simp only [Exit.inBlock, Exit.then]); refine bodyPost_ret (results_none rfl _ _ _) rfl ?_)
  exact ⟨rfl, by first | exact HB0.out | exact HBA.out _⟩
set_option maxRecDepth 100000 in
set_option maxHeartbeats 4000000 in
theorem open_no {w : World} {v : Value} (h : NoD w v) : Calls Tryz.prog 16 #[v] w fun e w' => e = .returned (.tuple #[.pointer none, .int .i64 1]) ∧ Below w.heap.size w w' := by
  have HC : Hid (∀ w', Below w.heap.size w w' → Calls Tryz.prog 62 #[v] w' fun e w2 => e = .returned (.bool false) ∧ w2 = w') := hid fun w' hb => is_no (h.below hb)
  have HB0 : Hid (Below w.heap.size w w) := hid (Below.refl _ _)
  have HBA : Hid (∀ o, Below w.heap.size w (w.alloc o)) := hid fun o => ba w o
  clear h
  go_enter Tryz.func16, Tryz.ntmps16
  go_wp2_with (first
    | (go_at_call 62; refine (HC.out _ HB0.out).mono ?_; rintro e w1 ⟨rfl, hw⟩; obtain rfl := hw.symm; clear hw)
    | (go_at_call 62; refine (HC.out _ (HBA.out _)).mono ?_; rintro e w1 ⟨rfl, hw⟩; obtain rfl := hw.symm; clear hw)
    | fail)
  go_ret2
  exact ⟨rfl, by first | exact HB0.out | exact HBA.out _⟩
set_option maxRecDepth 100000 in
set_option maxHeartbeats 4000000 in
theorem readyS_no {w : World} {v : Value} (h : NoS w v) : Calls Tryz.prog 76 #[v] w fun e w' => e = .returned (.bool false) ∧ Below w.heap.size w w' := by
  have HM : Hid (∀ n, Calls Tryz.prog 83 #[v] (w.drewN n) fun e w' => e = .returned (.bool false) ∧ w' = w.drewN n) := hid fun n => made_no (w := w.drewN n) (h.below ⟨rfl, rfl, rfl, Nat.le_refl _, fun _ _ => rfl⟩)
  clear h
  go_enter Tryz.func76, Tryz.ntmps76
  go_upto_region 1 with fail
  go_quiet ((go_at_call 83; exact Calls.quiet_of_same (HM.out _)))
  all_goals go_wp2_with fail
  all_goals go_ret
  all_goals exact ⟨rfl, ⟨rfl, rfl, rfl, Nat.le_refl _, fun _ _ => rfl⟩⟩
set_option maxRecDepth 100000 in
set_option maxHeartbeats 4000000 in
theorem getS_no {w : World} {v : Value} (h : NoS w v) (n : Int) (s : ByteArray) : Calls Tryz.prog 22 #[v, .int .i64 n, .string s] w fun e w' => e = .returned (.tuple #[.string ⟨#[]⟩, .int .i64 6]) ∧ Below w.heap.size w w' := by
  have HC : Hid (∀ w', Below w.heap.size w w' → Calls Tryz.prog 83 #[v] w' fun e w2 => e = .returned (.bool false) ∧ w2 = w') := hid fun w' hb => made_no (h.below hb)
  have HB0 : Hid (Below w.heap.size w w) := hid (Below.refl _ _)
  have HBA : Hid (∀ o, Below w.heap.size w (w.alloc o)) := hid fun o => ba w o
  clear h
  go_enter Tryz.func22, Tryz.ntmps22
  go_wp2_with (first
    | (go_at_call 83; refine (HC.out _ HB0.out).mono ?_; rintro e w1 ⟨rfl, hw⟩; obtain rfl := hw.symm; clear hw)
    | (go_at_call 83; refine (HC.out _ (HBA.out _)).mono ?_; rintro e w1 ⟨rfl, hw⟩; obtain rfl := hw.symm; clear hw)
    | fail)
  go_ret2
  exact ⟨rfl, by first | exact HB0.out | exact HBA.out _⟩
set_option maxRecDepth 100000 in
set_option maxHeartbeats 4000000 in
theorem scan_no {w : World} {v : Value} (h : NoS w v) (n : Int) (s t : ByteArray) : Calls Tryz.prog 23 #[v, .int .i64 n, .string s, .string t] w fun e w' => e = .returned (.tuple #[.slice none 0 0, .int .i64 6]) ∧ Below w.heap.size w w' := by
  have HC : Hid (∀ w', Below w.heap.size w w' → Calls Tryz.prog 83 #[v] w' fun e w2 => e = .returned (.bool false) ∧ w2 = w') := hid fun w' hb => made_no (h.below hb)
  have HB0 : Hid (Below w.heap.size w w) := hid (Below.refl _ _)
  have HBA : Hid (∀ o, Below w.heap.size w (w.alloc o)) := hid fun o => ba w o
  clear h
  go_enter Tryz.func23, Tryz.ntmps23
  go_wp2_with (first
    | (go_at_call 83; refine (HC.out _ HB0.out).mono ?_; rintro e w1 ⟨rfl, hw⟩; obtain rfl := hw.symm; clear hw)
    | (go_at_call 83; refine (HC.out _ (HBA.out _)).mono ?_; rintro e w1 ⟨rfl, hw⟩; obtain rfl := hw.symm; clear hw)
    | fail)
  go_ret2
  exact ⟨rfl, by first | exact HB0.out | exact HBA.out _⟩
set_option maxRecDepth 100000 in
set_option maxHeartbeats 4000000 in
theorem broken_no {w : World} {v : Value} (h : NoS w v) : Calls Tryz.prog 26 #[v] w fun e w' => e = .returned (.bool false) ∧ Below w.heap.size w w' := by
  have HC : Hid (∀ w', Below w.heap.size w w' → Calls Tryz.prog 83 #[v] w' fun e w2 => e = .returned (.bool false) ∧ w2 = w') := hid fun w' hb => made_no (h.below hb)
  have HB0 : Hid (Below w.heap.size w w) := hid (Below.refl _ _)
  have HBA : Hid (∀ o, Below w.heap.size w (w.alloc o)) := hid fun o => ba w o
  clear h
  go_enter Tryz.func26, Tryz.ntmps26
  go_wp2_with (first
    | (go_at_call 83; refine (HC.out _ HB0.out).mono ?_; rintro e w1 ⟨rfl, hw⟩; obtain rfl := hw.symm; clear hw)
    | (go_at_call 83; refine (HC.out _ (HBA.out _)).mono ?_; rintro e w1 ⟨rfl, hw⟩; obtain rfl := hw.symm; clear hw)
    | fail)
  go_ret
  exact ⟨rfl, by first | exact HB0.out | exact HBA.out _⟩
set_option maxRecDepth 100000 in
set_option maxHeartbeats 4000000 in
theorem disk_no {w : World} {v : Value} (h : NoS w v) : Calls Tryz.prog 27 #[v] w fun e w' => e = .returned (.pointer none) ∧ Below w.heap.size w w' := by
  have HC : Hid (∀ w', Below w.heap.size w w' → Calls Tryz.prog 83 #[v] w' fun e w2 => e = .returned (.bool false) ∧ w2 = w') := hid fun w' hb => made_no (h.below hb)
  have HB0 : Hid (Below w.heap.size w w) := hid (Below.refl _ _)
  have HBA : Hid (∀ o, Below w.heap.size w (w.alloc o)) := hid fun o => ba w o
  clear h
  go_enter Tryz.func27, Tryz.ntmps27
  go_wp2_with (first
    | (go_at_call 83; refine (HC.out _ HB0.out).mono ?_; rintro e w1 ⟨rfl, hw⟩; obtain rfl := hw.symm; clear hw)
    | (go_at_call 83; refine (HC.out _ (HBA.out _)).mono ?_; rintro e w1 ⟨rfl, hw⟩; obtain rfl := hw.symm; clear hw)
    | fail)
  go_ret
  exact ⟨rfl, by first | exact HB0.out | exact HBA.out _⟩
set_option maxRecDepth 100000 in
set_option maxHeartbeats 4000000 in
theorem cloneS_no {w : World} {v : Value} (h : NoS w v) : Calls Tryz.prog 56 #[v] w fun e w' => e = .returned (.pointer none) ∧ Below w.heap.size w w' := by
  have HC : Hid (∀ w', Below w.heap.size w w' → Calls Tryz.prog 83 #[v] w' fun e w2 => e = .returned (.bool false) ∧ w2 = w') := hid fun w' hb => made_no (h.below hb)
  have HB0 : Hid (Below w.heap.size w w) := hid (Below.refl _ _)
  have HBA : Hid (∀ o, Below w.heap.size w (w.alloc o)) := hid fun o => ba w o
  clear h
  go_enter Tryz.func56, Tryz.ntmps56
  go_wp2_with (first
    | (go_at_call 83; refine (HC.out _ HB0.out).mono ?_; rintro e w1 ⟨rfl, hw⟩; obtain rfl := hw.symm; clear hw)
    | (go_at_call 83; refine (HC.out _ (HBA.out _)).mono ?_; rintro e w1 ⟨rfl, hw⟩; obtain rfl := hw.symm; clear hw)
    | fail)
  go_ret
  exact ⟨rfl, by first | exact HB0.out | exact HBA.out _⟩
set_option maxRecDepth 100000 in
set_option maxHeartbeats 4000000 in
theorem view_no0 {w : World} {v : Value} (h : NoS w v) : Calls Tryz.prog 46 #[v] w fun e w' => e = .returned (.tuple #[.int .i64 0, .int .i64 6]) ∧ Below w.heap.size w w' := by
  have HC : Hid (Calls Tryz.prog 76 #[v] w fun e w2 => e = .returned (.bool false) ∧ Below w.heap.size w w2) := hid (readyS_no h)
  have HCA : Hid (∀ o, Calls Tryz.prog 76 #[v] (w.alloc o) fun e w2 => e = .returned (.bool false) ∧ Below (w.alloc o).heap.size (w.alloc o) w2) := hid fun o => readyS_no (h.below (ba w o))
  have HBA : Hid (∀ o, Below w.heap.size w (w.alloc o)) := hid fun o => ba w o
  clear h
  go_enter Tryz.func46, Tryz.ntmps46
  go_wp2_with (first
    | (go_at_call 76; first | (refine HC.out.mono ?_; rintro e w1 ⟨rfl, hb⟩; have HB1 := hid hb; clear hb) | (refine (HCA.out _).mono ?_; rintro e w1 ⟨rfl, hb⟩; have HB1 := hid (below_step (HBA.out _) hb); clear hb))
    | fail)
  go_ret2
  exact ⟨rfl, HB1.out⟩
set_option maxRecDepth 100000 in
set_option maxHeartbeats 4000000 in
theorem apply_no {w : World} {v : Value} (h : NoS w v) (a : Option Addr) (n c : Nat) : Calls Tryz.prog 19 #[v, .slice a n c] w fun e w' => e = .returned (.int .i64 6) ∧ Below w.heap.size w w' := by
  have HC : Hid (Calls Tryz.prog 76 #[v] w fun e w2 => e = .returned (.bool false) ∧ Below w.heap.size w w2) := hid (readyS_no h)
  have HCA : Hid (∀ o, Calls Tryz.prog 76 #[v] (w.alloc o) fun e w2 => e = .returned (.bool false) ∧ Below (w.alloc o).heap.size (w.alloc o) w2) := hid fun o => readyS_no (h.below (ba w o))
  have HBA : Hid (∀ o, Below w.heap.size w (w.alloc o)) := hid fun o => ba w o
  rcases h with rfl | ⟨b, cs, rfl, hc, h0⟩
  · go_enter Tryz.func19, Tryz.ntmps19
    go_wp2_with (first
      | (go_at_call 76; first | (refine HC.out.mono ?_; rintro e w1 ⟨rfl, hb⟩; have HB1 := hid hb; clear hb) | (refine (HCA.out _).mono ?_; rintro e w1 ⟨rfl, hb⟩; have HB1 := hid (below_step (HBA.out _) hb); clear hb))
      | fail)
    go_ret
    exact ⟨rfl, HB1.out⟩
  · clear hc h0
    go_enter Tryz.func19, Tryz.ntmps19
    go_wp2_with (first
      | (go_at_call 76; first | (refine HC.out.mono ?_; rintro e w1 ⟨rfl, hb⟩; have HB1 := hid hb; clear hb) | (refine (HCA.out _).mono ?_; rintro e w1 ⟨rfl, hb⟩; have HB1 := hid (below_step (HBA.out _) hb); clear hb))
      | fail)
    go_ret
    exact ⟨rfl, HB1.out⟩
set_option maxRecDepth 100000 in
set_option maxHeartbeats 4000000 in
theorem syncS_no {w : World} {v : Value} (h : NoS w v) : Calls Tryz.prog 20 #[v] w fun e w' => e = .returned (.int .i64 6) ∧ Below w.heap.size w w' := by
  have HC : Hid (Calls Tryz.prog 76 #[v] w fun e w2 => e = .returned (.bool false) ∧ Below w.heap.size w w2) := hid (readyS_no h)
  have HCA : Hid (∀ o, Calls Tryz.prog 76 #[v] (w.alloc o) fun e w2 => e = .returned (.bool false) ∧ Below (w.alloc o).heap.size (w.alloc o) w2) := hid fun o => readyS_no (h.below (ba w o))
  have HBA : Hid (∀ o, Below w.heap.size w (w.alloc o)) := hid fun o => ba w o
  rcases h with rfl | ⟨b, cs, rfl, hc, h0⟩
  · go_enter Tryz.func20, Tryz.ntmps20
    go_wp2_with (first
      | (go_at_call 76; first | (refine HC.out.mono ?_; rintro e w1 ⟨rfl, hb⟩; have HB1 := hid hb; clear hb) | (refine (HCA.out _).mono ?_; rintro e w1 ⟨rfl, hb⟩; have HB1 := hid (below_step (HBA.out _) hb); clear hb))
      | fail)
    go_ret
    exact ⟨rfl, HB1.out⟩
  · clear hc h0
    go_enter Tryz.func20, Tryz.ntmps20
    go_wp2_with (first
      | (go_at_call 76; first | (refine HC.out.mono ?_; rintro e w1 ⟨rfl, hb⟩; have HB1 := hid hb; clear hb) | (refine (HCA.out _).mono ?_; rintro e w1 ⟨rfl, hb⟩; have HB1 := hid (below_step (HBA.out _) hb); clear hb))
      | fail)
    go_ret
    exact ⟨rfl, HB1.out⟩
set_option maxRecDepth 100000 in
set_option maxHeartbeats 4000000 in
theorem flush_no {w : World} {v : Value} (h : NoS w v) : Calls Tryz.prog 54 #[v] w fun e w' => e = .returned (.int .i64 6) ∧ Below w.heap.size w w' := by
  have HC : Hid (Calls Tryz.prog 76 #[v] w fun e w2 => e = .returned (.bool false) ∧ Below w.heap.size w w2) := hid (readyS_no h)
  have HCA : Hid (∀ o, Calls Tryz.prog 76 #[v] (w.alloc o) fun e w2 => e = .returned (.bool false) ∧ Below (w.alloc o).heap.size (w.alloc o) w2) := hid fun o => readyS_no (h.below (ba w o))
  have HBA : Hid (∀ o, Below w.heap.size w (w.alloc o)) := hid fun o => ba w o
  clear h
  go_enter Tryz.func54, Tryz.ntmps54
  go_wp2_with (first
    | (go_at_call 76; first | (refine HC.out.mono ?_; rintro e w1 ⟨rfl, hb⟩; have HB1 := hid hb; clear hb) | (refine (HCA.out _).mono ?_; rintro e w1 ⟨rfl, hb⟩; have HB1 := hid (below_step (HBA.out _) hb); clear hb))
    | fail)
  go_ret
  exact ⟨rfl, HB1.out⟩
set_option maxRecDepth 100000 in
set_option maxHeartbeats 4000000 in
theorem compact_no {w : World} {v : Value} (h : NoS w v) : Calls Tryz.prog 55 #[v] w fun e w' => e = .returned (.int .i64 6) ∧ Below w.heap.size w w' := by
  have HC : Hid (Calls Tryz.prog 76 #[v] w fun e w2 => e = .returned (.bool false) ∧ Below w.heap.size w w2) := hid (readyS_no h)
  have HCA : Hid (∀ o, Calls Tryz.prog 76 #[v] (w.alloc o) fun e w2 => e = .returned (.bool false) ∧ Below (w.alloc o).heap.size (w.alloc o) w2) := hid fun o => readyS_no (h.below (ba w o))
  have HBA : Hid (∀ o, Below w.heap.size w (w.alloc o)) := hid fun o => ba w o
  clear h
  go_enter Tryz.func55, Tryz.ntmps55
  go_wp2_with (first
    | (go_at_call 76; first | (refine HC.out.mono ?_; rintro e w1 ⟨rfl, hb⟩; have HB1 := hid hb; clear hb) | (refine (HCA.out _).mono ?_; rintro e w1 ⟨rfl, hb⟩; have HB1 := hid (below_step (HBA.out _) hb); clear hb))
    | fail)
  go_ret
  exact ⟨rfl, HB1.out⟩
set_option maxRecDepth 100000 in
set_option maxHeartbeats 4000000 in
theorem drop_no {w : World} {v : Value} (h : NoS w v) (n : Int) : Calls Tryz.prog 49 #[v, .int .i64 n] w fun e w' => e = .returned (.int .i64 6) ∧ Below w.heap.size w w' := by
  have HC : Hid (Calls Tryz.prog 76 #[v] w fun e w2 => e = .returned (.bool false) ∧ Below w.heap.size w w2) := hid (readyS_no h)
  have HCA : Hid (∀ o, Calls Tryz.prog 76 #[v] (w.alloc o) fun e w2 => e = .returned (.bool false) ∧ Below (w.alloc o).heap.size (w.alloc o) w2) := hid fun o => readyS_no (h.below (ba w o))
  have HBA : Hid (∀ o, Below w.heap.size w (w.alloc o)) := hid fun o => ba w o
  clear h
  go_enter Tryz.func49, Tryz.ntmps49
  go_wp2_with (first
    | (go_at_call 76; first | (refine HC.out.mono ?_; rintro e w1 ⟨rfl, hb⟩; have HB1 := hid hb; clear hb) | (refine (HCA.out _).mono ?_; rintro e w1 ⟨rfl, hb⟩; have HB1 := hid (below_step (HBA.out _) hb); clear hb))
    | fail)
  go_ret
  exact ⟨rfl, HB1.out⟩
end Go.Proofs.YtpenleogafdbhaaGreatDoor
