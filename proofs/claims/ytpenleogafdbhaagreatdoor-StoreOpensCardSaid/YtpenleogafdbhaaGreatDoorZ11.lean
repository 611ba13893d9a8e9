/-
  Store: Sync.
  Names of runs; the bytes of a head.
-/
import Derived.Test.YtpenleogafdbhaaGreatDoorZ10
import Derived.BigRegion
import Derived.BigQuiet
import Derived.StillTailTactics
import Derived.Laws.IdiomStrings
namespace Go.Proofs.YtpenleogafdbhaaGreatDoor
open Go.RowKit Go.Maps Go.ChangeMaps Go.WideElems Go.WideShapes Go.WideAt Go.WideMaps
set_option maxRecDepth 100000 in
set_option maxHeartbeats 4000000 in
/-- the act of a sync -/
theorem sync1_any {b1 b3 sp dp mb : Nat} {L : Mp FileR} {d : Dk} {tn : Int} {bk : Bool} {a3 a4 a5 a6 a7 a8 a9 : Value} (nm : ByteArray) (w : World) (h1 : w.heap[b1]? = some (.cells #[.pointer (some ⟨sp, 0, none⟩)] 33)) (h3 : w.heap[b3]? = some (.cells #[.string nm] 9))
    (h : w.heap[sp]? = some (.cells (stc dp tn bk a3 a4 a5 a6 a7 a8 a9) 109)) (hd : DiskM w dp mb L d) (hok : d.Ok) (hs : nm.size ≤ maxLen) :
    Calls Tryz.prog 82 #[.pointer (some ⟨b1, 0, none⟩), .pointer (some ⟨b3, 0, none⟩)] w fun e w' => e = .returned (.int .i64 ((d.sync nm.data.toList).1 : Int)) ∧ ∃ L', DiskM w' dp mb L' (d.sync nm.data.toList).2 ∧ Chg (fpD dp mb L) w w' ∧ New w (fpD dp mb L) (fpD dp mb L') := by
  obtain ⟨e0, -⟩ := stc_of h
  have c1 := box1 h1
  have c3 := box1 h3
  have HSY : Hid (∀ n, Calls Tryz.prog 29 #[.pointer (some ⟨dp, 0, none⟩), .string nm] (w.drewN n) fun e w' => e = .returned (.int .i64 ((d.sync nm.data.toList).1 : Int)) ∧ ∃ L', DiskM w' dp mb L' (d.sync nm.data.toList).2 ∧ Chg (fpD dp mb L) (w.drewN n) w' ∧ New (w.drewN n) (fpD dp mb L) (fpD dp mb L')) := hid fun n => dsync_any dp mb L d nm (w.drewN n) (hd.keep fun _ _ => rfl) hok hs
  clear h hd h1 h3 hok hs
  obtain ⟨er, her⟩ : ∃ er, er = (d.sync nm.data.toList).1 := ⟨_, rfl⟩
  obtain ⟨d', hd'⟩ : ∃ d', d' = (d.sync nm.data.toList).2 := ⟨_, rfl⟩
  rw [← her, ← hd'] at HSY ⊢
  clear her hd'
  go_enter Tryz.func82, Tryz.ntmps82
  go_upto_region 1 with fail
  go_still_tail 5, (by kernel_rfl)
  change wpList _ _ _ _ _ (w.drewN 1)
  go_wp2_with (first | (go_at_call 29; refine (HSY.out 1).mono ?_; rintro e w1 ⟨rfl, L1, hd1, hc1, hn1⟩; have HD := hid hd1; have HC := hid hc1; have HN := hid hn1; clear hd1 hc1 hn1) | fail)
  go_ret
  exact ⟨rfl, L1, HD.out, (chg_drew w).trans0 HC.out, HN.out⟩
theorem sync_ok8 {d : Dk} (ok : d.Ok) (s : Bs) : (d.sync s).2.Ok := by
  unfold Dk.sync
  by_cases hr : d.ready s ≠ 0
  · rw [if_pos hr]; exact ok
  · rw [if_neg hr]
    cases hf : mget s d.files with
    | none => exact ok
    | some f =>
      have hup : d.down = false := by
        unfold Dk.ready at hr
        cases hb : badName s <;> cases hd : d.down <;> simp [hb, hd] at hr ⊢
      have hbn : badName s = false := ok.name _ (mget_mem hf)
      have := (sync_res ok hup hbn hf).1.ok
      unfold Dk.sync at this
      rw [if_neg hr, hf] at this
      exact this
section
variable {w : World} {sp dp mb tb vb : Nat} {L : Mp FileR} {rv qv : Value} {R : List (Nat × Tab)} {V : Mi (Nat × Tab)} {s : St} {d : Dk}
set_option maxRecDepth 100000 in
set_option maxHeartbeats 8000000 in
theorem syncS_any (E : Env w sp dp mb tb vb L rv qv R V s d) :
    Calls Tryz.prog 20 #[.pointer (some ⟨sp, 0, none⟩)] w fun e w' => e = .returned (.int .i64 ((s.sync d).1 : Int)) ∧ Does w w' sp dp mb tb vb L rv qv R V (s.sync d).2.1 (s.sync d).2.2 := by
  obtain ⟨g, hg⟩ : ∃ g, g = s.sync d := ⟨_, rfl⟩
  rw [← hg]
  unfold St.sync at hg
  have HE1 := hid (E.below (ba w (.cells #[.pointer (some ⟨sp, 0, none⟩)] 33)))
  have HBX := hid (heap_alloc_new w (.cells #[.pointer (some ⟨sp, 0, none⟩)] 33))
  have HR := hid (readyS_stm HE1.out.st HE1.out.dk)
  have HB1 := hid (ba w (.cells #[.pointer (some ⟨sp, 0, none⟩)] 33))
  have HE := hid E
  cases hr : s.ready d with
  | false =>
    rw [if_pos hr] at hg
    rw [hr] at HR
    have HG := hid hg
    clear hg hr E
    go_enter Tryz.func20, Tryz.ntmps20
    go_wp2_with (first | (go_at_call 76; refine HR.out.mono ?_; rintro e w2 ⟨rfl, hb⟩; have HB := hid (below_step HB1.out hb); clear hb) | fail)
    go_ret
    rw [HG.out]
    exact ⟨rfl, HE.out.does HB.out⟩
  | true =>
    rw [if_neg (by rw [hr]; decide)] at hg
    rw [hr] at HR
    have HG := hid hg
    have hln := E.num.log
    clear hg hr E
    have HNM : Hid ((str (nLog s.head.log)).size ≤ maxLen) := hid (by
      rw [str_size]
      have := itoa_len hln
      unfold nLog maxLen
      simp
      omega)
    obtain ⟨b1, hb1⟩ : ∃ b1, b1 = w.heap.size := ⟨_, rfl⟩
    go_enter Tryz.func20, Tryz.ntmps20
    go_upto_region 1 with fail
    generalize w.alloc (.cells #[.pointer (some ⟨sp, 0, none⟩)] 33) = w1 at *
    rw [← hb1] at HBX ⊢
    have HB1E := hid hb1
    clear hb1
    have c1 := box1 HBX.out
    go_wp2_with (first
      | (go_at_call 76; refine HR.out.mono ?_; rintro e w2 ⟨rfl, hb⟩; have HE2 := hid (HE1.out.below hb); have HBX2 := hid ((hb.block b1 (heap_lt HBX.out)).trans HBX.out); have HB2 := hid (below_step HB1.out hb); clear hb c1; have c1 := box1 HBX2.out; obtain ⟨-, -, -, e3, -⟩ := stc_of HE2.out.st.cells; have HLG := hid (logFile_any s.head.log w2 hln HE2.out.g))
      | (go_at_call 67; refine HLG.out.mono ?_; rintro e w3 ⟨rfl, hb⟩; have HE3 := hid (HE2.out.below hb); have HBX3 := hid ((hb.block b1 (heap_lt HBX2.out)).trans HBX2.out); have HB3 := hid (below_step HB2.out hb); clear hb c1 e3)
      | fail)
    have HE4 := hid (HE3.out.below (ba w3 (.cells #[.string (str (nLog s.head.log))] 9)))
    have HBX4 := hid ((Below.heap_alloc w3 (.cells #[.string (str (nLog s.head.log))] 9) b1 (heap_lt HBX3.out)).trans HBX3.out)
    have HBY4 := hid (heap_alloc_new w3 (.cells #[.string (str (nLog s.head.log))] 9))
    have HB4 := hid (below_step HB3.out (ba w3 (.cells #[.string (str (nLog s.head.log))] 9)))
    obtain ⟨b3, hb3⟩ : ∃ b3, b3 = w3.heap.size := ⟨_, rfl⟩
    rw [← hb3] at HBY4 ⊢
    generalize w3.alloc (.cells #[.string (str (nLog s.head.log))] 9) = w4 at *
    clear hb3
    have c1 := box1 HBX4.out
    have c3 := box1 HBY4.out
    obtain ⟨e0, -⟩ := stc_of HE4.out.st.cells
    obtain ⟨-, d1, -⟩ := cells5_of HE4.out.dk.cells
    have hlk : ∀ n, (Instr.lookup 49 (.map (some mb)) (.string (str (nLog s.head.log))) true).run Tryz.prog (w4.drewN n) = .ok (.tuple #[((mget (nLog s.head.log) L).map FileR.ptr).getD (.pointer none), .bool ((mget (nLog s.head.log) L).map FileR.ptr).isSome]) (w4.drewN n) := fun n => by
      have h := (HE4.out.dk.map.block (w' := w4.drewN n) rfl).look_ok (t := 49) (e := 118) Tryz.underlying9 Tryz.underlying49 (zero118 (w4.drewN n)) HNM.out
      rwa [str_list, mget_mmap] at h
    have hgf := HE4.out.dk.get (nLog s.head.log)
    cases hl : mget (nLog s.head.log) L with
    | none =>
      have HG2 : Hid (g = (0, s, d)) := hid (by rw [HG.out, hgf, hl]; rfl)
      rw [hl] at hlk
      dsimp only [Option.map_none, Option.getD_none, Option.isSome_none] at hlk
      clear hl hgf HG
      go_quiet (fail)
      go_wp2_with fail
      go_quiet (fail)
      go_wp2_with fail
      go_ret
      rw [HG2.out]
      exact ⟨rfl, HE.out.does (below_drewN_r (below_drewN_r HB4.out _) _)⟩
    | some r =>
      have hmr := mget_mem hl
      have hfm := HE4.out.dk.file _ hmr
      have hc := hfm.1
      obtain ⟨q, k, hv⟩ := ownV_slice hfm.2
      rw [List.length_map] at hv
      rw [hv] at hc
      obtain ⟨c0, cs1⟩ := cells2_of hc
      rw [hl] at hlk hgf
      have hlk2 : ∀ n, (Instr.lookup 49 (.map (some mb)) (.string (str (nLog s.head.log))) true).run Tryz.prog (w4.drewN n) = .ok (.tuple #[.pointer (some ⟨r.g, 0, none⟩), .bool true]) (w4.drewN n) := hlk
      have hgf2 : mget (nLog s.head.log) d.files = some r.f := hgf
      clear hlk hl hmr hfm hc hgf hv
      obtain ⟨sf, hsf⟩ : ∃ n, n = r.f.safe := ⟨_, rfl⟩
      obtain ⟨ln, hlnn⟩ : ∃ n, n = r.f.data.length := ⟨_, rfl⟩
      rw [← hsf] at cs1
      rw [← hlnn] at c0
      by_cases heq : sf = ln
      · have HG2 : Hid (g = (0, s, d)) := hid (by
          rw [HG.out, hgf2]
          show (if r.f.safe = r.f.data.length then _ else _) = _
          rw [if_pos (by rw [← hsf, ← hlnn, heq])])
        have hb : ((sf : Int) == (ln : Int)) = true := by rw [heq]; simp
        clear hsf hlnn HG hgf2 heq
        go_quiet (fail)
        go_wp2_with fail
        go_quiet (fail)
        go_wp2_with fail
        go_ret
        rw [HG2.out]
        exact ⟨rfl, HE.out.does (below_drewN_r (below_drewN_r HB4.out _) _)⟩
      · have HG2 : Hid (g = ((d.sync (nLog s.head.log)).1, s.fail (d.sync (nLog s.head.log)).1, (d.sync (nLog s.head.log)).2)) := hid (by
          rw [HG.out, hgf2]
          show (if r.f.safe = r.f.data.length then _ else _) = _
          rw [if_neg (by rw [← hsf, ← hlnn]; exact heq)])
        have hb : ((sf : Int) == (ln : Int)) = false := by simp; omega
        clear hsf hlnn HG hgf2 heq
        go_quiet (fail)
        go_wp2_with fail
        go_quiet (fail)
        have HB5 : ∀ a b, Hid (Below w.heap.size w ((w4.drewN a).drewN b)) := fun a b => hid (below_drewN_r (below_drewN_r HB4.out _) _)
        have HE5 : ∀ a b, Hid (Env ((w4.drewN a).drewN b) sp dp mb tb vb L rv qv R V s d) := fun a b => hid (HE4.out.below ⟨rfl, rfl, rfl, Nat.le_refl _, fun _ _ => rfl⟩)
        have HX5 : ∀ a b, Hid (((w4.drewN a).drewN b).heap[b1]? = some (.cells #[.pointer (some ⟨sp, 0, none⟩)] 33) ∧ ((w4.drewN a).drewN b).heap[b3]? = some (.cells #[.string (str (nLog s.head.log))] 9)) := fun a b => hid ⟨HBX4.out, HBY4.out⟩
        rename_i nq0 K0 a0
        replace HB5 := HB5 nq0 nq
        replace HE5 := HE5 nq0 nq
        replace HX5 := HX5 nq0 nq
        generalize (w4.drewN nq0).drewN nq = w5 at *
        clear hlk2 hb c1 c3 e0 d1 c0 cs1
        have c1 := box1 HX5.out.1
        have HW6 := hid (ba w5 (.cells #[.func (.func 82) #[] #[.pointer (some ⟨b1, 0, none⟩), .pointer (some ⟨b3, 0, none⟩)]] 42))
        have HE6 := hid (HE5.out.below HW6.out)
        have HX6 := hid (show (w5.alloc (.cells #[.func (.func 82) #[] #[.pointer (some ⟨b1, 0, none⟩), .pointer (some ⟨b3, 0, none⟩)]] 42)).heap[b1]? = _ ∧ (w5.alloc (.cells #[.func (.func 82) #[] #[.pointer (some ⟨b1, 0, none⟩), .pointer (some ⟨b3, 0, none⟩)]] 42)).heap[b3]? = _ from ⟨(HW6.out.block b1 (heap_lt HX5.out.1)).trans HX5.out.1, (HW6.out.block b3 (heap_lt HX5.out.2)).trans HX5.out.2⟩)
        have HCALL := sync1_any (str (nLog s.head.log)) _ HX6.out.1 HX6.out.2 HE6.out.st.cells HE6.out.dk HE6.out.ok HNM.out
        rw [str_list] at HCALL
        obtain ⟨er, her⟩ : ∃ er, er = (d.sync (nLog s.head.log)).1 := ⟨_, rfl⟩
        obtain ⟨d', hd'⟩ : ∃ d', d' = (d.sync (nLog s.head.log)).2 := ⟨_, rfl⟩
        have HOK : Hid d'.Ok := hid (by rw [hd']; exact sync_ok8 HE.out.ok _)
        rw [← her, ← hd'] at HG2 HCALL
        have HA := hid (acts1_any 82 #[.pointer (some ⟨b1, 0, none⟩), .pointer (some ⟨b3, 0, none⟩)] w5.heap.size 1 er _ (enters_of Tryz.func82 (by kernel_rfl) rfl) (box1 (heap_alloc_new w5 _)) HE6.out.st.cells HE6.out.sp_nd HCALL)
        clear HCALL her hd'
        have hmf : ∀ (fn : Fn) (first cap : Array Value) (w : World), (Instr.makeFunc fn first cap).run Tryz.prog w = .ok (.func fn first cap) w := fun _ _ _ _ => rfl
        go_wp2_with (first | (go_at_call 80; refine HA.out.mono ?_; rintro e w7 ⟨rfl, hc7, ha7⟩; have HC7 := hid hc7; have HA7 := hid ha7; clear hc7 ha7) | fail)
        go_ret
        rw [HG2.out]
        refine ⟨rfl, Does.after (HB5.out.trans (HW6.out.mono HB5.out.size)) (HE6.out.acted (s' := s.fail er) HA7.out HOK.out rfl rfl rfl rfl HC7.out) HE.out.lt⟩
end
end Go.Proofs.YtpenleogafdbhaaGreatDoor

namespace Go.Proofs.YtpenleogafdbhaaGreatDoor
open Go.RowKit Go.Maps Go.ChangeMaps Go.WideElems Go.WideShapes Go.WideAt Go.WideMaps
def sv (b : Bs) : Value := .string (str b)
theorem isV_len {w : World} {v : Value} {xs : List Value} (h : IsV w v xs) : xs.length ≤ 1000000 := by
  obtain ⟨_, _, _, h, _⟩ := h
  exact h
set_option maxRecDepth 100000 in
set_option maxHeartbeats 8000000 in
theorem names_any (v : Value) (ns : List Nat) (w : World) (hv : IsV w v (ns.map iv)) (hn : ∀ n ∈ ns, n < 100000000) (hl : ns.length ≤ 1000) (hG : Glb w) :
    Calls Tryz.prog 172 #[v] w fun e w' => ∃ v', e = .returned v' ∧ OwnV w' w.heap.size 9 v' (ns.map fun n => sv (nRun n)) ∧ Below w.heap.size w w' := by
  obtain ⟨va, vc, rfl⟩ := isV_slice hv
  obtain ⟨N, hN⟩ : ∃ N, N = ns.length := ⟨_, rfl⟩
  rw [List.length_map, ← hN] at hv ⊢
  rw [← hN] at hl
  have HV := hid hv
  have HN := hid hN
  have HNB := hid hn
  have HG := hid hG
  clear hv hN hn hG
  go_enter Tryz.func172, Tryz.ntmps172
  go_wp2_with fail
  go_loopw [3, 8] (fun ov kv wr => ∃ k : Nat, kv = .int .i64 (k : Int) ∧ k ≤ N ∧ (∃ a c, ov = .slice a k c) ∧ Hid (OwnV wr w.heap.size 9 ov ((ns.take k).map fun n => sv (nRun n))) ∧ Hid (Below w.heap.size w wr)) (fun _ kv _ => N - (intOf kv).toNat)
  case atStart => exact ⟨0, rfl, Nat.zero_le _, ⟨_, _, rfl⟩, ownV_nil _ _ _, Below.refl _ _⟩
  case round =>
    obtain ⟨k, rfl, hk, ⟨oa, oc, rfl⟩, HO, HB⟩ := hrel
    rename World => wr
    by_cases hlt : k < N
    · have hkl : k < ns.length := by rw [← HN.out]; exact hlt
      obtain ⟨x, hx⟩ : ∃ x, ns[k]? = some x := ⟨_, List.getElem?_eq_getElem hkl⟩
      obtain ⟨g, rfl, -, hc⟩ := isV_at HV.out k (by rw [List.length_map]; exact hkl)
      rw [List.getD_eq_getElem?_getD, List.getElem?_map, hx] at hc
      have e1 : wr.cell? ⟨g, k, none⟩ = some (.int .i64 (x : Int)) := (HB.out.cell (World.block_lt_of_cell? w _ hc)).trans hc
      have HRF := hid (runFile_any x wr (HNB.out x (List.mem_of_getElem? hx)) (HG.out.below HB.out))
      have HX := hid hx
      have HLn : Hid (((ns.take k).map fun n => sv (nRun n)).length < 1000000) := hid (by rw [List.length_map, List.length_take]; omega)
      clear hx hc hkl
      go_wp2_with (first
        | (go_at_call 69; refine HRF.out.mono ?_; rintro e w1 ⟨rfl, hb⟩; have HB1 := hid (HB.out.trans (hb.mono HB.out.size)); have HO1 := hid (ownV_below HO.out hb); have HWS : Hid (w.heap.size ≤ w1.heap.size) := hid HB1.out.size; clear hb)
        | (at_builtin; refine wpl_app_v 99 9 (.string ⟨#[]⟩) 16 info9 rfl Tryz.underlying99 (by decide) (.string (str (nRun x))) rfl _ _ (.slice oa k oc) w.heap.size ((ns.take k).map fun n => sv (nRun n)) (by rfl) (by rfl) (by rfl) (by rfl) HO1.out HLn.out HWS.out ?_; intro v7 w7 ho7 hb7 hg7; have HO7 := hid ho7; have HB7 := hid (HB1.out.trans hb7); clear ho7 hb7 hg7)
        | fail)
      obtain ⟨ta, tc, hv7⟩ := ownV_slice HO7.out
      have hl7 : ((ns.take k).map (fun n => sv (nRun n)) ++ [Value.string (str (nRun x))]).length = k + 1 := by
        rw [List.length_append, List.length_map, List.length_take, List.length_singleton]
        have := HN.out
        omega
      rw [hl7] at hv7
      rw [hv7] at HO7 ⊢
      go_roundw
      case rel =>
        refine ⟨k + 1, by go_num, hlt, ⟨_, _, rfl⟩, hid ?_, HB7⟩
        rw [List.take_add_one, HX.out, List.map_append]
        exact HO7.out
      case measure => simp [intOf]; omega
    · obtain rfl : k = N := by omega
      have HF : Hid (OwnV wr w.heap.size 9 (.slice oa k oc) (ns.map fun n => sv (nRun n))) := hid (by
        have h := HO.out
        rwa [List.take_of_length_le (by rw [← HN.out]; exact Nat.le_refl _)] at h)
      go_wp2_with fail
      go_ret
      exact ⟨_, rfl, HF.out, HB.out⟩
theorem str_cat (a b : Bs) : str a ++ str b = str (a ++ b) := by
  unfold str
  rw [ByteArray.mk_append_mk]
  first | done | simp
/-- a string's bytes, newly made -/
theorem conv_bytes (s : Bs) (W : World) : ∃ W' cp, (convert 9 59 (.string (str s))).run Tryz.prog W = .ok (.slice (some ⟨W.heap.size, 0, none⟩) s.length cp) W' ∧ Below W.heap.size W W' ∧ BytesAt W' ⟨W.heap.size, 0, none⟩ s ∧ IsB W' (.slice (some ⟨W.heap.size, 0, none⟩) s.length cp) s := by
  have h := run_bytes_of_string (P := Tryz.prog) W 9 59 5 (str s) Tryz.underlying9 Tryz.underlying59 Tryz.underlying5
  have hcap := grownCap_ge W (str s).size 0 5
  rw [str_size] at h hcap
  have hat : ∀ j, j < s.length → (W.drew.alloc (.cells (bytesRow (str s) (grownCap W s.length 0 5)) 5 ((bytesRow (str s) (grownCap W s.length 0 5)).size, (bytesRow (str s) (grownCap W s.length 0 5)).size + 1))).cell? ⟨W.heap.size, j, none⟩ = some (bv (s.getD j 0)) := fun j hj => by
    have h1 := bytesRow_at (str s) (grownCap W s.length 0 5) j (by show j < s.toArray.size; simpa using hj)
    have h2 : (W.drew.alloc (.cells (bytesRow (str s) (grownCap W s.length 0 5)) 5 ((bytesRow (str s) (grownCap W s.length 0 5)).size, (bytesRow (str s) (grownCap W s.length 0 5)).size + 1))).heap[W.heap.size]? = some (.cells (bytesRow (str s) (grownCap W s.length 0 5)) 5 ((bytesRow (str s) (grownCap W s.length 0 5)).size, (bytesRow (str s) (grownCap W s.length 0 5)).size + 1)) := heap_alloc_new W.drew _
    rw [World.cell?, h2]
    show (bytesRow (str s) _)[j]? = _
    rw [h1]
    unfold bv str
    simp [List.getD_eq_getElem?_getD, List.getElem?_eq_getElem hj]
  refine ⟨_, _, h, (Below.drew (Below.refl _ W)).alloc (Nat.le_refl _) _, fun j u hj => ?_, ⟨_, _, rfl, hcap, fun _ => ⟨W.heap.size, 0, rfl, fun j hj => by rw [Nat.zero_add]; exact hat j hj⟩⟩⟩
  have hl : j < s.length := by have := (List.getElem?_eq_some_iff.1 hj).1; rwa [List.length_map] at this
  have hadd : (⟨W.heap.size, 0, none⟩ : Addr).add j = ⟨W.heap.size, j, none⟩ := by unfold Addr.add; split <;> simp_all
  rw [hadd, hat j hl]
  rw [List.getElem?_map, List.getElem?_eq_getElem hl] at hj
  rw [List.getD_eq_getElem?_getD, List.getElem?_eq_getElem hl]
  exact hj
/-- the text of a head, as far as some runs -/
def hdTo (h : Hd) (k : Nat) : Bs := (h.runs.take k).foldl (fun s r => s ++ 32 :: itoa r) (itoa h.log ++ 32 :: itoa h.next)
theorem hdTo_succ {h : Hd} {k x : Nat} (hx : h.runs[k]? = some x) : hdTo h (k + 1) = hdTo h k ++ 32 :: itoa x := by
  unfold hdTo
  rw [List.take_add_one, hx]
  show ((h.runs.take k ++ [x]).foldl _ _) = _
  rw [List.foldl_append]
  rfl
theorem hdTo_len (h : Hd) (k : Nat) (h1 : h.log < 100000000) (h2 : h.next < 100000000) (h3 : ∀ r ∈ h.runs, r < 100000000) : (hdTo h k).length ≤ 17 + 9 * h.runs.length := by
  have := text_len ⟨h.log, h.runs.take k, h.next⟩ h1 h2 fun r hr => h3 r (List.mem_of_mem_take hr)
  have e : (h.runs.take k).length ≤ h.runs.length := by rw [List.length_take]; omega
  refine Nat.le_trans this ?_
  show 17 + 9 * (h.runs.take k).length ≤ _
  omega
set_option maxRecDepth 100000 in
set_option maxHeartbeats 8000000 in
/-- the bytes of a head -/
theorem headBytes_any (h : Hd) (rv : Value) (w : World) (hv : IsV w rv (h.runs.map iv)) (h1 : h.log < 100000000) (h2 : h.next < 100000000) (h3 : ∀ r ∈ h.runs, r < 100000000) (hl : h.runs.length ≤ 1000) (hG : Glb w) :
    Calls Tryz.prog 169 #[.agg #[.int .i64 (h.log : Int), rv, .int .i64 (h.next : Int)]] w fun e w' => ∃ v', e = .returned v' ∧ OwnV w' w.heap.size 5 v' (h.bytes.map bv) ∧ Below w.heap.size w w' := by
  obtain ⟨va, vc, rfl⟩ := isV_slice hv
  obtain ⟨N, hN⟩ : ∃ N, N = h.runs.length := ⟨_, rfl⟩
  rw [List.length_map, ← hN] at hv ⊢
  obtain ⟨rv, hrv⟩ : ∃ rv, rv = Value.slice va N vc := ⟨_, rfl⟩
  have HBX := hid (heap_alloc_new w (.cells #[.int .i64 (h.log : Int), .slice va N vc, .int .i64 (h.next : Int)] 103))
  have HBB := hid (ba w (.cells #[.int .i64 (h.log : Int), .slice va N vc, .int .i64 (h.next : Int)] 103))
  have HGG := hid (hG.below HBB.out)
  have HV := hid hv
  have HN := hid hN
  have H3 := hid h3
  have hsl : (str (itoa h.log)).size ≤ 8 := by rw [str_size]; exact itoa_len h1
  have hsn : (str (itoa h.next)).size ≤ 8 := by rw [str_size]; exact itoa_len h2
  rw [← hN] at hl
  clear hv hN h3 hG
  go_enter Tryz.func169, Tryz.ntmps169
  go_upto_region 1 with fail
  obtain ⟨X, hX⟩ : ∃ X, X = w.heap.size := ⟨_, rfl⟩
  generalize w.alloc (.cells #[.int .i64 (h.log : Int), .slice va N vc, .int .i64 (h.next : Int)] 103) = w1 at *
  rw [← hX] at HBX ⊢
  rw [← hrv] at HBX ⊢
  have HXE := hid hX
  have HRV := hid hrv
  clear hX hrv
  refine wp_region_held_drew (S := fun w' => w'.heap[X]? = some (.cells #[.int .i64 (h.log : Int), rv, .int .i64 (h.next : Int)] 103)) (by kernel_rfl) HBX.out (fun hHeld => ?_)
  have HGu0 : Hid (Glb w1.drew) := hid (HGG.out.keep rfl rfl)
  have HBu0 : Hid (Below w.heap.size w w1.drew) := hid (HBB.out.trans ⟨rfl, rfl, rfl, Nat.le_refl _, fun _ _ => rfl⟩)
  generalize w1.drew = u0 at *
  refine take_at (i := 0) 6 (v := .pointer (some ⟨X, 0, none⟩)) rfl (by kernel_rfl) (by kernel_rfl) (by kernel_rfl) rfl (fun _ _ _ h => h) (by rfl) (fun w hSw => ?_) hHeld ?_
  · (try dsimp only at hSw); go_simp
  simp only [Act.put, List.setIfInBounds_toArray, List.set_cons_zero, List.set_cons_succ]
  refine take_at (i := 1) 7 (v := .int .i64 (h.log : Int)) rfl (by kernel_rfl) (by kernel_rfl) (by kernel_rfl) rfl (fun _ _ _ h => h) (by rfl) (fun w hSw => ?_) hHeld ?_
  · (try dsimp only at hSw); obtain ⟨q0, q1, q2⟩ := cells3_of hSw; go_simp
  simp only [Act.put, List.setIfInBounds_toArray, List.set_cons_zero, List.set_cons_succ]
  refine take_at (i := 4) 10 (v := .pointer (some ⟨X, 2, none⟩)) rfl (by kernel_rfl) (by kernel_rfl) (by kernel_rfl) rfl (fun _ _ _ h => h) (by rfl) (fun w hSw => ?_) hHeld ?_
  · (try dsimp only at hSw); go_simp
  simp only [Act.put, List.setIfInBounds_toArray, List.set_cons_zero, List.set_cons_succ]
  refine take_at (i := 5) 11 (v := .int .i64 (h.next : Int)) rfl (by kernel_rfl) (by kernel_rfl) (by kernel_rfl) rfl (fun _ _ _ h => h) (by rfl) (fun w hSw => ?_) hHeld ?_
  · (try dsimp only at hSw); obtain ⟨q0, q1, q2⟩ := cells3_of hSw; go_simp
  simp only [Act.put, List.setIfInBounds_toArray, List.set_cons_zero, List.set_cons_succ]
  refine wpAnyH_ready (rs := [2]) (by kernel_rfl) (by simp) ?_
  refine node_c1 126 3 8 7 (.int .i64 (h.log : Int)) (enters_of Tryz.func126 (by kernel_rfl) rfl) rfl (by rfl) rfl rfl rfl ((itoa_any h.log (by omega) u0 HGu0.out).mono ?_) AllReadyH.nil
  rintro e u1 ⟨rfl, hb⟩
  have HGu1 := hid (HGu0.out.below hb)
  have HBu1 := hid (HBu0.out.trans (hb.mono HBu0.out.size))
  have hH2 : u1.heap[X]? = some (.cells #[.int .i64 (h.log : Int), rv, .int .i64 (h.next : Int)] 103) := (hb.block X (heap_lt hHeld)).trans hHeld
  clear hHeld hb
  have hHeld := hH2
  clear hH2
  refine ⟨_, rfl, hHeld, ?_⟩
  simp only [Act.put, List.setIfInBounds_toArray, List.set_cons_zero, List.set_cons_succ]
  refine take_at (i := 3) 9 (v := .string (str (itoa h.log) ++ ⟨#[32]⟩)) rfl (by kernel_rfl) (by kernel_rfl) (by kernel_rfl) rfl (fun _ _ _ h => h) (by rfl) (fun w hSw => ?_) hHeld ?_
  · (try dsimp only at hSw); go_simp <;> omega
  simp only [Act.put, List.setIfInBounds_toArray, List.set_cons_zero, List.set_cons_succ]
  refine wpAnyH_ready (rs := [6]) (by kernel_rfl) (by simp) ?_
  refine node_c1 126 3 12 11 (.int .i64 (h.next : Int)) (enters_of Tryz.func126 (by kernel_rfl) rfl) rfl (by rfl) rfl rfl rfl ((itoa_any h.next (by omega) u1 HGu1.out).mono ?_) AllReadyH.nil
  rintro e u2 ⟨rfl, hb⟩
  have HGu2 := hid (HGu1.out.below hb)
  have HBu2 := hid (HBu1.out.trans (hb.mono HBu1.out.size))
  have hH2 : u2.heap[X]? = some (.cells #[.int .i64 (h.log : Int), rv, .int .i64 (h.next : Int)] 103) := (hb.block X (heap_lt hHeld)).trans hHeld
  clear hHeld hb
  have hHeld := hH2
  clear hH2
  refine ⟨_, rfl, hHeld, ?_⟩
  simp only [Act.put, List.setIfInBounds_toArray, List.set_cons_zero, List.set_cons_succ]
  refine take_at (i := 7) 13 (v := .string ((str (itoa h.log) ++ ⟨#[32]⟩) ++ str (itoa h.next))) rfl (by kernel_rfl) (by kernel_rfl) (by kernel_rfl) rfl (fun _ _ _ h => h) (by rfl) (fun w hSw => ?_) hHeld ?_
  · (try dsimp only at hSw); go_simp <;> omega
  simp only [Act.put, List.setIfInBounds_toArray, List.set_cons_zero, List.set_cons_succ]
  refine take_at (i := 8) 3 (v := .string ((str (itoa h.log) ++ ⟨#[32]⟩) ++ str (itoa h.next))) rfl (by kernel_rfl) (by kernel_rfl) (by kernel_rfl) rfl (fun _ _ _ h => h) (by rfl) (fun w hSw => ?_) hHeld ?_
  · (try dsimp only at hSw); go_simp
  simp only [Act.put, List.setIfInBounds_toArray, List.set_cons_zero, List.set_cons_succ]
  refine wpAnyH_done (by kernel_rfl) ?_ _
  have he0 : str (itoa h.log) ++ ⟨#[32]⟩ ++ str (itoa h.next) = str (hdTo h 0) := by
    have e : (⟨#[32]⟩ : ByteArray) = str [32] := rfl
    rw [e, str_cat, str_cat]
    unfold hdTo
    rw [List.take_zero, List.foldl_nil]
    congr 1
    simp
  rw [he0]
  have HLEN : Hid (∀ k, (str (hdTo h k)).size ≤ 20000) := hid fun k => by
    rw [str_size]
    have := hdTo_len h k h1 h2 H3.out
    have := HN.out
    omega
  have HBX2 := hid hHeld
  obtain ⟨-, q1, -⟩ := cells3_of hHeld
  rw [HRV.out] at q1
  clear hHeld he0 hsl hsn
  go_wp2_with fail
  go_loopw [3, 17] (fun tv kv wr => ∃ k : Nat, kv = .int .i64 (k : Int) ∧ k ≤ N ∧ tv = .string (str (hdTo h k)) ∧ Hid (Below w.heap.size w wr) ∧ Hid (Glb wr)) (fun _ kv _ => N - (intOf kv).toNat)
  case atStart => exact ⟨0, rfl, Nat.zero_le _, rfl, HBu2, HGu2⟩
  case round =>
    obtain ⟨k, rfl, hk, rfl, HB, HGr⟩ := hrel
    rename World => wr
    by_cases hlt : k < N
    · have hkl : k < h.runs.length := by rw [← HN.out]; exact hlt
      obtain ⟨x, hx⟩ : ∃ x, h.runs[k]? = some x := ⟨_, List.getElem?_eq_getElem hkl⟩
      obtain ⟨g, rfl, -, hc⟩ := isV_at HV.out k (by rw [List.length_map]; exact hkl)
      rw [List.getD_eq_getElem?_getD, List.getElem?_map, hx] at hc
      have e1 : wr.cell? ⟨g, k, none⟩ = some (.int .i64 (x : Int)) := (HB.out.cell (World.block_lt_of_cell? w _ hc)).trans hc
      have hx8 : x < 100000000 := H3.out x (List.mem_of_getElem? hx)
      have HRF := hid (itoa_any x hx8 wr HGr.out)
      have HX := hid hx
      have hs1 := HLEN.out k
      have hs2 : (str (itoa x)).size ≤ 8 := by rw [str_size]; exact itoa_len hx8
      clear hx hc hkl hx8
      go_wp2_with (first
        | (go_at_call 126; refine HRF.out.mono ?_; rintro e w4 ⟨rfl, hb⟩; have HB1 := hid (HB.out.trans (hb.mono HB.out.size)); have HG1 := hid (HGr.out.below hb); clear hb)
        | fail)
      go_roundw
      case rel =>
        refine ⟨k + 1, by go_num, hlt, ?_, HB1, HG1⟩
        rw [hdTo_succ HX.out]
        have e : (⟨#[32]⟩ : ByteArray) = str [32] := rfl
        rw [e, str_cat, str_cat]
        rfl
      case measure => simp [intOf]; omega
    · obtain rfl : k = N := by omega
      have ht : hdTo h k = h.text := by
        unfold hdTo Hd.text
        rw [List.take_of_length_le (by rw [← HN.out]; exact Nat.le_refl _)]
      have hl2 := HLEN.out k
      rw [ht] at hl2 ⊢
      rw [str_size] at hl2
      have HB := hid HB.out
      clear ht
      obtain ⟨w9, cp, hcv, hb9, hba, hisb⟩ := conv_bytes h.text wr
      have HBA := hid hba
      have HIB := hid hisb
      have HB9 := hid (HB.out.trans (hb9.mono HB.out.size))
      have hl3 : h.text.length ≤ 800000 := by omega
      have HBL := hid (block_any ⟨wr.heap.size, 0, none⟩ h.text.length cp h.text w9 rfl HIB.out HBA.out hl3)
      have HZ : Hid (w.heap.size ≤ w9.heap.size) := hid HB9.out.size
      clear hb9 hba hisb hl2 hl3
      go_wp2_with (first | (go_at_call 78; refine HBL.out.mono ?_; rintro e w10 ⟨v', rfl, ho, hb⟩; have HO := hid ho; have HB10 := hid (HB9.out.trans (hb.mono HB9.out.size)); obtain ⟨a5, n5, c5, rfl⟩ := ownV_sh ho; clear ho hb) | fail)
      go_ret
      exact ⟨_, rfl, ownV_mono HO.out HZ.out, HB10.out⟩
end Go.Proofs.YtpenleogafdbhaaGreatDoor
