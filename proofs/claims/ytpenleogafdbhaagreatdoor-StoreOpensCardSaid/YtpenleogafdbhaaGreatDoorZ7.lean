/-
  The bytes of a file.
  Strings taken off.
  Which letter it is.
-/
import Derived.Test.YtpenleogafdbhaaGreatDoorZ6
import Derived.Lib.SliceRun
import Derived.BigRegion
import Derived.Laws.IdiomStrings
namespace Go.Proofs.YtpenleogafdbhaaGreatDoor
open Go.RowKit Go.Maps Go.ChangeMaps Go.WideElems Go.WideShapes Go.WideAt Go.WideMaps
theorem own_bytesAt {w : World} {B : Nat} {g n c : Nat} {bs : Bs} (h : OwnV w B 5 (.slice (some ⟨g, 0, none⟩) n c) (bs.map bv)) : BytesAt w ⟨g, 0, none⟩ bs := fun j u hj => by
  have hl : j < (bs.map bv).length := (List.getElem?_eq_some_iff.1 hj).1
  have hadd : (⟨g, 0, none⟩ : Addr).add j = ⟨g, j, none⟩ := by unfold Addr.add; split <;> simp_all
  rw [hadd, ownV_cell h j hl, List.getD_eq_getElem?_getD, hj]
  rfl
set_option maxRecDepth 100000 in
set_option maxHeartbeats 4000000 in
theorem cloneB_any (v : Value) (bs : Bs) (B : Nat) (w : World) (hv : OwnV w B 5 v (bs.map bv)) (hl : bs.length ≤ 1000000) :
    Calls Tryz.prog 95 #[v] w fun e w' => ∃ v', e = .returned v' ∧ OwnV w' w.heap.size 5 v' (bs.map bv) ∧ Below w.heap.size w w' := by
  rcases hv.2 with ⟨rfl, h0⟩ | ⟨g, cap, cur, rfl, -⟩
  · have hb : bs = [] := List.eq_nil_of_length_eq_zero (by rw [List.length_map] at h0; exact h0)
    subst hb
    have heq := Go.Lib.run_eql_slice_nil w 59 5 none 0 0 0 0 Tryz.underlying59
    go_enter Tryz.func95, Tryz.ntmps95
    go_wp2_with fail
    go_ret
    exact ⟨_, rfl, ownV_nil _ _ _, Below.refl _ _⟩
  · have HV := hid hv
    rw [List.length_map] at HV ⊢
    have HBY := hid (own_bytesAt HV.out)
    clear hv
    have heq := Go.Lib.run_eql_slice_nil w 59 5 (some ⟨g, 0, none⟩) bs.length cap 0 0 Tryz.underlying59
    go_enter Tryz.func95, Tryz.ntmps95
    go_upto_region 3 with fail
    go_wp2_with (first
      | (at_builtin; refine wpl_app_b rfl _ _ rfl w.heap.size (.slice (some ⟨w.heap.size, 0, none⟩) 0 0) [] bs rfl (ownV_made w w.heap.size 5 (Nat.le_refl _)) ⟨g, 0, none⟩ bs.length cap rfl rfl (HBY.out.below (ba w _)) (Nat.zero_le _) (Nat.le_trans hl (by decide)) (ba w _).size ?_; intro v5 w5 ho5 hg5 hl5; have HO5 := hid ho5; have HB5 := hid ((ba w (.cells #[] 5)).grown hg5 (ba w _).size (fun j hj => by simp [Value.ownBlock] at hj; exact Nat.le_of_eq hj)); obtain ⟨a5, n5, c5, rfl⟩ := ownV_sh ho5; clear ho5 hg5 hl5)
      | fail)
    go_ret
    exact ⟨_, rfl, HO5.out, HB5.out⟩
set_option maxRecDepth 100000 in
set_option maxHeartbeats 4000000 in
theorem bytes_any (dp mb : Nat) (L : Mp FileR) (d : Dk) (s : ByteArray) (w : World) (h : DiskM w dp mb L d) (hok : d.Ok) (hs : s.size ≤ maxLen) :
    Calls Tryz.prog 59 #[.pointer (some ⟨dp, 0, none⟩), .string s] w fun e w' => ∃ v', e = .returned v' ∧ OwnV w' w.heap.size 5 v' ((d.bytes s.data.toList).map bv) ∧ Below w.heap.size w w' := by
  have HI := hid (is_any h)
  obtain ⟨e0, e1, e2, e3, e4⟩ := cells5_of h.cells
  have HD := hid h
  have HOK := hid hok
  have HS := hid hs
  have hlk := h.map.look (t := 49) (e := 118) Tryz.underlying9 Tryz.underlying49 (zero118 w) hs
  clear h hok hs
  cases hg : mget s.data.toList L with
  | none =>
    have HBN : Hid (d.bytes s.data.toList = []) := hid (by unfold Dk.bytes; rw [HD.out.get, hg]; rfl)
    rw [mget_mmap, hg] at hlk
    clear hg
    go_enter Tryz.func59, Tryz.ntmps59
    go_wp2_with (first | (go_at_call 62; refine HI.out.mono ?_; rintro e w1 ⟨rfl, hw⟩; obtain rfl := hw.symm) | fail)
    go_ret
    rw [HBN.out]
    exact ⟨_, rfl, ownV_nil _ _ _, Below.refl _ _⟩
  | some r =>
    have HBN : Hid (d.bytes s.data.toList = r.f.data) := hid (by unfold Dk.bytes; rw [HD.out.get, hg]; rfl)
    have HMR : Hid ((s.data.toList, r) ∈ L) := hid (mget_mem hg)
    rw [mget_mmap, hg] at hlk
    have hlk2 : (Instr.lookup 49 (.map (some mb)) (.string s) false).run Tryz.prog w = .ok (.pointer (some ⟨r.g, 0, none⟩)) w := hlk
    clear hg hlk
    have hfm := HD.out.file _ HMR.out
    have hlen := len_le_size (d := d) (p := (s.data.toList, r.f)) (by rw [HD.out.files]; exact mem_mmap.2 ⟨r, HMR.out, rfl⟩)
    have CL := hid (cloneB_any r.v r.f.data 0 w hfm.2 (by have := HOK.out.size; exact Nat.le_trans hlen (by omega)))
    obtain ⟨c0, c1⟩ := cells2_of hfm.1
    obtain ⟨q, k, hv⟩ := ownV_slice hfm.2
    rw [hv] at c0 CL
    rw [List.length_map] at c0 CL
    clear hfm hlen hv
    go_enter Tryz.func59, Tryz.ntmps59
    go_wp2_with (first | (go_at_call 62; refine HI.out.mono ?_; rintro e w1 ⟨rfl, hw⟩; obtain rfl := hw.symm) | fail)
    go_at_call 95
    refine CL.out.mono ?_
    rintro e w2 ⟨v', rfl, ho2, hb2⟩
    have HO2 := hid ho2
    have HB2 := hid hb2
    obtain ⟨a5, n5, c5, rfl⟩ := ownV_sh ho2
    clear ho2 hb2
    go_wp2_with fail
    go_ret
    rw [HBN.out]
    exact ⟨_, rfl, HO2.out, HB2.out⟩
end Go.Proofs.YtpenleogafdbhaaGreatDoor

namespace Go.Proofs.YtpenleogafdbhaaGreatDoor
open Go.RowKit Go.Maps Go.ChangeMaps Go.WideElems Go.WideShapes Go.WideAt Go.WideMaps
theorem wrapb (n : Nat) (h : n < 256) : (UInt8.ofNat n).toNat = n := by rw [UInt8.toNat_ofNat']; omega
set_option maxRecDepth 100000 in
set_option maxHeartbeats 8000000 in
/-- a string is taken off -/
theorem take_any (X : Nat) (v : Value) (s r : Bs) (w : World) (hx : w.heap[X]? = some (.cells #[v] 59)) (hv : IsB w v (UInt8.ofNat s.length :: s ++ r)) (hs : s.length ≤ 200) (hr : r.length ≤ 1000000) :
    Calls Tryz.prog 130 #[.pointer (some ⟨X, 0, none⟩)] w fun e w' => ∃ v', e = .returned (.tuple #[.string (str s), .bool true]) ∧ w'.heap[X]? = some (.cells #[v'] 59) ∧ IsB w' v' r ∧ Chg (fun k => k = X) w w' ∧ ∀ k, v'.ownBlock = some k → v.ownBlock = some k := by
  obtain ⟨p, c, rfl, hc⟩ := hv.sh
  have HV := hid hv
  have hN : (UInt8.ofNat s.length :: s ++ r).length = 1 + s.length + r.length := by simp; omega
  obtain ⟨g, off, rfl, e0⟩ := hv.at 0 (by omega)
  rw [hN] at hc HV hx
  rw [Nat.add_zero, show (UInt8.ofNat s.length :: s ++ r).getD 0 0 = UInt8.ofNat s.length from rfl] at e0
  unfold bv at e0
  rw [wrapb _ (by omega)] at e0
  have b0 := box1 hx
  have f0 := box1_free hx
  obtain ⟨N, hNe⟩ : ∃ N, N = 1 + s.length + r.length := ⟨_, rfl⟩
  obtain ⟨ns, hns⟩ : ∃ n, n = s.length := ⟨_, rfl⟩
  rw [← hNe] at b0 hc HV hx
  rw [← hns] at e0 hs
  have HX := hid hx
  have hN1 : 1 ≤ N := by omega
  have hNs : ns + 1 ≤ N := by omega
  have hNb : N ≤ 2000000 := by omega
  clear hv hN hx
  have HNE := hid hNe
  have HNS := hid hns
  clear hNe hns
  have HGX : Hid (g ≠ X) := hid (fun e => by
    have h := e0
    rw [e, World.cell?, HX.out] at h
    cases off with
    | zero => simp at h
    | succ o => simp at h)
  have HRS : Hid (IsB w (.slice (some ⟨g, off + (1 + ns), none⟩) (N - (1 + ns)) (c - (1 + ns))) r) := hid (by
    have hd : (UInt8.ofNat s.length :: s ++ r).drop (1 + ns) = r := by
      rw [HNS.out, Nat.add_comm, List.cons_append, List.drop_succ_cons, List.drop_left' rfl]
    have h := HV.out.sub (k := c - (1 + ns)) (cs := r) (1 + ns) rfl (by rw [hd]; exact List.take_of_length_le (Nat.le_refl _)) (by have := HNE.out; have := HNS.out; omega) (by have := HNE.out; have := HNS.out; omega)
    rwa [show r.length = N - (1 + ns) by have := HNE.out; have := HNS.out; omega] at h)
  have HEND : Hid (∀ v', IsB w v' r → v'.ownBlock = some g → (w.setCell ⟨X, 0, none⟩ v').heap[X]? = some (.cells #[v'] 59) ∧ IsB (w.setCell ⟨X, 0, none⟩ v') v' r ∧ Chg (fun k => k = X) w (w.setCell ⟨X, 0, none⟩ v')) := hid (fun v' h1 h2 =>
    ⟨heap_setCell1 HX.out, h1.keep fun k hk _ => set_other (by rw [h2] at hk; cases hk; exact HGX.out), chg_set rfl⟩)
  have hd1 : decide ((N : Int) < 1) = false := by simp; omega
  have hd2 : decide ((N : Int) < 1 + (ns : Int)) = false := by simp; omega
  have hd3 : ¬ ((N : Int) < 1) := by omega
  have hd4 : ¬ ((N : Int) < 1 + (ns : Int)) := by omega
  go_enter Tryz.func130, Tryz.ntmps130
  rcases (show c = 1 ∨ 1 < c by omega) with hc1 | hc1
  · have hs0 : s = [] := List.eq_nil_of_length_eq_zero (by have := HNE.out; have := HNS.out; omega)
    have hns0 : ns = 0 := by omega
    have hcv : ∀ W : World, (convert 59 9 (.slice (some ⟨g, off, none⟩) 0 0)).run Tryz.prog W = .ok (.string (str s)) W := fun W => by
      rw [hs0]
      exact run_convert_bytes_back W 59 9 5 ⟨g, off, none⟩ 0 [] Tryz.underlying59 Tryz.underlying5 Tryz.underlying9 (fun j hj => absurd hj (Nat.not_lt_zero _))
    have hN1e : N = 1 := by omega
    have hr : r = [] := List.eq_nil_of_length_eq_zero (by have := HNE.out; have := HNS.out; omega)
    have HR := hid hr
    clear hr hs0
    subst hns0
    subst hN1e
    subst hc1
    have hw8 : IntKind.u8.wrap (1 : Int) = 1 := by decide
    go_upto_region 1 with fail
    go_region
    go_wp2_with fail
    go_region
    go_wp2_with fail
    go_region
    go_wp2_with fail
    go_ret2
    obtain ⟨h1, h2, h3⟩ := HEND.out (.slice (some ⟨g, off, none⟩) 0 0) (by rw [HR.out]; exact isB_nil _ _ _) rfl
    exact ⟨_, rfl, h1, h2, ((h3.trans0 (chg_drew _)).trans0 (chg_drew _)).trans0 (chg_drew _), fun k hk => hk⟩
  · have hcv : ∀ W : World, W.heap = w.heap → (convert 59 9 (.slice (some ⟨g, off + 1, none⟩) ns (c - 1))).run Tryz.prog W = .ok (.string (str s)) W := fun W hW => by
      have hl := run_convert_bytes_back W 59 9 5 ⟨g, off + 1, none⟩ (c - 1) s Tryz.underlying59 Tryz.underlying5 Tryz.underlying9 (fun j hj => by
        have hadd : (⟨g, off + 1, none⟩ : Addr).add j = ⟨g, off + 1 + j, none⟩ := by unfold Addr.add; split <;> simp_all
        obtain ⟨g', off', e, h⟩ := HV.out.at (1 + j) (by have := HNS.out; have := HNE.out; omega)
        simp only [Option.some.injEq, Addr.mk.injEq, and_true] at e
        obtain ⟨rfl, rfl⟩ := e
        rw [hadd, World.cell?, hW, show off + 1 + j = off + (1 + j) by omega]
        refine h.trans ?_
        unfold bv
        congr 3
        rw [Nat.add_comm 1 j]
        rw [List.getD_eq_getElem?_getD, List.cons_append, List.getElem?_cons_succ, List.getElem?_append_left hj, List.getElem?_eq_getElem hj]
        rfl)
      rw [← HNS.out] at hl
      exact hl
    have hcv1 := hcv w.drew rfl
    have hcv2 := hcv w.drew.drew rfl
    have hcv3 := hcv w.drew.drew.drew rfl
    clear hcv
    have hw8 : IntKind.u8.wrap (1 + (ns : Int)) = 1 + (ns : Int) := by rw [IntKind.wrap_u8]; omega
    go_upto_region 1 with fail
    go_region
    go_wp2_with fail
    go_region
    clear hcv1 hcv2 hcv3
    rcases (show c = 1 + ns ∨ 1 + ns < c by omega) with hce | hce
    · go_wp2_with fail
      go_region
      go_wp2_with fail
      go_ret2
      have hr : r = [] := List.eq_nil_of_length_eq_zero (by have := HNE.out; have := HNS.out; omega)
      have hz : N - (1 + ns) = 0 := by omega
      obtain ⟨h1, h2, h3⟩ := HEND.out (.slice (some ⟨g, off, none⟩) (N - (1 + ns)) 0) (by rw [hr, hz]; exact isB_nil _ _ _) rfl
      exact ⟨_, rfl, h1, h2, ((h3.trans0 (chg_drew _)).trans0 (chg_drew _)).trans0 (chg_drew _), fun k hk => hk⟩
    · go_wp2_with fail
      go_region
      go_wp2_with fail
      go_ret2
      obtain ⟨h1, h2, h3⟩ := HEND.out _ HRS.out rfl
      exact ⟨_, rfl, h1, h2, ((h3.trans0 (chg_drew _)).trans0 (chg_drew _)).trans0 (chg_drew _), fun k hk => hk⟩
end Go.Proofs.YtpenleogafdbhaaGreatDoor

namespace Go.Proofs.YtpenleogafdbhaaGreatDoor
open Go.RowKit Go.Maps Go.ChangeMaps Go.WideElems Go.WideShapes Go.WideAt Go.WideMaps
theorem letter_any (X : Nat) (v : Value) (b0 c : UInt8) (rest : Bs) (w : World) (hx : w.heap[X]? = some (.cells #[v] 59)) (hv : IsB w v (b0 :: rest)) :
    Calls Tryz.prog 134 #[.int .u8 (c.toNat : Int), .pointer (some ⟨X, 0, none⟩)] w fun e w' => e = .returned (.bool (c == b0)) ∧ w' = w := by
  obtain ⟨p, k, rfl, hk⟩ := hv.sh
  obtain ⟨g, off, rfl, e0⟩ := hv.at 0 (by simp)
  rw [Nat.add_zero, show (b0 :: rest).getD 0 0 = b0 from rfl] at e0
  unfold bv at e0
  have b1 := box1 hx
  clear hx hv
  have hcb : (((c.toNat : Int)) == (b0.toNat : Int)) = (c == b0) := by
    rw [Bool.eq_iff_iff, beq_iff_eq, beq_iff_eq]
    constructor
    · intro h; exact UInt8.toNat_inj.1 (Int.ofNat_inj.1 h)
    · intro h; rw [h]
  have hc8 : c.toNat < 256 := c.toNat_lt
  have hb8 : b0.toNat < 256 := b0.toNat_lt
  obtain ⟨n, hn⟩ : ∃ n, n = (b0 :: rest).length := ⟨_, rfl⟩
  have hn1 : 1 ≤ n := by rw [hn]; simp
  rw [← hn] at b1
  clear hn hk
  go_enter Tryz.func134, Tryz.ntmps134
  go_wp2_with fail
  go_ret
  refine ⟨?_, rfl⟩
  first
    | rw [← hcb]; rfl
    | rfl
theorem eg134 : ∀ args w, (callFunc 134 args).run Tryz.prog w = .ok (.enter 134 args) w := enters_of Tryz.func134 (by kernel_rfl) rfl
set_option maxRecDepth 100000 in
set_option maxHeartbeats 4000000 in
/-- which letter it is -/
theorem indexL_any (X : Nat) (v lv : Value) (b0 : UInt8) (rest : Bs) (i : Nat) (w : World) (hx : w.heap[X]? = some (.cells #[v] 59)) (hv : IsB w v (b0 :: rest)) (hl : IsB w lv [61, 45]) (hi : (i = 0 ∧ b0 = 61) ∨ (i = 1 ∧ b0 = 45)) :
    Calls Tryz.prog 131 #[lv, .func (.func 134) #[] #[.pointer (some ⟨X, 0, none⟩)]] w fun e w' => e = .returned (.int .i64 (i : Int)) ∧ w' = w := by
  obtain ⟨p, k, rfl, hk⟩ := hl.sh
  obtain ⟨g, off, rfl, l0⟩ := hl.at 0 (by simp)
  obtain ⟨g', off', e, l1⟩ := hl.at 1 (by simp)
  simp only [Option.some.injEq, Addr.mk.injEq, and_true] at e
  obtain ⟨rfl, rfl⟩ := e
  rw [Nat.add_zero, show ([61, 45] : Bs).getD 0 0 = 61 from rfl] at l0
  rw [show ([61, 45] : Bs).getD 1 0 = 45 from rfl] at l1
  have L0 := hid (letter_any X v b0 61 rest w hx hv)
  have L1 := hid (letter_any X v b0 45 rest w hx hv)
  rw [show bv 61 = .int .u8 61 from rfl] at l0
  rw [show bv 45 = .int .u8 45 from rfl] at l1
  rw [show ((61 : UInt8).toNat : Int) = 61 from rfl] at L0
  rw [show ((45 : UInt8).toNat : Int) = 45 from rfl] at L1
  rw [show ([61, 45] : Bs).length = 2 from rfl] at hk ⊢
  have eg := eg134
  clear hx hv hl
  rcases hi with ⟨rfl, rfl⟩ | ⟨rfl, rfl⟩
  · rw [show ((61 : UInt8) == 61) = true from rfl] at L0
    go_enter Tryz.func131, Tryz.ntmps131
    go_wp2_with fail
    go_loop [8] (fun kv => kv = .int .i64 0) (fun _ => 0)
    case atStart => rfl
    case round =>
      subst hrel
      go_wp2_with (first | (go_at_call 134; refine L0.out.mono ?_; rintro e w1 ⟨rfl, hw⟩; obtain rfl := hw.symm) | fail)
      go_ret
      exact ⟨rfl, rfl⟩
  · rw [show ((61 : UInt8) == 45) = false from rfl] at L0
    rw [show ((45 : UInt8) == 45) = true from rfl] at L1
    go_enter Tryz.func131, Tryz.ntmps131
    go_wp2_with fail
    go_loop [8] (fun kv => kv = .int .i64 0 ∨ kv = .int .i64 1) (fun kv => 1 - (intOf kv).toNat)
    case atStart => exact .inl rfl
    case round =>
      rcases hrel with rfl | rfl
      · go_wp2_with (first | (go_at_call 134; refine L0.out.mono ?_; rintro e w1 ⟨rfl, hw⟩; obtain rfl := hw.symm) | fail)
        exact ⟨.inr rfl, by simp [intOf]⟩
      · go_wp2_with (first | (go_at_call 134; refine L1.out.mono ?_; rintro e w1 ⟨rfl, hw⟩; obtain rfl := hw.symm) | fail)
        go_ret
        exact ⟨rfl, rfl⟩
end Go.Proofs.YtpenleogafdbhaaGreatDoor
