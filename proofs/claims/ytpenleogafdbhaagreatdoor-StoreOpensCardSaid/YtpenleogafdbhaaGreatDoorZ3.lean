/-
  A disk: is it one; an act is counted.
  Names: one of them bad.
  How many bytes all files have.
  A new disk; armed; restarted.
  A disk is restarted.
-/
import Derived.Test.YtpenleogafdbhaaGreatDoorZ2
import Derived.Shelf.Abstract
import Derived.BigRegion
namespace Go.Proofs.YtpenleogafdbhaaGreatDoor
open Go.RowKit Go.Maps Go.ChangeMaps Go.WideElems Go.WideShapes Go.WideAt Go.WideMaps
theorem modify_at {w : World} {G off : Nat} {cs : Array Value} {t : TypeId} {v : Value} (h : w.heap[G]? = some (.cells cs t)) : (w.setCell ⟨G, off, none⟩ v).heap[G]? = some (.cells (cs.setIfInBounds off v) t) := by
  unfold World.setCell
  simp [Array.getElem?_modify, h]
/-- a rational is stored in a list -/
theorem set_other {w : World} {a : Addr} {v : Value} {k : Nat} (hk : k ≠ a.block) : (w.setCell a v).heap[k]? = w.heap[k]? := Below.heap_setCell _ _ _ _ hk
theorem cells5_of {W : World} {g : Nat} {a b c d e : Value} {t : TypeId} (h : W.heap[g]? = some (.cells #[a, b, c, d, e] t)) : W.cell? ⟨g, 0, none⟩ = some a ∧ W.cell? ⟨g, 1, none⟩ = some b ∧ W.cell? ⟨g, 2, none⟩ = some c ∧ W.cell? ⟨g, 3, none⟩ = some d ∧ W.cell? ⟨g, 4, none⟩ = some e := by
  simp [World.cell?, h]
theorem free_of {W : World} {g : Nat} {cs : Array Value} {t : TypeId} (h : W.heap[g]? = some (.cells cs t)) (i : Nat) : W.frozen? ⟨g, i, none⟩ = false := by simp [World.frozen?, h]
theorem is_b (dp : Nat) (b : Bool) (w : World) (h : w.cell? ⟨dp, 0, none⟩ = some (.bool b)) : Calls Tryz.prog 62 #[.pointer (some ⟨dp, 0, none⟩)] w fun e w' => e = .returned (.bool b) ∧ w' = w := by
  go_enter Tryz.func62, Tryz.ntmps62
  go_wp2_with fail
  go_ret
  exact ⟨rfl, rfl⟩
theorem is_nil (w : World) : Calls Tryz.prog 62 #[.pointer none] w fun e w' => e = .returned (.bool false) ∧ w' = w := by
  go_enter Tryz.func62, Tryz.ntmps62
  go_wp2_with fail
  go_ret
  exact ⟨rfl, rfl⟩
theorem is_any {dp mb : Nat} {L : Mp FileR} {d : Dk} {w : World} (h : DiskM w dp mb L d) : Calls Tryz.prog 62 #[.pointer (some ⟨dp, 0, none⟩)] w fun e w' => e = .returned (.bool true) ∧ w' = w :=
  is_b dp true w (cells5_of h.cells).1
theorem DiskM.two {w : World} {dp mb : Nat} {L : Mp FileR} {d d' : Dk} (h : DiskM w dp mb L d) (hd : d'.files = d.files) (ho : d'.opened = d.opened) (x : Int) (hx : x = (d'.left : Int)) :
    DiskM ((w.setCell ⟨dp, 3, none⟩ (.int .i64 x)).setCell ⟨dp, 2, none⟩ (.bool d'.down)) dp mb L d' := by
  refine h.scal hd ?_ fun k _ hn => (set_other hn).trans (set_other hn)
  rw [modify_at (modify_at h.cells), hx, ho]
  rfl
theorem chg_two {w : World} {dp : Nat} {u v : Value} {i j : Nat} : Chg (fun k => k = dp) w ((w.setCell ⟨dp, i, none⟩ u).setCell ⟨dp, j, none⟩ v) := Chg.trans0 (F := fun k => k = dp) (chg_set rfl) (chg_set rfl)
/-- an act is counted -/
theorem act_any (dp mb : Nat) (L : Mp FileR) (d : Dk) (w : World) (h : DiskM w dp mb L d) (hl : d.left < 9223372036854775808) :
    Calls Tryz.prog 88 #[.pointer (some ⟨dp, 0, none⟩)] w fun e w' => e = .returned (.bool d.act.down) ∧ DiskM w' dp mb L d.act ∧ Chg (fun k => k = dp) w w' := by
  obtain ⟨e0, e1, e2, e3, e4⟩ := cells5_of h.cells
  have f2 := free_of h.cells 2
  have f3 := free_of h.cells 3
  have HD := hid h
  have HC := hid h.cells
  clear h
  go_enter Tryz.func88, Tryz.ntmps88
  by_cases h0 : 0 < d.left
  · by_cases h1 : d.left = 1
    · have hz : ((d.left : Int) - 1 == 0) = true := by rw [h1]; rfl
      have HA : Hid (d.act = { d with down := true, left := 0 }) := hid (by unfold Dk.act; rw [if_pos h0, h1]; rfl)
      go_wp2_with fail
      go_ret
      rw [HA.out]
      exact ⟨rfl, HD.out.two (d' := { d with down := true, left := 0 }) rfl rfl 0 rfl, chg_two⟩
    · have hz : ((d.left : Int) - 1 == 0) = false := by simp; omega
      have HA : Hid (d.act = { d with down := false, left := d.left - 1 }) := hid (by
        unfold Dk.act
        rw [if_pos h0]
        have : (d.left == 1) = false := by simpa using h1
        rw [this])
      go_wp2_with fail
      go_ret
      rw [HA.out]
      exact ⟨rfl, HD.out.two (d' := { d with down := false, left := d.left - 1 }) rfl rfl _ (by show _ = ((d.left - 1 : Nat) : Int); omega), chg_two⟩
  · have HA : Hid (d.act = d) := hid (by unfold Dk.act; rw [if_neg h0])
    go_wp2_with fail
    go_ret
    rw [HA.out]
    exact ⟨rfl, HD.out, Chg.refl _ _⟩
/-- how an act ends -/
theorem told_any (dp mb : Nat) (L : Mp FileR) (d : Dk) (w : World) (h : DiskM w dp mb L d) (hl : d.left < 9223372036854775808) :
    Calls Tryz.prog 94 #[.pointer (some ⟨dp, 0, none⟩)] w fun e w' => e = .returned (.int .i64 (d.told.1 : Int)) ∧ DiskM w' dp mb L d.told.2 ∧ Chg (fun k => k = dp) w w' := by
  have HA := hid (act_any dp mb L d w h hl)
  clear h
  go_enter Tryz.func94, Tryz.ntmps94
  go_wp2_with fail
  go_at_call 88
  refine HA.out.mono ?_
  rintro e w1 ⟨rfl, hd, hc⟩
  have HD := hid hd
  have HC := hid hc
  clear hd hc HA
  cases hb : d.act.down with
  | true =>
    have HT : Hid (d.told = (8, d.act)) := hid (by unfold Dk.told; rw [if_pos hb])
    clear hb
    go_wp2_with fail
    go_ret
    rw [HT.out]
    exact ⟨rfl, HD.out, HC.out⟩
  | false =>
    have HT : Hid (d.told = (0, d.act)) := hid (by unfold Dk.told; rw [hb]; rfl)
    clear hb
    go_wp2_with fail
    go_ret
    rw [HT.out]
    exact ⟨rfl, HD.out, HC.out⟩
end Go.Proofs.YtpenleogafdbhaaGreatDoor

namespace Go.Proofs.YtpenleogafdbhaaGreatDoor
open Go.RowKit Go.Maps Go.ChangeMaps Go.WideElems Go.WideShapes Go.WideAt Go.WideMaps
theorem toList_data (s : ByteArray) : s.toList = s.data.toList := by
  obtain ⟨⟨l⟩⟩ := s
  simp
set_option maxHeartbeats 400000 in
/-- slices.IndexFunc of strings, ContainsFunc -/
def PredS (g : Nat) (lb : Array Value) (p : Bs → Bool) (xs : List ByteArray) (w : World) : Prop :=
  ∀ (W : World) (s : ByteArray), Below w.heap.size w W → s ∈ xs → Calls Tryz.prog g (#[.string s] ++ lb) W fun e w' => e = .returned (.bool (p s.data.toList)) ∧ Below w.heap.size w w'
set_option maxRecDepth 100000 in
set_option maxHeartbeats 4000000 in
theorem indexS_any (g : Nat) (lb : Array Value) (p : Bs → Bool) (v : Value) (xs : List ByteArray) (w : World) (eg : ∀ args w, (callFunc g args).run Tryz.prog w = .ok (.enter g args) w)
    (hv : IsV w v (xs.map .string)) (hp : PredS g lb p xs w) (hl : xs.length ≤ 1000000) :
    Calls Tryz.prog 123 #[v, .func (.func g) #[] lb] w fun e w' => ∃ r : Int, e = .returned (.int .i64 r) ∧ decide (0 ≤ r) = xs.any (fun s => p s.data.toList) ∧ Below w.heap.size w w' := by
  obtain ⟨va, vc, rfl⟩ := isV_slice hv
  rw [List.length_map] at hv ⊢
  have HV := hid hv
  have HP := hid hp
  clear hv hp
  obtain ⟨n, hn⟩ : ∃ n, n = xs.length := ⟨_, rfl⟩
  have HN := hid hn
  rw [← hn] at hl HV ⊢
  clear hn
  go_enter Tryz.func123, Tryz.ntmps123
  go_wp2_with fail
  go_loopw [8] (fun kv wr => ∃ k : Nat, kv = .int .i64 (k : Int) ∧ k ≤ n ∧ Hid ((xs.take k).any (fun s => p s.data.toList) = false) ∧ Hid (Below w.heap.size w wr)) (fun kv _ => n - (intOf kv).toNat)
  case atStart => exact ⟨0, rfl, Nat.zero_le _, rfl, Below.refl _ _⟩
  case round =>
    obtain ⟨k, rfl, hk, HA, HB⟩ := hrel
    rename World => wr
    by_cases hlt : k < n
    · have hkl : k < xs.length := by rw [← HN.out]; exact hlt
      obtain ⟨G, rfl, -, e0⟩ := isV_at (isV_below HV.out HB.out) k (by rw [List.length_map]; exact hkl)
      rw [getD_map Value.string xs ByteArray.empty k hkl] at e0
      have hx : xs.getD k ByteArray.empty ∈ xs := by
        rw [List.getD_eq_getElem?_getD, List.getElem?_eq_getElem hkl]
        exact List.getElem_mem hkl
      have HC := hid (HP.out wr (xs.getD k ByteArray.empty) HB.out hx)
      have HT : Hid (xs.take (k + 1) = xs.take k ++ [xs.getD k ByteArray.empty]) := hid (by
        rw [List.take_add_one, List.getElem?_eq_getElem hkl, List.getD_eq_getElem?_getD, List.getElem?_eq_getElem hkl]; rfl)
      have HD : Hid (xs = xs.take k ++ (xs.getD k ByteArray.empty :: xs.drop (k + 1))) := hid (by
        rw [List.getD_eq_getElem?_getD, List.getElem?_eq_getElem hkl]
        exact (List.take_append_drop k xs).symm.trans (by rw [List.drop_eq_getElem_cons hkl]; rfl))
      clear hx
      generalize xs.getD k ByteArray.empty = s at *
      cases hq : p s.data.toList with
      | true =>
        rw [hq] at HC
        have HQ := hid hq
        clear hq hkl
        go_wp2_with (first | (go_at_fn g; refine HC.out.mono ?_; rintro e w1 ⟨rfl, hb1⟩; have HB1 := hid hb1; clear hb1) | fail)
        go_ret
        refine ⟨_, rfl, ?_, HB1.out⟩
        rw [HD.out, List.any_append, List.any_cons, HQ.out]
        simp
      | false =>
        rw [hq] at HC
        have HQ := hid hq
        clear hq hkl
        go_wp2_with (first | (go_at_fn g; refine HC.out.mono ?_; rintro e w1 ⟨rfl, hb1⟩; have HB1 := hid hb1; clear hb1) | fail)
        go_roundw
        case rel => exact ⟨k + 1, by go_num, by omega, hid (by rw [HT.out, List.any_append, HA.out, List.any_cons, HQ.out]; rfl), HB1⟩
        case measure => simp [intOf]; omega
    · obtain rfl : k = n := by omega
      go_wp2_with fail
      go_ret
      refine ⟨_, rfl, ?_, HB.out⟩
      have h := HA.out
      rw [List.take_of_length_le (by rw [← HN.out]; exact Nat.le_refl _)] at h
      rw [h]
      rfl
theorem containsS_any (g : Nat) (lb : Array Value) (p : Bs → Bool) (v : Value) (xs : List ByteArray) (w : World) (eg : ∀ args w, (callFunc g args).run Tryz.prog w = .ok (.enter g args) w)
    (hv : IsV w v (xs.map .string)) (hp : PredS g lb p xs w) (hl : xs.length ≤ 1000000) :
    Calls Tryz.prog 63 #[v, .func (.func g) #[] lb] w fun e w' => e = .returned (.bool (xs.any (fun s => p s.data.toList))) ∧ Below w.heap.size w w' := by
  have HI := hid (indexS_any g lb p v xs w eg hv hp hl)
  clear hv hp
  obtain ⟨b, hb⟩ : ∃ b, b = xs.any (fun s => p s.data.toList) := ⟨_, rfl⟩
  rw [← hb] at HI ⊢
  clear hb
  go_enter Tryz.func63, Tryz.ntmps63
  go_wp2_with fail
  go_at_call 123
  refine HI.out.mono ?_
  rintro e w1 ⟨r, rfl, hr, hb1⟩
  have HB1 := hid hb1
  clear hb1 HI
  have HR := hid hr
  clear hr
  go_wp2_with fail
  go_ret
  exact ⟨by rw [← HR.out]; rfl, HB1.out⟩
/-- a name is bad -/
theorem bad_any (s : ByteArray) (w : World) : Calls Tryz.prog 144 #[.string s] w fun e w' => e = .returned (.bool (badName s.data.toList)) ∧ w' = w := by
  have hsz : s.data.toList.length = s.size := rfl
  have HB : Hid (badName s.data.toList = (s.size == 0 || decide (16 < s.size))) := hid (by unfold badName; rw [hsz])
  clear hsz
  go_enter Tryz.func144, Tryz.ntmps144
  by_cases h0 : s.size = 0
  · have he : (s.toList == []) = true := by
      rw [toList_data]
      have : s.data.toList = [] := List.eq_nil_of_length_eq_zero h0
      rw [this]; rfl
    have HR : Hid (badName s.data.toList = true) := hid (by rw [HB.out, h0]; rfl)
    clear h0 HB
    go_wp2_with fail
    go_ret
    rw [HR.out]
    exact ⟨rfl, rfl⟩
  · have he : (s.toList == []) = false := by
      rw [toList_data, beq_eq_false_iff_ne]
      intro h
      exact h0 (show s.data.toList.length = 0 by rw [h]; rfl)
    have HR : Hid (badName s.data.toList = decide (16 < (s.size : Int))) := hid (by
      have : (s.size == 0) = false := by simpa using h0
      rw [HB.out, this, Bool.false_or]
      exact decide_eq_decide.2 (by omega))
    clear HB
    go_wp2_with fail
    go_ret
    rw [HR.out]
    exact ⟨rfl, rfl⟩
end Go.Proofs.YtpenleogafdbhaaGreatDoor

namespace Go.Proofs.YtpenleogafdbhaaGreatDoor
open Go.RowKit Go.Maps Go.ChangeMaps Go.WideElems Go.WideShapes Go.WideAt Go.WideMaps
theorem sum_mdel {α : Type} (f : Bs → Nat) {k : Bs} {v : α} : ∀ {m : Mp α}, Srt m → (k, v) ∈ m → (m.map fun p => f p.1).sum = f k + ((mdel k m).map fun p => f p.1).sum
  | [], _, h => by cases h
  | p :: r, hs, h => by
    obtain ⟨h1, h2⟩ := List.pairwise_cons.1 hs
    by_cases hk : p.1 = k
    · have e : mdel k (p :: r) = r := by
        have e1 : mdel k (p :: r) = mdel k r := by unfold mdel; rw [List.filter_cons, if_neg (by simp [hk])]
        rw [e1, mdel_none (mget_none.2 fun x hx => by rw [← hk]; exact (bb_ne (h1 x hx)).symm)]
      rw [e, List.map_cons, List.sum_cons, hk]
    · have e : mdel k (p :: r) = p :: mdel k r := by unfold mdel; rw [List.filter_cons, if_pos (by simp [hk])]
      have h3 : (k, v) ∈ r := by
        rcases List.mem_cons.1 h with h | h
        · rw [← h] at hk; exact absurd rfl hk
        · exact h
      have ih := sum_mdel f h2 h3
      rw [e, List.map_cons, List.sum_cons, List.map_cons, List.sum_cons, ih]
      omega
def lenAt (L : Mp FileR) (k : Bs) : Nat := match mget k L with | none => 0 | some r => r.f.data.length
theorem size_lens {w : World} {dp mb : Nat} {L : Mp FileR} {d : Dk} (h : DiskM w dp mb L d) : d.size = ((mmap FileR.ptr L).map fun p => lenAt L p.1).sum := by
  unfold Dk.size
  rw [h.files]
  unfold mmap
  rw [List.map_map, List.map_map]
  congr 1
  refine List.map_congr_left fun p hp => ?_
  show p.2.f.data.length = lenAt L p.1
  unfold lenAt
  rw [mem_mget h.srt (show (p.1, p.2) ∈ L from hp)]
theorem zero118 (w : World) : (zeroValue 118).run Tryz.prog w = .ok (.pointer none) w := by kernel_rfl
set_option maxRecDepth 100000 in
set_option maxHeartbeats 4000000 in
theorem size_any (dp mb : Nat) (L : Mp FileR) (d : Dk) (w : World) (h : DiskM w dp mb L d) (hsz : d.size ≤ 1000000000) :
    Calls Tryz.prog 96 #[.pointer (some ⟨dp, 0, none⟩)] w fun e w' => e = .returned (.int .i64 (d.size : Int)) ∧ Below w.heap.size w w' := by
  obtain ⟨e0, e1, e2, e3, e4⟩ := cells5_of h.cells
  have HD := hid h
  have HS := hid (size_lens h)
  obtain ⟨T, hT⟩ : ∃ T, T = d.size := ⟨_, rfl⟩
  rw [← hT] at HS hsz ⊢
  clear h hT
  have HM : Hid (MapM Tryz.prog 9 w mb (mmap FileR.ptr L)) := HD.out.map
  go_enter Tryz.func96, Tryz.ntmps96
  go_wp2_with (first
    | (at_range; refine wpl_range rfl _ 49 rfl 9 118 Tryz.underlying9 Tryz.underlying49 mb (mmap FileR.ptr L) rfl HM.out ?_; intro w0 hrg0 hb0 hs0)
    | fail)
  go_frame
  have HR0 := hid hrg0
  have HB0 := hid hb0
  clear hrg0 hb0 hs0
  go_loopw [3, 5] (fun nv _ wr => ∃ (rem : Mp Value) (acc : Nat), nv = .int .i64 (acc : Int) ∧ acc ≤ T ∧ Hid (RangeM Tryz.prog 9 wr mb w.heap.size (mmap FileR.ptr L) rem) ∧ Hid (acc + (rem.map fun p => lenAt L p.1).sum = T) ∧ Hid (Below w.heap.size w wr)) (fun _ _ wr => wr.rangeLeft mb w.heap.size)
  case atStart => exact ⟨_, 0, rfl, Nat.zero_le _, HR0, hid (by rw [Nat.zero_add]; exact HS.out.symm), HB0⟩
  case round =>
    obtain ⟨rem, acc, rfl, hacc, HR, HA, HB⟩ := hrel
    rename World => wr
    go_wp2_with (first
      | (at_next; refine wpl_next rfl _ rfl 9 Tryz.underlying9 mb w.heap.size (mmap FileR.ptr L) rem rfl HR.out ?_ ?_)
      | fail)
    · intro hrem
      have hf : acc = T := by
        have := HA.out
        rw [hrem] at this
        simpa using this
      subst hf
      go_wp2_with fail
      go_ret
      exact ⟨rfl, HB.out⟩
    · intro s v w1 hmem hsl hrg1 hlt1 hg1 hsz1 hen
      obtain ⟨h1, h2, h3, _⟩ := HR.out
      obtain ⟨r, hr, rfl⟩ := mem_mmap.1 (h3 _ hmem)
      have HB1 : Hid (Below w.heap.size w w1) := hid (HB.out.trans ⟨hg1.os, hg1.tape, hg1.output, hg1.size, fun j hj => hg1.block j (Nat.lt_of_lt_of_le hj HB.out.size) (fun e => by cases e; omega)⟩)
      have hfm := (HD.out.below HB1.out).file _ hr
      obtain ⟨q, k, hv⟩ := ownV_slice hfm.2
      rw [List.length_map] at hv
      have hc := hfm.1
      rw [hv] at hc
      obtain ⟨c0, c1⟩ := cells2_of hc
      have hle : lenAt L s.data.toList = r.f.data.length := by unfold lenAt; rw [mem_mget HD.out.srt hr]
      have hsum := sum_mdel (lenAt L) h2 hmem
      rw [hle] at hsum
      have HA2 : Hid (acc + r.f.data.length + ((mdel s.data.toList rem).map fun p => lenAt L p.1).sum = T) := hid (by have := HA.out; omega)
      have HR1 := hid hrg1
      have HL1 := hid hlt1
      have hacc2 : acc + r.f.data.length ≤ T := by have := HA2.out; omega
      clear h1 h2 h3 hr hmem hrg1 hlt1 hg1 hsz1 hfm hv hc hle hsum
      unfold FileR.ptr at hen ⊢
      go_wp2_with fail
      go_roundw
      case rel => exact ⟨_, acc + r.f.data.length, by go_num, hacc2, HR1, HA2, HB1⟩
      case measure => exact HL1.out
end Go.Proofs.YtpenleogafdbhaaGreatDoor

namespace Go.Proofs.YtpenleogafdbhaaGreatDoor
open Go.RowKit Go.Maps Go.ChangeMaps Go.WideElems Go.WideShapes Go.WideAt Go.WideMaps
theorem alloc_sz (w : World) (o : Obj) : (w.alloc o).heap.size = w.heap.size + 1 := by
  show (w.heap.push o).size = _
  exact Array.size_push _
theorem ownV_cut {w : World} {B : Nat} {e : TypeId} {q : Option Addr} {n k m : Nat} {xs : List Value} (h : OwnV w B e (.slice q n k) xs) (hm : m ≤ n) : OwnV w B e (.slice q m k) (xs.take m) := by
  obtain ⟨h0, h⟩ := h
  rcases h with ⟨h1, h2⟩ | ⟨g, cap, cur, h1, h2, h3, h4, h5, h6, h7⟩
  · injection h1 with e1 e2 e3
    subst e1; subst e2; subst e3
    obtain rfl : m = 0 := by omega
    rw [List.take_zero]
    exact World.ownsRow_nil _ _ _ _
  · injection h1 with e1 e2 e3
    subst e1; subst e2; subst e3
    have hl : (xs.take m).length = m := by rw [List.length_take]; omega
    refine ⟨by omega, .inr ⟨g, k, cur, by rw [hl], h2, h3, by omega, h5, h6, ?_⟩⟩
    rw [hl, Nat.mul_one]
    rw [Nat.mul_one] at h7
    rw [← h7, List.take_take, Nat.min_eq_left (by omega)]
/-- a file as a restart leaves it -/
def FileR.cut (keep : Nat) (r : FileR) : FileR := ⟨r.g, match r.v with | .slice q _ k => .slice q (r.f.cut keep).safe k | x => x, r.f.cut keep⟩
theorem cut_ptr (keep : Nat) (r : FileR) : (r.cut keep).ptr = r.ptr := rfl
theorem cut_own (keep : Nat) (r : FileR) : (r.cut keep).v.ownBlock = r.v.ownBlock := by
  unfold FileR.cut
  cases hv : r.v with
  | slice q n k => cases q <;> rfl
  | _ => rfl
theorem cut_le (f : Fl) (keep : Nat) (h : f.safe ≤ f.data.length) : (f.cut keep).safe ≤ f.data.length := by
  unfold Fl.cut
  have := Nat.mod_lt keep (show 0 < f.data.length - f.safe + 1 by omega)
  show f.safe + keep % (f.data.length - f.safe + 1) ≤ _
  omega
theorem FileM.set {w : World} {r : FileR} {keep : Nat} (h : FileM w r) (hs : r.f.safe ≤ r.f.data.length) {q : Option Addr} {n k : Nat} (hv : r.v = .slice q n k) :
    FileM ((w.setCell ⟨r.g, 1, none⟩ (.int .i64 ((r.f.cut keep).safe : Int))).setCell ⟨r.g, 0, none⟩ (.slice q (r.f.cut keep).safe k)) (r.cut keep) := by
  have hn : n = r.f.data.length := by
    have := ownV_len h.2
    rw [hv, List.length_map] at this
    exact this
  have hcv : (r.cut keep).v = .slice q (r.f.cut keep).safe k := by unfold FileR.cut; rw [hv]
  refine ⟨?_, ?_⟩
  · have e : (r.cut keep).g = r.g := rfl
    rw [e, modify_at (modify_at h.1), hcv]
    rfl
  · rw [hcv]
    show OwnV _ 0 5 _ ((r.f.cut keep).data.map bv)
    have e : (r.f.cut keep).data = r.f.data.take (r.f.cut keep).safe := rfl
    rw [e, List.map_take]
    have h2 := h.2
    rw [hv] at h2
    refine ownV_keep (ownV_cut h2 (by rw [hn]; exact cut_le _ _ hs)) fun j hj => ?_
    have hne : j ≠ r.g := h.row h j (by rw [hv]; cases q <;> first | exact hj | exact absurd hj (by simp [Value.ownBlock]))
    exact (set_other hne).trans (set_other hne)
set_option maxRecDepth 100000 in
theorem newDisk_any (w : World) : Calls Tryz.prog 15 #[] w fun e w' => ∃ dp mb, e = .returned (.pointer (some ⟨dp, 0, none⟩)) ∧ DiskM w' dp mb [] Dk.new ∧ Below w.heap.size w w' ∧ w.heap.size ≤ dp ∧ w.heap.size ≤ mb := by
  have hmm := @run_makeMap Tryz.prog
  go_enter Tryz.func15, Tryz.ntmps15
  go_wp2_with fail
  go_ret
  refine ⟨_, w.heap.size, rfl, ⟨(by rw [← alloc_sz w (.map #[] 0)]; exact heap_alloc_new _ _), (mapM_made w Tryz.prog 9).block ((ba (w.alloc (.map #[] 0)) _).block _ (by rw [alloc_sz]; exact Nat.lt_succ_self _)), rfl, fun p hp => (by cases hp), fun p hp => (by cases hp)⟩, ?_, ?_, Nat.le_refl _⟩
  · exact below_step (ba w _) (ba _ _)
  · simp
set_option maxRecDepth 100000 in
theorem arm_any (dp mb : Nat) (L : Mp FileR) (d : Dk) (n : Int) (w : World) (h : DiskM w dp mb L d) :
    Calls Tryz.prog 17 #[.pointer (some ⟨dp, 0, none⟩), .int .i64 n] w fun e w' => e = .returned (.tuple #[]) ∧ DiskM w' dp mb L (d.arm n) ∧ Chg (fun k => k = dp) w w' := by
  have HI := hid (is_any h)
  obtain ⟨e0, e1, e2, e3, e4⟩ := cells5_of h.cells
  have f3 := free_of h.cells 3
  have HD := hid h
  clear h
  go_enter Tryz.func17, Tryz.ntmps17
  rcases (show 0 < n ∨ n = 0 ∨ n < 0 by omega) with hn | rfl | hn
  · have HN := hid hn
    go_wp2_with (first | (go_at_call 62; refine HI.out.mono ?_; rintro e w1 ⟨rfl, rfl⟩) | fail)
    all_goals first | omega | skip
    go_end0
    refine ⟨rfl, HD.out.scal rfl ?_ fun k _ hn => set_other hn, chg_set rfl⟩
    rw [modify_at HD.out.cells]
    have : (((d.arm n).left : Nat) : Int) = n := by have := HN.out; show ((n.toNat : Nat) : Int) = n; omega
    rw [this]
    rfl
  · have hmx : max (0 : Int) 0 = 0 := rfl
    go_wp2_with (first | (go_at_call 62; refine HI.out.mono ?_; rintro e w1 ⟨rfl, rfl⟩) | fail)
    all_goals first | omega | skip
    all_goals go_end0
    all_goals refine ⟨rfl, HD.out.scal rfl ?_ fun k _ hn => set_other hn, chg_set rfl⟩
    all_goals rw [modify_at HD.out.cells]
    all_goals have : (((d.arm 0).left : Nat) : Int) = 0 := rfl
    all_goals rw [this]
    all_goals rfl
  · have HN := hid hn
    have hmx : max n 0 = 0 := by omega
    go_wp2_with (first | (go_at_call 62; refine HI.out.mono ?_; rintro e w1 ⟨rfl, rfl⟩) | fail)
    all_goals first | omega | skip
    all_goals go_end0
    all_goals refine ⟨rfl, HD.out.scal rfl ?_ fun k _ hn => set_other hn, chg_set rfl⟩
    all_goals rw [modify_at HD.out.cells]
    all_goals have : (((d.arm n).left : Nat) : Int) = 0 := by have := HN.out; show ((n.toNat : Nat) : Int) = 0; omega
    all_goals rw [this]
    all_goals rfl
set_option maxRecDepth 100000 in
theorem down_any (dp mb : Nat) (L : Mp FileR) (d : Dk) (w : World) (h : DiskM w dp mb L d) :
    Calls Tryz.prog 25 #[.pointer (some ⟨dp, 0, none⟩)] w fun e w' => e = .returned (.bool d.down) ∧ w' = w := by
  have HI := hid (is_any h)
  obtain ⟨e0, e1, e2, e3, e4⟩ := cells5_of h.cells
  clear h
  go_enter Tryz.func25, Tryz.ntmps25
  go_wp2_with (first | (go_at_call 62; refine HI.out.mono ?_; rintro e w1 ⟨rfl, rfl⟩) | fail)
  go_ret
  exact ⟨rfl, rfl⟩
end Go.Proofs.YtpenleogafdbhaaGreatDoor

namespace Go.Proofs.YtpenleogafdbhaaGreatDoor
open Go.RowKit Go.Maps Go.ChangeMaps Go.WideElems Go.WideShapes Go.WideAt Go.WideMaps
theorem mem_le_sum : ∀ {l : List Nat} {x : Nat}, x ∈ l → x ≤ l.sum
  | y :: r, x, h => by
    rw [List.sum_cons]
    rcases List.mem_cons.1 h with rfl | h
    · omega
    · have := mem_le_sum h; omega
theorem len_le_size {d : Dk} {p : Bs × Fl} (h : p ∈ d.files) : p.2.data.length ≤ d.size := mem_le_sum (List.mem_map.2 ⟨p, h, rfl⟩)
/-- where a restart stands: files still to come are as they were, the others are cut -/
def half (rem : Mp Value) (kn : Nat) (p : Bs × FileR) : FileR := if (mget p.1 rem).isSome = true then p.2 else p.2.cut kn
theorem half_g (rem : Mp Value) (kn : Nat) (p : Bs × FileR) : (half rem kn p).g = p.2.g := by unfold half; split <;> rfl
theorem half_own (rem : Mp Value) (kn : Nat) (p : Bs × FileR) : (half rem kn p).v.ownBlock = p.2.v.ownBlock := by
  unfold half
  split
  · rfl
  · exact cut_own _ _
theorem restart_round {w wr w1 w2 : World} {dp mb kn : Nat} {L : Mp FileR} {d : Dk} {rem : Mp Value} {s : Bs} {r : FileR} (HD : DiskM w dp mb L d) (HF : ∀ p ∈ L, FileM wr (half rem kn p)) (hr : (s, r) ∈ L)
    (hk1 : ∀ j, j < wr.heap.size → j ≠ w.heap.size → w1.heap[j]? = wr.heap[j]?) (hF1 : FileM w1 r) (hF2 : FileM w2 (r.cut kn)) (hk2 : ∀ j, j ≠ r.g → w2.heap[j]? = w1.heap[j]?) : ∀ p ∈ L, FileM w2 (half (mdel s rem) kn p) := by
  intro p hp
  by_cases hs : p.1 = s
  · have e : p.2 = r := by
      obtain ⟨a, b⟩ := p
      obtain rfl : a = s := hs
      exact mem_unique HD.srt hp hr
    unfold half
    rw [hs, mget_mdel_same, e]
    exact hF2
  · have e : half (mdel s rem) kn p = half rem kn p := by unfold half; rw [mget_mdel_other hs]
    rw [e]
    have h0 := HF p hp
    have hlt := (HD.file p hp).lt
    have h1 : FileM w1 (half rem kn p) := h0.keep (hk1 _ h0.lt.1 (by rw [half_g]; have := hlt.1; omega)) fun j hj => hk1 j (h0.lt.2 j hj) (by rw [half_own] at hj; have := hlt.2 j hj; omega)
    refine h1.keep (hk2 _ ?_) fun j hj => hk2 j ?_
    · rw [half_g]
      exact (HD.apart p hp (s, r) hr hs).1
    · exact h1.row hF1 j hj
theorem restart_end {w wr w2 : World} {dp mb kn : Nat} {L : Mp FileR} {d : Dk} {keep : Int} (HD : DiskM w dp mb L d) (HM : MapM Tryz.prog 9 wr mb (mmap FileR.ptr L)) (HF : ∀ p ∈ L, FileM wr (p.2.cut kn))
    (hc : w2.heap[dp]? = some (.cells #[.bool true, .map (some mb), .bool false, .int .i64 0, .int .i64 ((d.opened : Int) + 1)] 51)) (hb : ∀ j, j ≠ dp → w2.heap[j]? = wr.heap[j]?) (hk : kn = keep.toNat) :
    DiskM w2 dp mb (mmap (FileR.cut kn) L) (d.restart keep) := by
  subst hk
  refine ⟨by rw [hc]; rfl, ?_, ?_, fun p hp => ?_, fun p hp q hq hne => ?_⟩
  · rw [mmap_mmap]
    exact HM.block (hb mb HD.dp_mb.symm)
  · show d.files.map _ = _
    rw [HD.files, mmap_mmap]
    unfold mmap
    rw [List.map_map]
    rfl
  · obtain ⟨r, hr, e⟩ := mem_mmap.1 (show (p.1, p.2) ∈ _ from hp)
    rw [← e]
    refine (HF _ hr).keep (hb _ (HD.g_dp hr)) fun k hk => hb k fun e2 => ?_
    rw [cut_own] at hk
    exact HD.v_dp hr (e2 ▸ hk)
  · obtain ⟨r, hr, e⟩ := mem_mmap.1 (show (p.1, p.2) ∈ _ from hp)
    obtain ⟨u, hu, e2⟩ := mem_mmap.1 (show (q.1, q.2) ∈ _ from hq)
    have := HD.apart _ hr _ hu hne
    rw [← e, ← e2]
    refine ⟨this.1, fun k hk => ?_⟩
    rw [cut_own] at hk ⊢
    exact this.2 k hk
set_option maxRecDepth 100000 in
set_option maxHeartbeats 8000000 in
theorem restart_any (dp mb : Nat) (L : Mp FileR) (d : Dk) (keep : Int) (w : World) (h : DiskM w dp mb L d) (hok : d.Ok) :
    Calls Tryz.prog 21 #[.pointer (some ⟨dp, 0, none⟩), .int .i64 keep] w fun e w' => e = .returned (.tuple #[]) ∧ DiskM w' dp mb (mmap (FileR.cut keep.toNat) L) (d.restart keep) ∧ Chg (fpD dp mb L) w w' := by
  have HI := hid (is_any h)
  obtain ⟨e0, e1, e2, e3, e4⟩ := cells5_of h.cells
  have HD := hid h
  have HOK := hid hok
  obtain ⟨kn, hkn⟩ : ∃ kn : Nat, kn = keep.toNat := ⟨_, rfl⟩
  have hmax : (if keep < 0 then 0 else keep) = (kn : Int) := by split <;> omega
  have HKN := hid hkn
  have HM : Hid (MapM Tryz.prog 9 w mb (mmap FileR.ptr L)) := HD.out.map
  rw [← hkn]
  clear h hok hkn
  go_enter Tryz.func21, Tryz.ntmps21
  go_wp2_with (first
    | (go_at_call 62; refine HI.out.mono ?_; rintro e w1 ⟨rfl, hw⟩; obtain rfl := hw.symm)
    | (at_range; refine wpl_range rfl _ 49 rfl 9 118 Tryz.underlying9 Tryz.underlying49 mb (mmap FileR.ptr L) rfl HM.out ?_; intro w0 hrg0 hb0 hs0)
    | fail)
  go_frame
  have HR0 := hid hrg0
  have HB0 := hid hb0
  clear hrg0 hb0 hs0
  go_loopw [5] (fun _ wr => ∃ rem : Mp Value, Hid (RangeM Tryz.prog 9 wr mb w.heap.size (mmap FileR.ptr L) rem) ∧ Hid (∀ p ∈ L, FileM wr (half rem kn p)) ∧ Hid (Chg (fun k => ∃ p ∈ L, k = p.2.g) w wr)) (fun _ wr => wr.rangeLeft mb w.heap.size)
  case atStart => exact ⟨_, HR0, hid (fun p hp => by
    unfold half
    rw [mget_mmap, mem_mget HD.out.srt (show (p.1, p.2) ∈ L from hp)]
    exact (HD.out.below HB0.out).file p hp), hid (chg_below HB0.out)⟩
  case round =>
    obtain ⟨rem, HR, HF, HC⟩ := hrel
    rename World => wr
    go_wp2_with (first
      | (at_next; refine wpl_next rfl _ rfl 9 Tryz.underlying9 mb w.heap.size (mmap FileR.ptr L) rem rfl HR.out ?_ ?_)
      | fail)
    · intro hrem
      have HC2 := hid (HC.out.keep (G := fun k => k = dp) (fun k h1 h2 => by
        obtain ⟨p, hp, e⟩ := h1
        exact HD.out.g_dp hp (e.symm.trans h2)) (fun k e => by rw [e]; exact heap_lt HD.out.cells))
      have hcr := (HC2.out dp rfl).trans HD.out.cells
      obtain ⟨y0, y1, y2, y3, y4⟩ := cells5_of hcr
      have y5 := free_of hcr 2
      have y6 := free_of hcr 3
      have y7 := free_of hcr 4
      have hop : d.opened < 1000000000 := HOK.out.opened
      have HCR := hid hcr
      clear hcr
      have HRM : Hid (MapM Tryz.prog 9 wr mb (mmap FileR.ptr L)) := hid HR.out.map
      have HFC : Hid (∀ p ∈ L, FileM wr (p.2.cut kn)) := hid fun p hp => by
        have := HF.out p hp
        rw [hrem] at this
        exact this
      go_wp2_with fail
      go_end0
      have hb2 : ∀ j, j ≠ dp → (((wr.setCell ⟨dp, 2, none⟩ (.bool false)).setCell ⟨dp, 3, none⟩ (.int .i64 0)).setCell ⟨dp, 4, none⟩ (.int .i64 ((d.opened : Int) + 1))).heap[j]? = wr.heap[j]? := fun j hj => (set_other (a := ⟨dp, 4, none⟩) hj).trans ((set_other (a := ⟨dp, 3, none⟩) hj).trans (set_other (a := ⟨dp, 2, none⟩) hj))
      refine ⟨rfl, restart_end HD.out HRM.out HFC.out ?_ hb2 (by rw [HKN.out]), ?_⟩
      · rw [modify_at (modify_at (modify_at HCR.out))]
        rfl
      · have g1 : Chg (fpD dp mb L) w wr := HC.out.mono fun k h1 => by
          obtain ⟨p, hp, e⟩ := h1
          exact .inr (.inr ⟨p, hp, .inl e⟩)
        exact g1.trans0 ((chg_set (F := fpD dp mb L) (.inl rfl)).trans0 ((chg_set (.inl rfl)).trans0 (chg_set (.inl rfl))))
    · intro s v w1 hmem hsl hrg1 hlt1 hg1 hsz1 hen
      obtain ⟨h1, h2, h3, _⟩ := HR.out
      obtain ⟨r, hr, rfl⟩ := mem_mmap.1 (h3 _ hmem)
      have hms : (mget s.data.toList rem).isSome = true := by rw [mem_mget h2 hmem]; rfl
      have hf := HF.out _ hr
      unfold half at hf
      simp only [hms, if_true] at hf
      have hgw : r.g < w.heap.size := (HD.out.file _ hr).lt.1
      have hne : r.g ≠ w.heap.size := by omega
      have hk1 : ∀ j, j < wr.heap.size → j ≠ w.heap.size → w1.heap[j]? = wr.heap[j]? := fun j hj hn => hg1.block j hj (fun e => hn (Option.some.inj e))
      have hf1 : FileM w1 r := hf.keep (hk1 _ hf.lt.1 hne) fun j hj => hk1 j (hf.lt.2 j hj) (fun e => by
        have := (ownV_lt (HD.out.file _ hr).2 j hj).2
        omega)
      obtain ⟨q, k, hv⟩ := ownV_slice hf1.2
      rw [List.length_map] at hv
      have hkc : r.f.data.length ≤ k := by have := hf1.2; rw [hv] at this; exact ownV_capN this
      have HSF0 : Hid (r.f.safe ≤ r.f.data.length) := HOK.out.safe (s.data.toList, r.f) (by rw [HD.out.files]; exact mem_mmap.2 ⟨r, hr, rfl⟩)
      have hsf := HOK.out.safe (s.data.toList, r.f) (by rw [HD.out.files]; exact mem_mmap.2 ⟨r, hr, rfl⟩)
      have hc := hf1.1
      rw [hv] at hc
      obtain ⟨c0, c1⟩ := cells2_of hc
      have f0 := free_of hc 0
      have f1 := free_of hc 1
      obtain ⟨nn, hnn⟩ : ∃ nn, nn = r.f.data.length := ⟨_, rfl⟩
      obtain ⟨sf, hsfe⟩ : ∃ sf, sf = r.f.safe := ⟨_, rfl⟩
      obtain ⟨sn, hsn⟩ : ∃ sn, sn = (r.f.cut kn).safe := ⟨_, rfl⟩
      have hsn2 : sn = sf + kn % (nn - sf + 1) := by rw [hsn, hsfe, hnn]; rfl
      have hle : sn ≤ nn := by rw [hsn, hnn]; exact cut_le _ _ hsf
      rw [← hnn, ← hsfe] at hsf
      have hnb : nn ≤ 262144 := by
        have h1 := len_le_size (d := d) (p := (s.data.toList, r.f)) (by rw [HD.out.files]; exact mem_mmap.2 ⟨r, hr, rfl⟩)
        have h2 := HOK.out.size
        rw [hnn]
        exact Nat.le_trans h1 h2
      obtain ⟨gp, hgp⟩ : ∃ gp, gp = nn - sf := ⟨_, rfl⟩
      obtain ⟨x, hx⟩ : ∃ x, x = kn % (gp + 1) := ⟨_, rfl⟩
      rw [← hgp, ← hx] at hsn2
      have hsub : (nn : Int) - (sf : Int) = (gp : Int) := by omega
      have hmod : (kn : Int) % ((gp : Int) + 1) = (x : Int) := by rw [hx]; exact (Int.natCast_emod _ _).symm
      have hsum : (sf : Int) + (x : Int) = (sn : Int) := by omega
      have hgb : gp ≤ 262144 := by omega
      have hsb : sn ≤ 262144 := by omega
      have HSF := hid hsf
      clear hsf hgp hx
      have HR1 := hid hrg1
      have HF1 := hid hf1
      have HG1 := hid hg1
      have HL1 := hid hlt1
      have HV := hid hv
      rw [← hnn] at c0 HV hkc
      rw [← hsfe] at c1
      have HSN := hid hsn
      have HSN2 := hid hsn2
      have HRR := hid hr
      have HNN := hid hnn
      have HMEM := hid hmem
      have HNE := hid hne
      have HK1 := hid hk1
      clear h1 h2 h3 hms hf hgw hk1 hf1 hv hc hrg1 hlt1 hg1 hsz1 hr hnn hsfe hsn hsn2 hmem hne hnb
      unfold FileR.ptr at hen ⊢
      go_wp2_with fail
      go_region
      go_wp2_with fail
      go_region
      go_roundw
      case rel =>
        have hf2 := HF1.out.set (keep := kn) HSF0.out HV.out
        rw [← HSN.out] at hf2
        have hgm : mb ≠ r.g := (HD.out.g_mb HRR.out).symm
        have hb2 : ∀ j, j ≠ r.g → (((w1.setCell ⟨r.g, 1, none⟩ (.int .i64 (sn : Int))).setCell ⟨r.g, 0, none⟩ (.slice q sn k)).drew.drew).heap[j]? = w1.heap[j]? := fun j hj => (set_other (a := ⟨r.g, 0, none⟩) hj).trans (set_other (a := ⟨r.g, 1, none⟩) hj)
        refine ⟨_, _, _, _, _, _, _, _, _, _, _, _, _, _, _, _, _, _, _, _, _, _, _, _, _, _, _, _, _, _, _, _, _, _, _, _, _, _, ?_, rfl⟩
        refine ⟨_, hid (HR1.out.block (hb2 mb hgm) (hb2 _ HNE.out.symm)), hid (restart_round HD.out HF.out HRR.out HK1.out HF1.out hf2 hb2), hid ?_⟩
        have g1 : Chg (fun k => k = w.heap.size) wr w1 := chg_grown HG1.out fun k e => (Option.some.inj e).symm
        have g2 : Chg (fun k => ∃ p ∈ L, k = p.2.g) w w1 := HC.out.trans g1 fun k e => .inr (Nat.le_of_eq e.symm)
        exact g2.trans0 (((chg_set (F := fun k => ∃ p ∈ L, k = p.2.g) ⟨_, HRR.out, rfl⟩).trans0 (chg_set ⟨_, HRR.out, rfl⟩)).trans0 ((chg_drew _).trans0 (chg_drew _)))
      case measure =>
        have hgm : mb ≠ r.g := (HD.out.g_mb HRR.out).symm
        have hb2 : ∀ j, j ≠ r.g → (((w1.setCell ⟨r.g, 1, none⟩ (.int .i64 (sn : Int))).setCell ⟨r.g, 0, none⟩ (.slice q sn k)).drew.drew).heap[j]? = w1.heap[j]? := fun j hj => (set_other (a := ⟨r.g, 0, none⟩) hj).trans (set_other (a := ⟨r.g, 1, none⟩) hj)
        rw [rangeLeft_same (hb2 mb hgm) (hb2 _ HNE.out.symm)]
        exact HL1.out
end Go.Proofs.YtpenleogafdbhaaGreatDoor
