/-
  Layings of shelf contracts at this dump, in plain words (out of lay-shelf.mjs and lay-plain.mjs).
  The names of the files.
  Names that a store knows.
  Changes read.
-/
import Derived.Test.YtpenleogafdbhaaGreatDoorZ7
import Derived.Shelf.Small.Bits
import Derived.Shelf.Small.Strs
import Derived.Shelf.Small.Wraps
import Derived.Shelf.Strconv.Atoi
import Derived.Shelf.Strconv.Itoa0
import Derived.Shelf.Strconv.Itoa1
import Derived.Shelf.LaysM
import Derived.Shelf.Strconv.Itoa2
import Derived.Shelf.Strconv.Itoa3
import Derived.Shelf.Strconv.AtoiErrFast
import Derived.Shelf.Strconv.ParseIntEmpty
import Derived.Shelf.Strconv.AtoiFail
import Derived.Shelf.Strconv.Clone
import Derived.Shelf.Strconv.SyntaxError
import Derived.Shelf.Strconv.Lower
import Derived.Shelf.Strconv.ParseUint10
import Derived.Shelf.Strconv.ParseUint10Empty
import Derived.Shelf.Strconv.RangeError
import Derived.Shelf.Strconv.ParseUintEmpty
import Derived.Shelf.Strconv.ParseUint10b64
import Derived.Shelf.Strconv.ParseUint10b32
import Derived.Shelf.Strconv.ParseUint10b16
import Derived.Shelf.Strconv.ParseUint10b8
import Derived.Shelf.Strings.Search1
import Derived.Shelf.Strings.Search2
import Derived.Shelf.Strings.Search3
import Derived.Shelf.Strings.Count
import Derived.Shelf.Sort.Plain
import Derived.Shelf.Strings.Prefix
import Derived.Shelf.Strings.Split
import Derived.Shelf.Slices.Turned
import Derived.Shelf.Slices.Clone
import Derived.Shelf.Slices.CompactS
import Derived.Shelf.Slices.Cells
import Derived.Shelf.Slices.In.SortNone
import Derived.Shelf.SlicesE.Clone
import Derived.Sort.OwnSorted
import Derived.Lib.AtoiErrMem
namespace Go.Proofs
open Go.Shelf
def Tryz.lays190_ren : Go.Shelf.Ren := ⟨fun | 190 => 118 | 125 => 153 | 258 => 152 | 128 => 185 | 129 => 186 | 302 => 176 | 303 => 177 | 304 => 178 | 305 => 179 | 306 => 180 | 307 => 181 | 308 => 182 | 309 => 183 | 310 => 184 | 333 => 200 | 329 => 201 | 330 => 202 | 334 => 203 | 335 => 204 | 336 => 205 | 344 => 219 | n => n, fun | 31 => 99 | 9 => 9 | 3 => 3 | 46 => 212 | 0 => 0 | 51 => 235 | 53 => 184 | 4 => 4 | 183 => 228 | 182 => 227 | 131 => 232 | 5 => 5 | 218 => 248 | 222 => 252 | 228 => 268 | 229 => 269 | n => n, fun | n => n⟩
theorem Tryz.lays190 : Go.Proofs.Lays.n190 Tryz.prog Tryz.lays190_ren := {
  mixed := by kernel_rfl
  f125 := Tryz.func153.trans (congrArg some (by kernel_rfl))
  f128 := Tryz.func185.trans (congrArg some (by kernel_rfl))
  f129 := Tryz.func186.trans (congrArg some (by kernel_rfl))
  f190 := Tryz.func118.trans (congrArg some (by kernel_rfl))
  f258 := Tryz.func152.trans (congrArg some (by kernel_rfl))
  f302 := Tryz.func176.trans (congrArg some (by kernel_rfl))
  f303 := Tryz.func177.trans (congrArg some (by kernel_rfl))
  f304 := Tryz.func178.trans (congrArg some (by kernel_rfl))
  f305 := Tryz.func179.trans (congrArg some (by kernel_rfl))
  f306 := Tryz.func180.trans (congrArg some (by kernel_rfl))
  f307 := Tryz.func181.trans (congrArg some (by kernel_rfl))
  f308 := Tryz.func182.trans (congrArg some (by kernel_rfl))
  f309 := Tryz.func183.trans (congrArg some (by kernel_rfl))
  f310 := Tryz.func184.trans (congrArg some (by kernel_rfl))
  f329 := Tryz.func201.trans (congrArg some (by kernel_rfl))
  f330 := Tryz.func202.trans (congrArg some (by kernel_rfl))
  f333 := Tryz.func200.trans (congrArg some (by kernel_rfl))
  f334 := Tryz.func203.trans (congrArg some (by kernel_rfl))
  f335 := Tryz.func204.trans (congrArg some (by kernel_rfl))
  f336 := Tryz.func205.trans (congrArg some (by kernel_rfl))
  f344 := Tryz.func219.trans (congrArg some (by kernel_rfl))
  t0 := Tryz.underlying0
  a0 := Tryz.isAgg0
  z0 := Tryz.sizeOf0
  v0 := Tryz.zeroValue0
  t3 := Tryz.underlying3
  a3 := Tryz.isAgg3
  z3 := Tryz.sizeOf3
  v3 := Tryz.zeroValue3
  t4 := Tryz.underlying4
  a4 := Tryz.isAgg4
  z4 := Tryz.sizeOf4
  v4 := Tryz.zeroValue4
  t5 := Tryz.underlying5
  a5 := Tryz.isAgg5
  z5 := Tryz.sizeOf5
  v5 := Tryz.zeroValue5
  t9 := Tryz.underlying9
  a9 := Tryz.isAgg9
  z9 := Tryz.sizeOf9
  v9 := Tryz.zeroValue9
  t31 := Tryz.underlying99
  a31 := Tryz.isAgg99
  z31 := Tryz.sizeOf99
  v31 := Tryz.zeroValue99
  t46 := Tryz.underlying212
  a46 := Tryz.isAgg212
  z46 := Tryz.sizeOf212
  v46 := Tryz.zeroValue212
  t51 := Tryz.underlying235
  a51 := Tryz.isAgg235
  z51 := Tryz.sizeOf235
  v51 := Tryz.zeroValue235
  t53 := Tryz.underlying184
  a53 := Tryz.isAgg184
  z53 := Tryz.sizeOf184
  v53 := Tryz.zeroValue184
  t131 := Tryz.underlying232
  a131 := Tryz.isAgg232
  z131 := Tryz.sizeOf232
  v131 := Tryz.zeroValue232
  t182 := Tryz.underlying227
  a182 := Tryz.isAgg227
  z182 := Tryz.sizeOf227
  v182 := Tryz.zeroValue227
  t183 := Tryz.underlying228
  a183 := Tryz.isAgg228
  z183 := Tryz.sizeOf228
  v183 := Tryz.zeroValue228
  t218 := Tryz.underlying248
  a218 := Tryz.isAgg248
  z218 := Tryz.sizeOf248
  v218 := Tryz.zeroValue248
  t222 := Tryz.underlying252
  a222 := Tryz.isAgg252
  z222 := Tryz.sizeOf252
  v222 := Tryz.zeroValue252
  t228 := Tryz.underlying268
  a228 := Tryz.isAgg268
  z228 := Tryz.sizeOf268
  v228 := Tryz.zeroValue268
  t229 := Tryz.underlying269
  a229 := Tryz.isAgg269
  z229 := Tryz.sizeOf269
  v229 := Tryz.zeroValue269 }
open Go.Sort Go.RowKit in
theorem Tryz.slices_Sort_string (blk off cap : Nat) (ss : List (List UInt8)) (w : World) (hH : Holds encStr w blk off ss.toArray) (hblk : blk < w.heap.size) (hsz : ss.length < 4611686018427387904) :
    Calls Tryz.prog 118 #[.slice (some ⟨blk, off, none⟩) ss.length cap] w fun e w' =>
      e = .returned (.tuple #[]) ∧ ∃ n os, w' = grow (putRow encStr (Sort.ahead w n) blk off (ss.mergeSort fun x y => decide (x ≤ y)).toArray) os := Any.slices_Sort_string Tryz.lays190 blk off cap ss w hH hblk hsz
open Go.RowKit Go.Sort in
theorem Tryz.slices_Sort_string_none (p : Option Addr) (cap : Nat) (w : World) :
    Calls Tryz.prog 118 #[.slice p 0 cap] w fun e w' => e = .returned (.tuple #[]) ∧ w' = w := Any.slices_Sort_string_none Tryz.lays190 p cap w
end Go.Proofs

namespace Go.Proofs.YtpenleogafdbhaaGreatDoor
open Go.RowKit Go.Maps Go.ChangeMaps Go.WideElems Go.WideShapes Go.WideAt Go.WideMaps
open Go.Sort Go.Lib in
theorem enc_str (b : Bs) : encStr b = .string (str b) := rfl
theorem bb_lt : ∀ a b : Bs, bytesBefore a b = true ↔ a < b
  | [], [] => by simp [bytesBefore]
  | [], _ :: _ => by simp [bytesBefore]
  | _ :: _, [] => by simp [bytesBefore]
  | x :: r, y :: s => by
    rw [List.cons_lt_cons_iff, ← bb_lt r s]
    simp [bytesBefore]
theorem perm_mdel {α : Type} {k : Bs} {v : α} : ∀ {m : Mp α}, Srt m → (k, v) ∈ m → (m.map (·.1)).Perm (k :: (mdel k m).map (·.1))
  | [], _, h => by cases h
  | p :: r, hs, h => by
    obtain ⟨h1, h2⟩ := List.pairwise_cons.1 hs
    by_cases hk : p.1 = k
    · have e : mdel k (p :: r) = r := by
        have e1 : mdel k (p :: r) = mdel k r := by unfold mdel; rw [List.filter_cons, if_neg (by simp [hk])]
        rw [e1, mdel_none (mget_none.2 fun x hx => by rw [← hk]; exact (bb_ne (h1 x hx)).symm)]
      rw [e, List.map_cons, hk]
    · have e : mdel k (p :: r) = p :: mdel k r := by unfold mdel; rw [List.filter_cons, if_pos (by simp [hk])]
      have h3 : (k, v) ∈ r := by
        rcases List.mem_cons.1 h with h | h
        · rw [← h] at hk; exact absurd rfl hk
        · exact h
      rw [e, List.map_cons, List.map_cons]
      exact ((perm_mdel h2 h3).cons _).trans (List.Perm.swap _ _ _)
theorem sorted_names {α : Type} {m : Mp α} (hs : Srt m) {ss : List Bs} (hp : ss.Perm (m.map (·.1))) : ss.mergeSort (fun x y => decide (x ≤ y)) = m.map (·.1) := by
  have h1 : (ss.mergeSort (fun x y => decide (x ≤ y))).Perm (m.map (·.1)) := (List.mergeSort_perm _ _).trans hp
  have h2 : (ss.mergeSort (fun x y => decide (x ≤ y))).Pairwise (fun x y => x ≤ y) := by
    have := List.pairwise_mergeSort (le := fun (x y : Bs) => decide (x ≤ y)) (fun a b c hab hbc => by simp only [decide_eq_true_eq] at hab hbc ⊢; exact List.le_trans hab hbc) (fun a b => by simp only [Bool.or_eq_true, decide_eq_true_eq]; exact List.le_total a b) ss
    exact this.imp fun h => by simpa using h
  have h3 : (m.map (·.1)).Pairwise (fun x y => x ≤ y) := by
    rw [List.pairwise_map]
    exact hs.imp fun h => List.le_of_lt ((bb_lt _ _).1 h)
  exact h1.eq_of_pairwise (fun a b _ _ => List.le_antisymm) h2 h3
theorem RangeM.iter {P : Program} {k : TypeId} {w : World} {b r : Nat} {m rem : Mp Value} (h : RangeM P k w b r m rem) : ∀ cs t f, w.heap[r]? ≠ some (.cells cs t f) := by
  obtain ⟨_, _, _, left, _, es, clock, since, seen, c0, g1, g2, g3, g4, g5, g6⟩ := h
  intro cs t f e
  rw [g5] at e
  cases e
theorem RangeM.app {P : Program} {k : TypeId} {w w' : World} {b r : Nat} {m rem : Mp Value} {B : Nat} {e : TypeId} {v : Value} {xs : List Value} (h : RangeM P k w b r m rem) (ho : OwnV w B e v xs) (hg : w.grownBy w' v.ownBlock) : RangeM P k w' b r m rem :=
  h.block (hg.block b h.map.lt fun e2 => by
    obtain ⟨es, clock, hm⟩ := h.map.kind
    obtain ⟨cs, hcs⟩ := row_type ho b e2.symm
    rw [hm] at hcs; cases hcs) (hg.block r h.lt fun e2 => by
    obtain ⟨cs, hcs⟩ := row_type ho r e2.symm
    exact h.iter _ _ _ hcs)
theorem RangeM.app_left {P : Program} {k : TypeId} {w w' : World} {b r : Nat} {m rem : Mp Value} {B : Nat} {e : TypeId} {v : Value} {xs : List Value} (h : RangeM P k w b r m rem) (ho : OwnV w B e v xs) (hg : w.grownBy w' v.ownBlock) : w'.rangeLeft b r = w.rangeLeft b r :=
  rangeLeft_same (hg.block b h.map.lt fun e2 => by
    obtain ⟨es, clock, hm⟩ := h.map.kind
    obtain ⟨cs, hcs⟩ := row_type ho b e2.symm
    rw [hm] at hcs; cases hcs) (hg.block r h.lt fun e2 => by
    obtain ⟨cs, hcs⟩ := row_type ho r e2.symm
    exact h.iter _ _ _ hcs)
theorem info9 : (Tryz.prog.info? 9).map (fun i => (i.zero, i.size, i.bytes)) = some (some (.string ⟨#[]⟩), 1, 16) := by kernel_rfl
set_option maxRecDepth 100000 in
set_option maxHeartbeats 8000000 in
theorem files_any (dp mb : Nat) (L : Mp FileR) (d : Dk) (w : World) (h : DiskM w dp mb L d) (hok : d.Ok) :
    Calls Tryz.prog 58 #[.pointer (some ⟨dp, 0, none⟩)] w fun e w' => ∃ v', e = .returned v' ∧ OwnV w' w.heap.size 9 v' (d.names.map fun s => .string (str s)) ∧ Below w.heap.size w w' := by
  have HI := hid (is_any h)
  obtain ⟨e0, e1, e2, e3, e4⟩ := cells5_of h.cells
  have HD := hid h
  have HM : Hid (MapM Tryz.prog 9 w mb (mmap FileR.ptr L)) := HD.out.map
  have HNM : Hid (d.names = (mmap FileR.ptr L).map (·.1)) := hid (by
    unfold Dk.names
    rw [HD.out.files]
    unfold mmap
    rw [List.map_map, List.map_map]; rfl)
  have HLL : Hid ((mmap FileR.ptr L).length ≤ 60) := hid (by rw [mmap_length, ← HD.out.len]; exact hok.few)
  clear h hok
  go_enter Tryz.func58, Tryz.ntmps58
  go_wp2_with (first
    | (go_at_call 62; refine HI.out.mono ?_; rintro e w1 ⟨rfl, hw⟩; obtain rfl := hw.symm)
    | (at_range; refine wpl_range rfl _ 49 rfl 9 118 Tryz.underlying9 Tryz.underlying49 mb (mmap FileR.ptr L) rfl HM.out ?_; intro w0 hrg0 hb0 hs0)
    | fail)
  go_frame
  have HR0 := hid hrg0
  have HB0 := hid hb0
  clear hrg0 hb0 hs0
  go_loopw [3, 4] (fun ov _ wr => ∃ (rem : Mp Value) (acc : List Bs), (∃ a b c, ov = .slice a b c) ∧ Hid (OwnV wr w.heap.size 9 ov (acc.map fun s => .string (str s))) ∧ Hid (RangeM Tryz.prog 9 wr mb w.heap.size (mmap FileR.ptr L) rem) ∧ Hid ((acc ++ rem.map (·.1)).Perm ((mmap FileR.ptr L).map (·.1))) ∧ Hid (Below w.heap.size w wr)) (fun _ _ wr => wr.rangeLeft mb w.heap.size)
  case atStart => exact ⟨_, [], ⟨_, _, _, rfl⟩, ownV_nil _ _ _, HR0, hid (List.Perm.refl _), HB0⟩
  case round =>
    obtain ⟨rem, acc, ⟨oa, on, oc, rfl⟩, HO, HR, HP, HB⟩ := hrel
    rename World => wr
    go_wp2_with (first
      | (at_next; refine wpl_next rfl _ rfl 9 Tryz.underlying9 mb w.heap.size (mmap FileR.ptr L) rem rfl HR.out ?_ ?_)
      | fail)
    · intro hrem
      have hp : acc.Perm d.names := by
        have h := HP.out
        rw [hrem, List.map_nil, List.append_nil] at h
        rw [HNM.out]
        exact h
      have hsn : acc.mergeSort (fun x y => decide (x ≤ y)) = d.names := by
        rw [HNM.out]
        exact sorted_names HD.out.map.1 (by rw [← HNM.out]; exact hp)
      have hlen : acc.length ≤ 60 := by
        have h1 := hp.length_eq
        have h2 := HLL.out
        rw [HNM.out, List.length_map] at h1
        omega
      have HSN := hid hsn
      have HPE := hid hp
      clear hrem hp hsn
      have SORT : Hid (∃ (v' : Value), v' = .slice oa on oc ∧ Calls Tryz.prog 118 #[.slice oa on oc] wr fun e w' => e = .returned (.tuple #[]) ∧ OwnV w' w.heap.size 9 (.slice oa on oc) (d.names.map fun s => .string (str s)) ∧ Below w.heap.size w w') := hid (by
        refine ⟨_, rfl, ?_⟩
        rcases HO.out.2 with ⟨h1, h2⟩ | ⟨g, cap, cur, h1, h2, h3, h4, h5, h6, h7⟩
        · injection h1 with q1 q2 q3
          subst q1; subst q2; subst q3
          have ha : acc = [] := List.eq_nil_of_length_eq_zero (by rw [List.length_map] at h2; exact h2)
          have hd : d.names = [] := by have := HPE.out; rw [ha] at this; exact List.nil_perm.1 this
          refine (Tryz.slices_Sort_string_none none 0 wr).mono ?_
          rintro e w' ⟨rfl, hw⟩
          obtain rfl := hw.symm
          rw [hd]
          exact ⟨rfl, ownV_nil _ _ _, HB.out⟩
        · injection h1 with q1 q2 q3
          subst q1; subst q3
          rw [List.length_map] at q2 h4 h7
          subst q2
          have hH := Go.holds_of_block (ss := acc) h3 (by rw [Nat.mul_one] at h7; exact h7)
          refine (Tryz.slices_Sort_string g 0 oc acc wr hH (heap_lt h3) (by omega)).mono ?_
          rintro e w' ⟨rfl, n, os, rfl⟩
          refine ⟨rfl, ?_, HB.out.grown (Go.grownBy_sorted _) HB.out.size (fun j hj => by cases hj; exact h2)⟩
          have h8 := Go.ownsRow_sorted (n := n) (os := os) (ss := acc) (ts := acc.mergeSort (fun x y => decide (x ≤ y))) (by simp) h2 h3 h4 h5 h6
          have hl2 : (d.names.map fun s => Value.string (str s)).length = acc.length := by rw [List.length_map]; exact HPE.out.length_eq.symm
          show World.ownsRow _ _ _ _ _ (d.names.map fun s => Value.string (str s)).length _
          rw [hl2, ← HSN.out]
          exact h8)
      obtain ⟨_, rfl, SC⟩ := SORT.out
      have SCH := hid SC
      clear SC SORT
      go_wp2_with (first | (go_at_call 118; refine SCH.out.mono ?_; rintro e w8 ⟨rfl, ho8, hb8⟩; have HO8 := hid ho8; have HB8 := hid hb8; clear ho8 hb8) | fail)
      go_ret
      exact ⟨_, rfl, HO8.out, HB8.out⟩
    · intro s v w1 hmem hsl hrg1 hlt1 hg1 hsz1 hen
      obtain ⟨h1, h2, h3, _⟩ := HR.out
      have HB1 : Hid (Below w.heap.size w w1) := hid (HB.out.trans ⟨hg1.os, hg1.tape, hg1.output, hg1.size, fun j hj => hg1.block j (Nat.lt_of_lt_of_le hj HB.out.size) (fun e => by cases e; omega)⟩)
      have HO1 : Hid (OwnV w1 w.heap.size 9 (.slice oa on oc) (acc.map fun s => .string (str s))) := hid (ownV_keep HO.out fun j hj => hg1.block j (ownV_lt HO.out j hj).2 fun e => by
        cases e
        obtain ⟨cs, hcs⟩ := row_type HO.out _ hj
        exact HR.out.iter _ _ _ hcs)
      have HP2 : Hid ((acc ++ [s.data.toList] ++ (mdel s.data.toList rem).map (·.1)).Perm ((mmap FileR.ptr L).map (·.1))) := hid (by
        refine List.Perm.trans ?_ HP.out
        rw [List.append_assoc]
        exact (perm_mdel h2 hmem).symm.append_left _)
      have HR1 := hid hrg1
      have HL1 := hid hlt1
      have hacc : acc.length ≤ 60 := by
        have := HP.out.length_eq
        rw [List.length_append, List.length_map, List.length_map] at this
        have := HLL.out
        omega
      have HLn : Hid ((acc.map fun s => Value.string (str s)).length < 1000000) := hid (by rw [List.length_map]; omega)
      have HWS : Hid (w.heap.size ≤ w1.heap.size) := HB1.out.size
      have hstr : str s.data.toList = s := rfl
      have HST := hid hstr
      clear h1 h2 h3 hmem hrg1 hlt1 hg1 hsz1 hstr
      go_wp2_with (first
        | (at_builtin; refine wpl_app_v 99 9 (.string ⟨#[]⟩) 16 info9 rfl Tryz.underlying99 (by decide) (.string s) rfl _ _ (.slice oa on oc) w.heap.size (acc.map fun s => .string (str s)) (by rfl) (by rfl) (by rfl) (by rfl) HO1.out HLn.out HWS.out ?_; intro v7 w7 ho7 hb7 hg7; have HO7 := hid ho7; have HB7 := hid (HB1.out.trans hb7); have HG7 := hid hg7; obtain ⟨ta, tn, tc, rfl⟩ := ownV_sh ho7; clear ho7 hb7 hg7)
        | fail)
      go_roundw
      case rel =>
        refine ⟨_, acc ++ [s.data.toList], ⟨_, _, _, rfl⟩, hid ?_, hid (HR1.out.app HO1.out HG7.out), HP2, HB7⟩
        rw [List.map_append]
        exact HO7.out
      case measure =>
        rw [HR1.out.app_left HO1.out HG7.out]
        exact HL1.out
end Go.Proofs.YtpenleogafdbhaaGreatDoor

namespace Go.Proofs.YtpenleogafdbhaaGreatDoor
open Go.RowKit Go.Maps Go.ChangeMaps Go.WideElems Go.WideShapes Go.WideAt Go.WideMaps
theorem kf1 (n : Nat) : Lib.hasPrefix (nLog n) [108, 111, 103] = true ∧ Lib.trimPrefix (nLog n) [108, 111, 103] = itoa n ∧ (nLog n == [104, 101, 97, 100]) = false ∧ (nLog n == [104, 101, 97, 100, 46, 110, 101, 119]) = false := by
  have h1 : Lib.hasPrefix (nLog n) [108, 111, 103] = true := by unfold Lib.hasPrefix nLog; simp
  refine ⟨h1, ?_, rfl, rfl⟩
  unfold Lib.trimPrefix
  rw [if_pos h1]
  rfl
theorem kf2 (n : Nat) : Lib.hasPrefix (nRun n) [108, 111, 103] = false ∧ Lib.hasPrefix (nRun n) [114, 117, 110] = true ∧ Lib.trimPrefix (nRun n) [114, 117, 110] = itoa n ∧ (nRun n == [104, 101, 97, 100]) = false ∧ (nRun n == [104, 101, 97, 100, 46, 110, 101, 119]) = false := by
  have h1 : Lib.hasPrefix (nRun n) [114, 117, 110] = true := by unfold Lib.hasPrefix nRun; simp
  refine ⟨rfl, h1, ?_, rfl, rfl⟩
  unfold Lib.trimPrefix
  rw [if_pos h1]
  rfl
theorem kf3 (n : Nat) (hn : n < 100000000) : Lib.atoi (itoa n) = some (n : Int) ∧ (itoa n).length ≤ 8 := by
  refine ⟨?_, itoa_len hn⟩
  have hb := dec_back n
  have hp := itoa_pos n
  unfold itoa at *
  cases hd : Lib.decDigits n with
  | nil => rw [hd] at hp; exact absurd hp (by decide)
  | cons b r =>
    rw [hd] at hb
    obtain ⟨e, he⟩ := Lib.digit_of_decFrom _ _ _ hb 0 b rfl
    obtain ⟨h1, h2, -⟩ := Lib.digitVal_eq he
    have n1 : (b == 45) = false := by
      rw [beq_eq_false_iff_ne]
      rintro rfl
      exact absurd h1 (by decide)
    have n2 : (b == 43) = false := by
      rw [beq_eq_false_iff_ne]
      rintro rfl
      exact absurd h1 (by decide)
    unfold Lib.atoi
    dsimp only
    rw [n1, n2]
    unfold Lib.decNat
    simp only [List.isEmpty_cons, Bool.false_eq_true, if_false]
    rw [hb]
    rfl
theorem str_eqs (a b : Bs) : ((str a).toList == b) = (a == b) := by rw [toList_data, str_list]
theorem cut_yes (s p r : Bs) (h1 : Lib.hasPrefix s p = true) (h2 : Lib.trimPrefix s p = r) (w : World) : Calls Tryz.prog 124 #[.string (str s), .string (str p)] w fun e w' => e = .returned (.tuple #[.string (str r), .bool true]) ∧ w' = w := by
  have h := Tryz.strings_CutPrefix (str s) (str p) w
  rw [str_list, str_list, h1, h2] at h
  exact h
theorem cut_no (s p : Bs) (h1 : Lib.hasPrefix s p = false) (w : World) : Calls Tryz.prog 124 #[.string (str s), .string (str p)] w fun e w' => e = .returned (.tuple #[.string (str (Lib.trimPrefix s p)), .bool false]) ∧ w' = w := by
  have h := Tryz.strings_CutPrefix (str s) (str p) w
  rw [str_list, str_list, h1] at h
  exact h
theorem atoi_n (n : Nat) (hn : n < 100000000) (w : World) : Calls Tryz.prog 125 #[.string (str (itoa n))] w fun e w' => e = .returned (.tuple #[.int .i64 (n : Int), .nilIface]) ∧ Below w.heap.size w w' := by
  refine (Tryz.strconv_Atoi (str (itoa n)) n (by rw [str_size]; have := (kf3 n hn).2; omega) (by rw [str_list]; exact (kf3 n hn).1) w).mono ?_
  rintro e w' ⟨rfl, t, rfl⟩
  exact ⟨rfl, Go.Lib.bytesWorld_below w 5 t⟩
set_option maxRecDepth 100000 in
set_option maxHeartbeats 4000000 in
theorem known_head (s : Bs) (hs : s = nHead ∨ s = nFresh) (w : World) : Calls Tryz.prog 65 #[.string (str s)] w fun e w' => e = .returned (.bool true) ∧ Below w.heap.size w w' := by
  rcases hs with rfl | rfl
  · have h1 : ((str nHead).toList == [104, 101, 97, 100]) = true := by rw [str_eqs]; rfl
    go_enter Tryz.func65, Tryz.ntmps65
    go_wp2_with fail
    go_ret
    exact ⟨rfl, Below.refl _ _⟩
  · have h1 : ((str nFresh).toList == [104, 101, 97, 100]) = false := by rw [str_eqs]; rfl
    have h2 : ((str nFresh).toList == [104, 101, 97, 100, 46, 110, 101, 119]) = true := by rw [str_eqs]; rfl
    go_enter Tryz.func65, Tryz.ntmps65
    go_wp2_with fail
    go_ret
    exact ⟨rfl, Below.refl _ _⟩
set_option maxRecDepth 100000 in
set_option maxHeartbeats 8000000 in
theorem known_num (s : Bs) (n : Nat) (hn : n < 100000000) (hs : s = nLog n ∨ s = nRun n) (w : World) (hG : Glb w) : Calls Tryz.prog 65 #[.string (str s)] w fun e w' => e = .returned (.bool true) ∧ Below w.heap.size w w' := by
  have hc1 : ((str s).toList == [104, 101, 97, 100]) = false := by
    rw [str_eqs]
    rcases hs with rfl | rfl
    · exact (kf1 n).2.2.1
    · exact (kf2 n).2.2.2.1
  have hc2 : ((str s).toList == [104, 101, 97, 100, 46, 110, 101, 119]) = false := by
    rw [str_eqs]
    rcases hs with rfl | rfl
    · exact (kf1 n).2.2.2
    · exact (kf2 n).2.2.2.2
  have AT := hid (atoi_n n hn)
  have IT := hid (itoa_any n hn)
  have HG1 : Hid (Glb (w.alloc (.cells #[.string ⟨#[108, 111, 103]⟩, .string ⟨#[114, 117, 110]⟩] 9))) := hid (hG.below (ba w _))
  clear hG
  have hself : ((str (itoa n)).toList == (str (itoa n)).toList) = true := by simp
  have HX1 := hid (heap_alloc_new w (.cells #[.string ⟨#[108, 111, 103]⟩, .string ⟨#[114, 117, 110]⟩] 9))
  have HB1 := hid (ba w (.cells #[.string ⟨#[108, 111, 103]⟩, .string ⟨#[114, 117, 110]⟩] 9))
  go_enter Tryz.func65, Tryz.ntmps65
  go_upto_region 4 with fail
  generalize w.alloc (.cells #[.string ⟨#[108, 111, 103]⟩, .string ⟨#[114, 117, 110]⟩] 9) = w1 at *
  obtain ⟨SB, hSB⟩ : ∃ SB, SB = w.heap.size := ⟨_, rfl⟩
  rw [← hSB] at HX1 ⊢
  have HSB := hid hSB
  clear hSB
  rcases hs with rfl | rfl
  · obtain ⟨k1, k2, -⟩ := kf1 n
    have CP := hid (cut_yes (nLog n) [108, 111, 103] (itoa n) k1 k2)
    rw [show str [108, 111, 103] = ⟨#[108, 111, 103]⟩ from rfl] at CP
    obtain ⟨c0, c1⟩ := cells2_of HX1.out
    clear k1 k2
    go_loop [17] (fun kv => kv = .int .i64 0) (fun _ => 0)
    case atStart => rfl
    case round =>
      subst hrel
      go_wp2_with (first
        | (go_at_call 124; refine (CP.out _).mono ?_; rintro e w2 ⟨rfl, hw⟩; obtain rfl := hw.symm)
        | (go_at_call 125; refine (AT.out _).mono ?_; rintro e w3 ⟨rfl, hb3⟩; have HB3 := hid (below_step HB1.out hb3); have HG3 := hid (HG1.out.below hb3); clear hb3)
        | (go_at_call 126; refine (IT.out _ HG3.out).mono ?_; rintro e w4 ⟨rfl, hb4⟩; have HB4 := hid (below_step HB3.out hb4); clear hb4)
        | fail)
      go_ret
      exact ⟨rfl, HB4.out⟩
  · obtain ⟨k0, k1, k2, -⟩ := kf2 n
    have CN := hid (cut_no (nRun n) [108, 111, 103] k0)
    have CP := hid (cut_yes (nRun n) [114, 117, 110] (itoa n) k1 k2)
    rw [show str [108, 111, 103] = ⟨#[108, 111, 103]⟩ from rfl] at CN
    rw [show str [114, 117, 110] = ⟨#[114, 117, 110]⟩ from rfl] at CP
    obtain ⟨c0, c1⟩ := cells2_of HX1.out
    clear k0 k1 k2
    go_loop [17] (fun kv => kv = .int .i64 0 ∨ kv = .int .i64 1) (fun kv => 1 - (intOf kv).toNat)
    case atStart => exact .inl rfl
    case round =>
      rcases hrel with rfl | rfl
      · go_wp2_with (first
          | (go_at_call 124; refine (CN.out _).mono ?_; rintro e w2 ⟨rfl, hw⟩; obtain rfl := hw.symm)
          | fail)
        exact ⟨.inr rfl, by simp [intOf]⟩
      · go_wp2_with (first
          | (go_at_call 124; refine (CP.out _).mono ?_; rintro e w2 ⟨rfl, hw⟩; obtain rfl := hw.symm)
          | (go_at_call 125; refine (AT.out _).mono ?_; rintro e w3 ⟨rfl, hb3⟩; have HB3 := hid (below_step HB1.out hb3); have HG3 := hid (HG1.out.below hb3); clear hb3)
          | (go_at_call 126; refine (IT.out _ HG3.out).mono ?_; rintro e w4 ⟨rfl, hb4⟩; have HB4 := hid (below_step HB3.out hb4); clear hb4)
          | fail)
        go_ret
        exact ⟨rfl, HB4.out⟩
end Go.Proofs.YtpenleogafdbhaaGreatDoor

namespace Go.Proofs.YtpenleogafdbhaaGreatDoor
open Go.RowKit Go.Maps Go.ChangeMaps Go.WideElems Go.WideShapes Go.WideAt Go.WideMaps
/-- the letters of the kinds, collected (to be shown: 132 over 133) -/
def LettersOk : Prop := ∀ w : World, Calls Tryz.prog 132 #[.func (.func 133) #[] #[]] w fun e w' => ∃ v', e = .returned v' ∧ OwnV w' w.heap.size 5 v' (([61, 45] : Bs).map bv) ∧ Below w.heap.size w w'
def chRow (c : Ch) : List Value := [.string (str c.key), .string (str c.val), .bool c.del]
theorem info39 : (Tryz.prog.info? 39).map (fun i => (i.zero, i.size, i.bytes)) = some (some (.agg #[.string ⟨#[]⟩, .string ⟨#[]⟩, .bool false]), 3, 40) := by kernel_rfl
theorem isCh_own {w : World} {B : Nat} {v : Value} {l : List Ch} (h : OwnS w B 39 3 v (l.map chRow)) (hl : l.length ≤ 1000000) (hs : ∀ x ∈ l, x.key.length ≤ 1000 ∧ x.val.length ≤ 1000) : IsCh w v l := by
  obtain ⟨p, c, rfl⟩ := ownS_sh h
  rw [List.length_map] at h ⊢
  refine ⟨p, c, rfl, hl, hs, fun i x hx => ?_⟩
  have hi : i < l.length := (List.getElem?_eq_some_iff.1 hx).1
  obtain ⟨g, c', hv, _, _⟩ := ownS_some h (by rw [List.length_map]; omega)
  injection hv with e1 e2 e3
  subst e1
  have f : ∀ j, j < 3 → w.cell? ⟨g, i * 3 + j, none⟩ = some (((l.map chRow).getD i []).getD j undef) := fun j hj => ownS_cell h i j (by rw [List.length_map]; exact hi) hj
  rw [List.getD_eq_getElem?_getD, List.getElem?_map, hx] at f
  exact ⟨g, rfl, f 0 (by omega), f 1 (by omega), f 2 (by omega)⟩
theorem ch_bytes_eq (x : Ch) (h : x.del = true → x.val = []) : x.bytes = (if x.del = true then 45 else 61) :: UInt8.ofNat x.key.length :: x.key ++ (UInt8.ofNat x.val.length :: x.val) := by
  unfold Ch.bytes
  cases hd : x.del with
  | true => rw [h hd]; rfl
  | false => rfl

/-- where reading changes stands -/
structure Rdg (w0 W : World) (X : Nat) (ov : Value) (rs : List (List Value)) (b : Value) (bs : Bs) : Prop where
  own : OwnS W w0.heap.size 39 3 ov rs
  cell : W.heap[X]? = some (.cells #[b] 59)
  isb : IsB W b bs
  lt : ∀ j, b.ownBlock = some j → j < w0.heap.size
  below : Below w0.heap.size w0 W
theorem Rdg.to {w0 W W' : World} {X : Nat} {ov : Value} {rs : List (List Value)} {b : Value} {bs : Bs} (h : Rdg w0 W X ov rs b bs) (hb : Below W.heap.size W W') : Rdg w0 W' X ov rs b bs :=
  ⟨ownS_below h.own hb, (hb.block X (heap_lt h.cell)).trans h.cell, h.isb.below hb, h.lt, h.below.trans (hb.mono h.below.size)⟩
theorem Rdg.ne {w0 W : World} {X : Nat} {ov : Value} {rs : List (List Value)} {b : Value} {bs : Bs} (h : Rdg w0 W X ov rs b bs) : ov.ownBlock ≠ some X := fun e => by
  obtain ⟨cs, hcs⟩ := row_type h.own.2 X e
  rw [h.cell] at hcs
  simp at hcs
theorem Rdg.turn {w0 W W' : World} {X : Nat} {ov : Value} {rs : List (List Value)} {b b' : Value} {bs bs' : Bs} (h : Rdg w0 W X ov rs b bs) (hX : w0.heap.size ≤ X) (hc : Chg (fun k => k = X) W W') (h1 : W'.heap[X]? = some (.cells #[b'] 59)) (h2 : IsB W' b' bs') (h3 : ∀ j, b'.ownBlock = some j → b.ownBlock = some j) : Rdg w0 W' X ov rs b' bs' :=
  ⟨ownS_kept h.own (row := some X) ⟨hc.os, hc.tape, hc.output, hc.size, fun k hk hn => hc.block k hk fun e => hn (by rw [e])⟩ (.inr h.ne), h1, h2, fun j hj => h.lt j (h3 j hj), h.below.trans (hc.below h.below.size fun k hk => hk ▸ hX)⟩
theorem Rdg.app {w0 W W' : World} {X : Nat} {ov ov' : Value} {rs rs' : List (List Value)} {b : Value} {bs : Bs} (h : Rdg w0 W X ov rs b bs) (ho : OwnS W' w0.heap.size 39 3 ov' rs') (hb : Below w0.heap.size W W') (hg : W.grownBy W' ov.ownBlock) : Rdg w0 W' X ov' rs' b bs :=
  ⟨ho, (hg.block X (heap_lt h.cell) fun e => h.ne e.symm).trans h.cell, h.isb.keep fun k hk _ => hb.block k (h.lt k hk), h.lt, h.below.trans hb⟩
theorem own1 {p : Option Addr} {n c n' c' o' : Nat} {g off : Nat} (h : p = some ⟨g, off, none⟩) : ∀ j, (Value.slice (some ⟨g, o', none⟩) n' c').ownBlock = some j → (Value.slice p n c).ownBlock = some j := by
  subst h
  intro j hj
  exact hj
set_option maxRecDepth 100000 in
set_option maxHeartbeats 8000000 in
theorem changesOf_any (LO : LettersOk) (v : Value) (l : List Ch) (w : World) (hv : IsB w v (chBytes l)) (hvl : ∀ k, v.ownBlock = some k → k < w.heap.size) (hb : (chBytes l).length ≤ 1000000) (hl : l.length ≤ 100000) (hok : ∀ x ∈ l, okCh x) :
    Calls Tryz.prog 70 #[v] w fun e w' => ∃ v', e = .returned (.tuple #[v', .bool true]) ∧ IsCh w' v' l ∧ Below w.heap.size w w' := by
  obtain ⟨p0, c0, rfl, -⟩ := hv.sh
  obtain ⟨N0, hN0⟩ : ∃ N, N = (chBytes l).length := ⟨_, rfl⟩
  rw [← hN0] at hv hvl ⊢
  have HN0 := hid hN0
  have HLO := hid LO
  have HOK := hid hok
  have HBL := hid hb
  have hmf : ∀ (fn : Fn) (first cap : Array Value) (w : World), (Instr.makeFunc fn first cap).run Tryz.prog w = .ok (.func fn first cap) w := fun _ _ _ _ => rfl
  obtain ⟨n, hn⟩ : ∃ n, n = l.length := ⟨_, rfl⟩
  have HN := hid hn
  rw [← hn] at hl
  have HR1 : Hid (Rdg w (w.alloc (.cells #[.slice p0 N0 c0] 59)) w.heap.size (.slice none 0 0) [] (.slice p0 N0 c0) (chBytes l)) := hid ⟨ownS_nil _ _ _ _, heap_alloc_new _ _, hv.below (ba _ _), hvl, ba _ _⟩
  clear hv hvl LO hok hb hn hN0
  go_enter Tryz.func70, Tryz.ntmps70
  go_upto_region 3 with fail
  generalize w.alloc (.cells #[.slice p0 N0 c0] 59) = w1 at *
  obtain ⟨X, hX⟩ : ∃ X, X = w.heap.size := ⟨_, rfl⟩
  rw [← hX] at HR1 ⊢
  have HXE := hid hX
  clear hX
  go_loopw [4, 6] (fun ov _ wr => ∃ (k : Nat) (b : Value), (∃ x z, ov = .slice x k z) ∧ k ≤ n ∧ Hid (Rdg w wr X ov ((l.take k).map chRow) b (chBytes (l.drop k)))) (fun ov _ _ => n - lenOf ov)
  case atStart => exact ⟨0, .slice p0 N0 c0, ⟨_, _, rfl⟩, Nat.zero_le _, HR1⟩
  case round =>
    obtain ⟨k, b, ⟨oa, oc, rfl⟩, hk, HR⟩ := hrel
    rename World => wr
    by_cases hlt : k < n
    · have hkl : k < l.length := by rw [← HN.out]; exact hlt
      obtain ⟨x, hx⟩ : ∃ x, l[k]? = some x := ⟨_, List.getElem?_eq_getElem hkl⟩
      have hox := HOK.out x (List.mem_of_getElem? hx)
      have HX := hid hx
      have hdr : l.drop k = x :: l.drop (k + 1) := by
        rw [List.drop_eq_getElem_cons hkl]
        congr 1
        rw [List.getElem?_eq_getElem hkl] at hx
        exact Option.some.inj hx
      obtain ⟨r, hr⟩ : ∃ r, r = chBytes (l.drop (k + 1)) := ⟨_, rfl⟩
      obtain ⟨lb, hlb⟩ : ∃ lb : UInt8, lb = if x.del = true then 45 else 61 := ⟨_, rfl⟩
      have hbs : chBytes (l.drop k) = lb :: UInt8.ofNat x.key.length :: x.key ++ (UInt8.ofNat x.val.length :: x.val ++ r) := by
        rw [hdr, hr, hlb]
        unfold chBytes
        rw [List.flatMap_cons, ch_bytes_eq x hox.2.2]
        simp
      have hrl : r.length + (x.key.length + x.val.length + 3) ≤ 1000000 := by
        have h1 : (chBytes (l.drop k)).length ≤ (chBytes l).length := by
          unfold chBytes
          conv => rhs; rw [← List.take_append_drop k l]
          rw [List.flatMap_append, List.length_append]
          omega
        rw [hbs] at h1
        have := HBL.out
        simp at h1
        omega
      rw [hbs] at HR
      obtain ⟨i, hi⟩ : ∃ i : Nat, (i = 0 ∧ lb = 61 ∧ x.del = false) ∨ (i = 1 ∧ lb = 45 ∧ x.del = true) := by
        cases hd : x.del with
        | true => exact ⟨1, .inr ⟨rfl, by rw [hlb, hd]; rfl, rfl⟩⟩
        | false => exact ⟨0, .inl ⟨rfl, by rw [hlb, hd]; rfl, rfl⟩⟩
      have hi1 : i ≤ 1 := by rcases hi with ⟨h, -⟩ | ⟨h, -⟩ <;> omega
      have hid1 : ((i : Int) == 1) = x.del := by rcases hi with ⟨rfl, -, h⟩ | ⟨rfl, -, h⟩ <;> rw [h] <;> rfl
      have HI := hid hi
      obtain ⟨pb, cb, rfl, hcb⟩ := HR.out.isb.sh
      obtain ⟨g, off, rfl, -⟩ := HR.out.isb.at 0 (by simp)
      obtain ⟨N, hN⟩ : ∃ N, N = (lb :: UInt8.ofNat x.key.length :: x.key ++ (UInt8.ofNat x.val.length :: x.val ++ r)).length := ⟨_, rfl⟩
      rw [← hN] at HR hcb
      have HNE : Hid (N = x.key.length + x.val.length + r.length + 3) := hid (by rw [hN]; simp; omega)
      have hN3 : 3 ≤ N := by have := HNE.out; omega
      have hNb : N ≤ 1000000 := by have := HNE.out; omega
      have HRL := hid hrl
      have HRE := hid hr
      have HOX := hid hox
      have b0 := box1 HR.out.cell
      clear hi hlb hbs hrl hN hr hdr hox hx
      have HXL : Hid (w.heap.size ≤ X) := hid (Nat.le_of_eq HXE.out.symm)
      have HSH : Hid (∀ W : World, IsB W (.slice (some ⟨g, off, none⟩) N cb) (lb :: UInt8.ofNat x.key.length :: x.key ++ (UInt8.ofNat x.val.length :: x.val ++ r)) → IsB W (.slice (some ⟨g, off + 1, none⟩) (N - 1) (cb - 1)) (UInt8.ofNat x.key.length :: x.key ++ (UInt8.ofNat x.val.length :: x.val ++ r))) := hid fun W h => by
        have e : (UInt8.ofNat x.key.length :: x.key ++ (UInt8.ofNat x.val.length :: x.val ++ r)).length = N - 1 := by have := HNE.out; simp; omega
        have h1 := h.sub (k := cb - 1) (cs := UInt8.ofNat x.key.length :: x.key ++ (UInt8.ofNat x.val.length :: x.val ++ r)) (o2 := off + 1) 1 rfl (by rw [show (lb :: UInt8.ofNat x.key.length :: x.key ++ (UInt8.ofNat x.val.length :: x.val ++ r)).drop 1 = UInt8.ofNat x.key.length :: x.key ++ (UInt8.ofNat x.val.length :: x.val ++ r) from rfl]; exact List.take_of_length_le (Nat.le_refl _)) (by rw [e]; omega) (by rw [e]; omega)
        rwa [e] at h1
      have hcb1 : 1 < cb := by omega
      have hks : x.key.length ≤ 200 := by have := HOX.out.1; omega
      have hvs : x.val.length ≤ 200 := by have := HOX.out.2.1; omega
      have HKS := hid hks
      have HVS := hid hvs
      clear hks hvs
      go_wp2_with (first
        | (go_at_call 132; refine (HLO.out wr).mono ?_; rintro e w2 ⟨lv, rfl, ho2, hb2⟩
           have HR2 := hid (HR.out.to hb2)
           have HIX := hid (indexL_any X (.slice (some ⟨g, off, none⟩) N cb) lv lb _ i w2 HR2.out.cell HR2.out.isb (IsB.own ho2) (HI.out.imp (fun h => ⟨h.1, h.2.1⟩) fun h => ⟨h.1, h.2.1⟩))
           have HR3 := hid (HR2.out.turn HXL.out (chg_set (a := ⟨X, 0, none⟩) (v := .slice (some ⟨g, off + 1, none⟩) (N - 1) (cb - 1)) rfl) (heap_setCell1 HR2.out.cell) ((HSH.out w2 HR2.out.isb).keep fun k hk _ => set_other (by
             intro e
             cases hk
             have h1 : g < w.heap.size := HR2.out.lt g rfl
             have h2 := HXE.out
             have h3 : g = X := e
             omega)) (fun j hj => hj))
           have b2 := box1 HR2.out.cell
           have f2 := box1_free HR2.out.cell
           have HT1 := hid (take_any X (.slice (some ⟨g, off + 1, none⟩) (N - 1) (cb - 1)) x.key (UInt8.ofNat x.val.length :: x.val ++ r) (w2.setCell ⟨X, 0, none⟩ (.slice (some ⟨g, off + 1, none⟩) (N - 1) (cb - 1))) HR3.out.cell HR3.out.isb HKS.out (by have := HRL.out; simp; omega))
           obtain ⟨la, ln, lc, rfl⟩ := ownV_sh ho2
           clear ho2 hb2)
        | (go_at_call 130; refine HT1.out.mono ?_; rintro e w4 ⟨v4, rfl, hc4, hb4, hg4, ho4⟩
           have HR4 := hid (HR3.out.turn HXL.out hg4 hc4 hb4 ho4)
           have HT2 := hid (take_any X v4 x.val r w4 HR4.out.cell HR4.out.isb HVS.out (by have := HRL.out; omega))
           clear hc4 hb4 hg4 ho4)
        | (go_at_call 130; refine HT2.out.mono ?_; rintro e w5 ⟨v5, rfl, hc5, hb5, hg5, ho5⟩
           have HR5 := hid (HR4.out.turn HXL.out hg5 hc5 hb5 ho5)
           clear hc5 hb5 hg5 ho5)
        | (at_builtin; refine wpl_app_s 40 39 (.agg #[.string ⟨#[]⟩, .string ⟨#[]⟩, .bool false]) 3 40 info39 rfl (by decide) Tryz.underlying40 (by decide) [.string (str x.key), .string (str x.val), .bool x.del] rfl (by intro u hu; simp at hu; rcases hu with rfl | rfl | rfl <;> rfl) _ _ (.slice oa k oc) w.heap.size ((l.take k).map chRow) rfl rfl rfl rfl HR5.out.own (by rw [List.length_map, List.length_take]; omega) HR5.out.below.size ?_; intro v6 w6 ho6 hb6 hg6
           have HR6 := hid (HR5.out.app ho6 hb6 hg6)
           clear ho6 hb6 hg6)
        | (go_at_call 131; refine HIX.out.mono ?_; rintro e w5 ⟨rfl, hw⟩; obtain rfl := hw.symm; clear hw)
        | fail)
      obtain ⟨a6, c6, hv6⟩ := ownS_sh HR6.out.own
      have hl6 : ((l.take k).map chRow ++ [[Value.string (str x.key), .string (str x.val), .bool x.del]]).length = k + 1 := by
        rw [List.length_append, List.length_map, List.length_take, List.length_singleton]
        have := HN.out
        omega
      have htk : (l.take (k + 1)).map chRow = (l.take k).map chRow ++ [[Value.string (str x.key), .string (str x.val), .bool x.del]] := by
        rw [List.take_add_one, HX.out, List.map_append]
        rfl
      rw [hl6] at hv6
      rw [hv6] at HR6 ⊢
      refine ⟨⟨k + 1, v5, ⟨_, _, rfl⟩, hlt, hid ?_⟩, ?_⟩
      · rw [htk, ← HRE.out]
        exact HR6.out
      · show n - (k + 1) < n - k
        omega
    · obtain rfl : k = n := by omega
      have hz : chBytes (l.drop k) = [] := by rw [List.drop_of_length_le (by rw [← HN.out]; exact Nat.le_refl _)]; rfl
      rw [hz] at HR
      obtain ⟨pb, cb, rfl, -⟩ := HR.out.isb.sh
      have b0 := box1 HR.out.cell
      have HIS : Hid (IsCh wr (.slice oa k oc) l) := hid (by
        have h := HR.out.own
        rw [List.take_of_length_le (by rw [← HN.out]; exact Nat.le_refl _)] at h
        exact isCh_own h (by rw [← HN.out]; omega) fun x hx => ⟨by have := (HOK.out x hx).1; omega, by have := (HOK.out x hx).2.1; omega⟩)
      clear hz
      go_wp2_with fail
      go_ret2
      exact ⟨_, rfl, HIS.out, HR.out.below⟩
end Go.Proofs.YtpenleogafdbhaaGreatDoor
