/-
  Layings of shelf contracts at this dump, in plain words: keys, sorted; clones of maps; the sort of changes (out of lay-shelf and lay-plain).
  The keys of a table, in order; entries of a view.
  Entries of a view.
  Changes of a table, in order.
  Rename.
  A list of acts on the disk; the acts of replace.
  The act that writes a head.
-/
import Derived.Test.YtpenleogafdbhaaGreatDoorZ11
import Derived.Shelf.SlIter.Nil
import Derived.Shelf.SlMaps.Clone
import Derived.Shelf.SlSortCmp.WholeK
import Derived.Sort.OwnSorted
namespace Go.Proofs
open Go.Shelf
def Tryz.keysA_ren : Go.Shelf.Ren := ⟨fun | 7 => 86 | 10 => 143 | n => n, fun | 23 => 105 | 26 => 9 | 3 => 138 | 28 => 142 | 0 => 0 | 27 => 141 | 33 => 117 | 4 => 4 | n => n, fun | n => n⟩
theorem Tryz.keysA : Go.Proofs.SlLaysZ.n7 Tryz.prog Tryz.keysA_ren := {
  mixed := by kernel_rfl
  f7 := ⟨Tryz.f86.name, by decide, Tryz.func86.trans (congrArg some (by kernel_rfl))⟩
  f10 := ⟨Tryz.f143.name, by decide, Tryz.func143.trans (congrArg some (by kernel_rfl))⟩
  t0 := Tryz.underlying0
  a0 := Tryz.isAgg0
  z0 := Tryz.sizeOf0
  v0 := Tryz.zeroValue0
  t4 := Tryz.underlying4
  a4 := Tryz.isAgg4
  z4 := Tryz.sizeOf4
  v4 := Tryz.zeroValue4
  t23 := Tryz.underlying105
  a23 := Tryz.isAgg105
  z23 := Tryz.sizeOf105
  v23 := Tryz.zeroValue105
  t26 := Tryz.underlying9
  a26 := Tryz.isAgg9
  z26 := Tryz.sizeOf9
  v26 := Tryz.zeroValue9
  t27 := Tryz.underlying141
  a27 := Tryz.isAgg141
  z27 := Tryz.sizeOf141
  v27 := Tryz.zeroValue141
  t28 := Tryz.underlying142
  a28 := Tryz.isAgg142
  z28 := Tryz.sizeOf142
  v28 := Tryz.zeroValue142
  t33 := Tryz.underlying117
  a33 := Tryz.isAgg117
  z33 := Tryz.sizeOf117
  v33 := Tryz.zeroValue117 }
def Tryz.sortedA_ren : Go.Shelf.Ren := ⟨fun | 6 => 85 | 8 => 142 | 9 => 118 | 11 => 174 | 13 => 153 | 12 => 152 | 23 => 185 | 24 => 186 | 14 => 176 | 15 => 177 | 16 => 178 | 17 => 179 | 18 => 180 | 19 => 181 | 20 => 182 | 21 => 183 | 22 => 184 | 25 => 200 | 26 => 201 | 27 => 202 | 28 => 203 | 29 => 204 | 30 => 205 | 31 => 219 | n => n, fun | 26 => 9 | 28 => 142 | 24 => 99 | 0 => 0 | 3 => 3 | 37 => 212 | 48 => 235 | 50 => 184 | 4 => 4 | 40 => 228 | 39 => 227 | 45 => 232 | 5 => 5 | 9 => 9 | 51 => 248 | 55 => 252 | 57 => 268 | 58 => 269 | 33 => 117 | n => n, fun | n => n⟩
theorem Tryz.sortedA : Go.Proofs.SlLaysZ.n6 Tryz.prog Tryz.sortedA_ren := {
  mixed := by kernel_rfl
  f6 := ⟨Tryz.f85.name, by decide, Tryz.func85.trans (congrArg some (by kernel_rfl))⟩
  f8 := ⟨Tryz.f142.name, by decide, Tryz.func142.trans (congrArg some (by kernel_rfl))⟩
  f11 := ⟨Tryz.f174.name, by decide, Tryz.func174.trans (congrArg some (by kernel_rfl))⟩
  t0 := Tryz.underlying0
  a0 := Tryz.isAgg0
  z0 := Tryz.sizeOf0
  v0 := Tryz.zeroValue0
  t24 := Tryz.underlying99
  a24 := Tryz.isAgg99
  z24 := Tryz.sizeOf99
  v24 := Tryz.zeroValue99
  t26 := Tryz.underlying9
  a26 := Tryz.isAgg9
  z26 := Tryz.sizeOf9
  v26 := Tryz.zeroValue9
  t28 := Tryz.underlying142
  a28 := Tryz.isAgg142
  z28 := Tryz.sizeOf142
  v28 := Tryz.zeroValue142
  i26 := by kernel_rfl }
def Tryz.cloneT_ren : Go.Shelf.Ren := ⟨fun | 5 => 115 | 7 => 151 | n => n, fun | 23 => 105 | 25 => 9 | 3 => 138 | 4 => 4 | 20 => 20 | n => n, fun | n => n⟩
theorem Tryz.cloneT : Go.Proofs.SlLaysW.n5 Tryz.prog Tryz.cloneT_ren := {
  mixed := by kernel_rfl
  f5 := ⟨Tryz.f115.name, by decide, Tryz.func115.trans (congrArg some (by kernel_rfl))⟩
  f7 := Tryz.func151.trans (congrArg some (by kernel_rfl))
  t4 := Tryz.underlying4
  a4 := Tryz.isAgg4
  z4 := Tryz.sizeOf4
  v4 := Tryz.zeroValue4
  t20 := Tryz.underlying20
  a20 := Tryz.isAgg20
  z20 := Tryz.sizeOf20
  v20 := Tryz.zeroValue20
  t23 := Tryz.underlying105
  a23 := Tryz.isAgg105
  z23 := Tryz.sizeOf105
  v23 := Tryz.zeroValue105 }
def Tryz.cloneW_ren : Go.Shelf.Ren := ⟨fun | 5 => 116 | 7 => 151 | n => n, fun | 23 => 107 | 25 => 3 | 3 => 105 | 4 => 4 | 20 => 20 | n => n, fun | n => n⟩
theorem Tryz.cloneW : Go.Proofs.SlLaysW.n5 Tryz.prog Tryz.cloneW_ren := {
  mixed := by kernel_rfl
  f5 := ⟨Tryz.f116.name, by decide, Tryz.func116.trans (congrArg some (by kernel_rfl))⟩
  f7 := Tryz.func151.trans (congrArg some (by kernel_rfl))
  t4 := Tryz.underlying4
  a4 := Tryz.isAgg4
  z4 := Tryz.sizeOf4
  v4 := Tryz.zeroValue4
  t20 := Tryz.underlying20
  a20 := Tryz.isAgg20
  z20 := Tryz.sizeOf20
  v20 := Tryz.zeroValue20
  t23 := Tryz.underlying107
  a23 := Tryz.isAgg107
  z23 := Tryz.sizeOf107
  v23 := Tryz.zeroValue107 }
def Tryz.sortC_ren : Go.Shelf.Ren := ⟨fun | 6 => 197 | 15 => 153 | 14 => 217 | 28 => 185 | 29 => 186 | 20 => 231 | 21 => 232 | 22 => 233 | 23 => 234 | 24 => 235 | 25 => 236 | 26 => 237 | 27 => 238 | 46 => 244 | 47 => 201 | 48 => 202 | 49 => 245 | 50 => 246 | 57 => 247 | n => n, fun | 22 => 40 | 24 => 39 | 25 => 247 | 3 => 3 | 39 => 212 | 0 => 0 | 53 => 235 | 55 => 184 | 4 => 4 | 46 => 228 | 45 => 227 | 50 => 232 | 5 => 5 | 9 => 9 | 66 => 248 | 70 => 252 | 76 => 268 | 77 => 269 | n => n, fun | n => n⟩
theorem Tryz.sortC : Go.Proofs.SlLaysF0.n6 Tryz.prog Tryz.sortC_ren := {
  mixed := by kernel_rfl
  f6 := ⟨Tryz.f197.name, by decide, Tryz.func197.trans (congrArg some (by kernel_rfl))⟩
  f14 := ⟨Tryz.f217.name, by decide, Tryz.func217.trans (congrArg some (by kernel_rfl))⟩
  f15 := Tryz.func153.trans (congrArg some (by kernel_rfl))
  f20 := ⟨Tryz.f231.name, by decide, Tryz.func231.trans (congrArg some (by kernel_rfl))⟩
  f21 := ⟨Tryz.f232.name, by decide, Tryz.func232.trans (congrArg some (by kernel_rfl))⟩
  f22 := ⟨Tryz.f233.name, by decide, Tryz.func233.trans (congrArg some (by kernel_rfl))⟩
  f23 := ⟨Tryz.f234.name, by decide, Tryz.func234.trans (congrArg some (by kernel_rfl))⟩
  f24 := ⟨Tryz.f235.name, by decide, Tryz.func235.trans (congrArg some (by kernel_rfl))⟩
  f25 := ⟨Tryz.f236.name, by decide, Tryz.func236.trans (congrArg some (by kernel_rfl))⟩
  f26 := ⟨Tryz.f237.name, by decide, Tryz.func237.trans (congrArg some (by kernel_rfl))⟩
  f27 := ⟨Tryz.f238.name, by decide, Tryz.func238.trans (congrArg some (by kernel_rfl))⟩
  f28 := Tryz.func185.trans (congrArg some (by kernel_rfl))
  f29 := Tryz.func186.trans (congrArg some (by kernel_rfl))
  f46 := ⟨Tryz.f244.name, by decide, Tryz.func244.trans (congrArg some (by kernel_rfl))⟩
  f47 := Tryz.func201.trans (congrArg some (by kernel_rfl))
  f48 := Tryz.func202.trans (congrArg some (by kernel_rfl))
  f49 := ⟨Tryz.f245.name, by decide, Tryz.func245.trans (congrArg some (by kernel_rfl))⟩
  f50 := ⟨Tryz.f246.name, by decide, Tryz.func246.trans (congrArg some (by kernel_rfl))⟩
  f57 := ⟨Tryz.f247.name, by decide, Tryz.func247.trans (congrArg some (by kernel_rfl))⟩
  t0 := Tryz.underlying0
  a0 := Tryz.isAgg0
  z0 := Tryz.sizeOf0
  v0 := Tryz.zeroValue0
  t3 := Tryz.underlying3
  a3 := Tryz.isAgg3
  z3 := Tryz.sizeOf3
  v3 := Tryz.zeroValue3
  t4 := Tryz.underlying4
  a4 := Tryz.isAgg4
  z4 := Tryz.sizeOf4
  v4 := Tryz.zeroValue4
  t5 := Tryz.underlying5
  a5 := Tryz.isAgg5
  z5 := Tryz.sizeOf5
  v5 := Tryz.zeroValue5
  t9 := Tryz.underlying9
  a9 := Tryz.isAgg9
  z9 := Tryz.sizeOf9
  v9 := Tryz.zeroValue9
  t22 := Tryz.underlying40
  a22 := Tryz.isAgg40
  z22 := Tryz.sizeOf40
  v22 := Tryz.zeroValue40
  t25 := Tryz.underlying247
  a25 := Tryz.isAgg247
  z25 := Tryz.sizeOf247
  v25 := Tryz.zeroValue247
  t39 := Tryz.underlying212
  a39 := Tryz.isAgg212
  z39 := Tryz.sizeOf212
  v39 := Tryz.zeroValue212
  t45 := Tryz.underlying227
  a45 := Tryz.isAgg227
  z45 := Tryz.sizeOf227
  v45 := Tryz.zeroValue227
  t46 := Tryz.underlying228
  a46 := Tryz.isAgg228
  z46 := Tryz.sizeOf228
  v46 := Tryz.zeroValue228
  t50 := Tryz.underlying232
  a50 := Tryz.isAgg232
  z50 := Tryz.sizeOf232
  v50 := Tryz.zeroValue232
  t53 := Tryz.underlying235
  a53 := Tryz.isAgg235
  z53 := Tryz.sizeOf235
  v53 := Tryz.zeroValue235
  t55 := Tryz.underlying184
  a55 := Tryz.isAgg184
  z55 := Tryz.sizeOf184
  v55 := Tryz.zeroValue184
  t66 := Tryz.underlying248
  a66 := Tryz.isAgg248
  z66 := Tryz.sizeOf248
  v66 := Tryz.zeroValue248
  t70 := Tryz.underlying252
  a70 := Tryz.isAgg252
  z70 := Tryz.sizeOf252
  v70 := Tryz.zeroValue252
  t76 := Tryz.underlying268
  a76 := Tryz.isAgg268
  z76 := Tryz.sizeOf268
  v76 := Tryz.zeroValue268
  t77 := Tryz.underlying269
  a77 := Tryz.isAgg269
  z77 := Tryz.sizeOf269
  v77 := Tryz.zeroValue269 }
end Go.Proofs

namespace Go.Proofs.YtpenleogafdbhaaGreatDoor
open Go.RowKit Go.Maps Go.ChangeMaps Go.WideElems Go.WideShapes Go.WideAt Go.WideMaps
theorem sortsA (m : Nat) : AnyZ.SortsIn Tryz.prog Tryz.sortedA_ren Fence.wide m :=
  ⟨fun blk off cap ss W hH hblk hsz => callsIn_wide.2 (Tryz.slices_Sort_string blk off cap ss W hH hblk hsz),
   fun p cap W => callsIn_wide.2 (Tryz.slices_Sort_string_none p cap W)⟩
theorem keysF_any (b : Nat) (w : World) : Calls Tryz.prog 86 #[.map (some b)] w fun e w' => e = .returned (.func (.func 143) #[] #[.pointer (some ⟨w.heap.size, 0, none⟩)]) ∧ w' = w.alloc (.cells #[.map (some b)] 105) :=
  (callsIn_wide (n := 5)).1 (AnyZ.keys_in Tryz.keysA Fence.wide 5 trivial rfl (some b) w)
theorem strKeys_dm (m : Mp Value) : strKeys (dm DataW.held m) = m.map (·.1) := by
  unfold strKeys dm
  simp only [List.map_map]
  rfl
theorem sortedF_any (b bx : Nat) (m : Mp Value) (w : World) (hb : w.cell? ⟨bx, 0, none⟩ = some (.map (some b))) (hm : MapM Tryz.prog 9 w b m) (hl : m.length ≤ 1000000) :
    Calls Tryz.prog 85 #[.func (.func 143) #[] #[.pointer (some ⟨bx, 0, none⟩)]] w fun e w' => ∃ v, e = .returned v ∧ OwnV w' w.heap.size 9 v (m.map fun p => sv p.1) ∧ Below w.heap.size w w' := by
  have hseq : SeqGives Fence.wide 2 Tryz.prog 143 #[.pointer (some ⟨bx, 0, none⟩)] encStr (fun ss => ss.Perm (strKeys (dm DataW.held m))) (Maps.size (dm DataW.held m)) w :=
    AnyZ.keys_gives (ρ := Tryz.keysA_ren) { Tryz.keysA with } Fence.wide _ trivial rfl (by omega) bx b m.length (dm .held m) _ (World.block_lt_of_cell? w _ hb) hb hm.2
  have cS := AnyZ.sorted_in Tryz.sortedA Fence.wide 5 trivial trivial trivial trivial rfl (by omega) (sortsA _) (enters_of Tryz.func118 (by kernel_rfl) rfl) 143 #[.pointer (some ⟨bx, 0, none⟩)] trivial (enters_of Tryz.func143 (by kernel_rfl) rfl) _ _ (by rw [dm_size]; unfold maxLen; omega) (by rw [dm_size]; omega) _ hseq
  change CallsIn _ _ Tryz.prog 85 _ _ _ at cS
  refine ((callsIn_wide (n := 5)).1 cS).mono ?_
  rintro e w' ⟨v, ss, rfl, hS, hrow, hnil, hb⟩
  refine ⟨v, rfl, ?_, hb⟩
  rw [strKeys_dm] at hS
  have hs := sorted_names hm.1 hS
  rw [hs] at hrow
  have hlen : ss.length = (m.map fun p => sv p.1).length := by rw [hS.length_eq, List.length_map, List.length_map]
  unfold OwnV
  rw [← hlen]
  have e2 : (m.map fun p => p.1).map encStr = m.map fun p => sv p.1 := by
    rw [List.map_map]
    rfl
  rw [← e2]
  exact hrow
end Go.Proofs.YtpenleogafdbhaaGreatDoor

namespace Go.Proofs.YtpenleogafdbhaaGreatDoor
open Go.RowKit Go.Maps Go.ChangeMaps Go.WideElems Go.WideShapes Go.WideAt Go.WideMaps
def enRow (p : Bs × Bs) : List Value := [.string (str p.1), .string (str p.2)]
/-- a slice of entries, newly made -/
def OwnE (w : World) (B : Nat) (v : Value) (l : En) : Prop := OwnS w B 145 2 v (l.map enRow)
theorem info145 : (Tryz.prog.info? 145).map (fun i => (i.zero, i.size, i.bytes)) = some (some (.agg #[.string ⟨#[]⟩, .string ⟨#[]⟩]), 2, 32) := by kernel_rfl
theorem mem_insertD {H : Type} (x p : Lit × DataW H) : ∀ l : List (Lit × DataW H), p ∈ DataW.insert x l → p = x ∨ p ∈ l
  | [], h => by
    rcases List.mem_cons.1 h with h | h
    · exact .inl h
    · cases h
  | y :: r, h => by
    unfold DataW.insert at h
    split at h
    · rcases List.mem_cons.1 h with h | h
      · exact .inl h
      · exact .inr h
    · rcases List.mem_cons.1 h with h | h
      · exact .inr (by rw [h]; exact List.mem_cons_self)
      · exact (mem_insertD x p r h).imp id fun h => List.mem_cons_of_mem _ h
theorem mem_foldrD {H : Type} (p : Lit × DataW H) : ∀ l : List (Lit × DataW H), p ∈ l.foldr DataW.insert [] → p ∈ l
  | [], h => h
  | x :: r, h => by
    rcases mem_insertD x p _ h with h | h
    · rw [h]; exact List.mem_cons_self
    · exact List.mem_cons_of_mem _ (mem_foldrD p r h)
theorem MapM.key_le {P : Program} {k : TypeId} {w : World} {b : Nat} {m : Mp Value} (h : MapM P k w b m) (hk : P.underlying k = some .string) : ∀ p ∈ m, p.1.length ≤ maxLen := by
  intro p hp
  obtain ⟨_, es, clock, hb, F, _, hD⟩ := h
  unfold dm at hD
  injection hD with hD
  have h1 : (Lit.string p.1, DataW.held p.2) ∈ m.map fun p => (Lit.string p.1, DataW.held p.2) := List.mem_map.2 ⟨p, hp, rfl⟩
  rw [hD] at h1
  obtain ⟨x, hx, e⟩ := List.mem_map.1 (mem_foldrD _ _ h1)
  obtain ⟨y, hy⟩ := F.reads x hx
  have e2 : WideElems.rg P k Rv x = y := by
    unfold WideElems.rg
    rw [hy]
    rfl
  rw [e2] at e
  have h3 := WideElems.rd_key hy
  rw [e] at h3
  obtain ⟨s, -, e4, h5⟩ := string_inv hk h3
  injection e4 with e4
  rw [e4]
  exact h5
theorem bl_eq (x y : Bs) : Op.bytesLess (str x).toList (str y).toList = bytesBefore x y := by
  rw [toList_data, toList_data, str_list, str_list]
  rw [Go.Proofs.bytesLess_eq]
  cases h : bytesBefore x y with
  | true => exact decide_eq_true ((bb_lt _ _).1 h)
  | false => exact decide_eq_false fun h2 => by rw [(bb_lt _ _).2 h2] at h; cases h
theorem em_eq (y : Bs) : (str y).toList.isEmpty = (y.length == 0) := by
  rw [toList_data, str_list]
  cases y <;> rfl
theorem scan_snoc (t : Tab) (a b : Bs) (k : Nat) (p : Bs × (Bs × Bool)) (h : t[k]? = some p) : scanTab (t.take (k + 1)) a b = scanTab (t.take k) a b ++ (if inRange a b p.1 = true then [(p.1, p.2.1)] else []) := by
  unfold scanTab
  rw [List.take_add_one, h]
  show ((t.take k ++ [p]).filter _).map _ = _
  rw [List.filter_append, List.map_append]
  congr 1
  rw [List.filter_cons]
  split <;> rfl
section
variable {w : World} {sp dp tb vb mb : Nat} {rv qv : Value} {R : List (Nat × Tab)} {V : Mi (Nat × Tab)} {s : St} {L : Mp FileR} {d : Dk}
set_option maxRecDepth 100000 in
set_option maxHeartbeats 8000000 in
theorem scan_any (h : StM w sp dp tb vb rv qv R V s) (hz : SmallS s R) (hw : ∀ p ∈ V, p.2.2.length ≤ 100000) (v : Int) (hv : (Lit.int .i64 v).wf = true) (a b : Bs) (ha : a.length ≤ 1000000) (hb : b.length ≤ 1000000) :
    Calls Tryz.prog 23 #[.pointer (some ⟨sp, 0, none⟩), .int .i64 v, .string (str a), .string (str b)] w fun e w' => ∃ v', e = .returned (.tuple #[v', .int .i64 ((s.scan v a b).2 : Int)]) ∧ OwnE w' w.heap.size v' (s.scan v a b).1 ∧ Below w.heap.size w w' := by
  obtain ⟨e0, -⟩ := stc_of h.cells
  have HM := hid (made_any e0)
  have HS := hid (seen_any h hz v hv)
  have HLT : Hid (∀ t, s.seen v = some t → t.length ≤ 200000) := hid fun t ht => by
    by_cases h1 : v = -1
    · subst h1
      have e : s.all = t := Option.some.inj ht
      rw [← e, all_eq]
      have h2 := len_all s.mem s.runs
      have h3 := hz.mem
      have h4 : cntT s.runs ≤ s.runs.length * 2000 := by
        rw [h.eqR]
        have : ∀ R : List (Nat × Tab), (∀ p ∈ R, p.2.length ≤ 2000) → cntT (R.map (·.2)) ≤ (R.map (·.2)).length * 2000 := by
          intro R
          induction R with
          | nil => intro _; exact Nat.le_refl _
          | cons p r ih =>
            intro hp
            have h5 := ih fun x hx => hp x (List.mem_cons_of_mem _ hx)
            have h6 := hp p List.mem_cons_self
            unfold cntT at *
            rw [List.map_cons, List.map_cons, List.sum_cons, List.length_cons, Nat.succ_mul]
            omega
        exact this R hz.run
      have h5 : s.runs.length ≤ 20 := by rw [h.eqR, List.length_map]; exact hz.runs
      have h6 : s.runs.length * 2000 ≤ 20 * 2000 := Nat.mul_le_mul_right _ h5
      omega
    · rw [h.seen h1] at ht
      cases hg : iget v V with
      | none => rw [hg] at ht; cases ht
      | some p =>
        rw [hg] at ht
        cases ht
        exact Nat.le_trans (hw _ (iget_mem hg)) (by decide)
  obtain ⟨g, hg⟩ : ∃ g, g = s.scan v a b := ⟨_, rfl⟩
  rw [← hg]
  unfold St.scan at hg
  clear h hz hv hw
  go_enter Tryz.func23, Tryz.ntmps23
  go_wp2_with (first | (go_at_call 83; refine HM.out.mono ?_; rintro e w1 ⟨rfl, hw⟩; obtain rfl := hw.symm) | fail)
  go_at_call 84
  refine HS.out.mono ?_
  rintro e w1 ⟨⟨ob, t, ho, rfl, hm⟩ | ⟨ho, rfl⟩, hb1⟩
  · have HMT := hid hm
    have HB := hid hb1
    have HTL : Hid (t.length ≤ 200000) := hid (HLT.out t ho)
    rw [ho] at hg
    dsimp only at hg
    have HG := hid hg
    clear hm hb1 ho hg
    have HKF := hid (fun w => keysF_any ob w)
    have HSF : Hid (Calls Tryz.prog 85 #[.func (.func 143) #[] #[.pointer (some ⟨w1.heap.size, 0, none⟩)]] (w1.alloc (.cells #[.map (some ob)] 105)) fun e w' => ∃ v, e = .returned v ∧ OwnV w' (w1.alloc (.cells #[.map (some ob)] 105)).heap.size 9 v ((tabV t).map fun p => sv p.1) ∧ Below (w1.alloc (.cells #[.map (some ob)] 105)).heap.size (w1.alloc (.cells #[.map (some ob)] 105)) w') := hid (sortedF_any ob w1.heap.size (tabV t) _ (box1 (heap_alloc_new w1 _)) (HMT.out.block (Below.heap_alloc _ _ _ HMT.out.lt)) (by unfold tabV; rw [mmap_length]; have := HTL.out; omega))
    go_wp2_with (first
      | (go_at_call 86; refine (HKF.out _).mono ?_; rintro e w2 ⟨rfl, hw⟩; obtain rfl := hw.symm)
      | (go_at_call 85; refine HSF.out.mono ?_; rintro e w3 ⟨kv, rfl, hok, hb3⟩; have HOK := hid hok; have HB3 := hid (HB.out.trans (((Below.refl _ w1).alloc (Nat.le_refl _) (.cells #[.map (some ob)] 105)).trans (hb3.mono (by simp)) |>.mono HB.out.size)); have HB13 := hid (((Below.refl _ w1).alloc (Nat.le_refl _) (.cells #[.map (some ob)] 105)).trans (hb3.mono (by simp))); obtain ⟨ka, kn, kc, rfl⟩ := ownV_sh hok; clear hok hb3)
      | fail)
    obtain ⟨N, hN⟩ : ∃ N, N = t.length := ⟨_, rfl⟩
    have HN := hid hN
    have hkn : kn = N := by
      obtain ⟨x, y, e⟩ := ownV_slice HOK.out
      injection e with _ e _
      rw [e, List.length_map]
      unfold tabV
      rw [mmap_length, hN]
    subst hkn
    clear hN HSF HKF
    go_loopw [12, 30] (fun ov iv wr => ∃ k : Nat, iv = .int .i64 (k : Int) ∧ k ≤ kn ∧ (∃ x n c, ov = .slice x n c) ∧ Hid (OwnE wr w.heap.size ov (scanTab (t.take k) a b)) ∧ Hid (Below w.heap.size w wr ∧ MapM Tryz.prog 9 wr ob (tabV t) ∧ OwnV wr (w1.alloc (.cells #[.map (some ob)] 105)).heap.size 9 (.slice ka kn kc) (t.map fun p => sv p.1))) (fun _ iv _ => kn - (intOf iv).toNat)
    case atStart =>
      refine ⟨0, rfl, Nat.zero_le _, ⟨_, _, _, rfl⟩, hid (ownS_nil _ _ _ _), hid ⟨HB3.out, HMT.out.block (HB13.out.block ob HMT.out.lt), ?_⟩⟩
      have h := HOK.out
      have e : (tabV t).map (fun p => sv p.1) = t.map fun p => sv p.1 := by
        unfold tabV mmap
        rw [List.map_map]
        rfl
      rwa [e] at h
    case round =>
      obtain ⟨k, rfl, hk, ⟨ox, on, oc, rfl⟩, HO, HF⟩ := hrel
      rename World => wr
      by_cases hlt : k < kn
      · have hkl : k < t.length := by rw [← HN.out]; exact hlt
        obtain ⟨p, hp⟩ : ∃ p, t[k]? = some p := ⟨_, List.getElem?_eq_getElem hkl⟩
        obtain ⟨gk, rfl, -, hc⟩ := isV_at (ownV_isV HF.out.2.2 (by rw [List.length_map]; have := HTL.out; omega)) k (by rw [List.length_map]; exact hkl)
        rw [List.getD_eq_getElem?_getD, List.getElem?_map, hp] at hc
        have e1 : wr.cell? ⟨gk, k, none⟩ = some (.string (str p.1)) := hc
        clear hc
        have hlook := fun (W : World) (hM : MapM Tryz.prog 9 W ob (tabV t)) => hM.look (t := 105) (e := 138) Tryz.underlying9 Tryz.underlying105 (zero138 W) (s := str p.1)
        have hmg : mget p.1 (tabV t) = some (cellV p.2) := by
          unfold tabV
          rw [mget_mmap, mem_mget (srt_of_mmap _ HMT.out.1) (show (p.1, p.2) ∈ t from List.mem_of_getElem? hp)]
          rfl
        have hksz : (str p.1).size ≤ maxLen := by
          rw [str_size]
          exact HMT.out.key_le Tryz.underlying9 (p.1, cellV p.2) (mem_mmap.2 ⟨p.2, List.mem_of_getElem? hp, rfl⟩)
        have hfd : ∀ (x : ByteArray) (y : Bool) (W : World), (Instr.field 138 (.agg #[.string x, .bool y]) 0).run Tryz.prog W = .ok (.string x) W := fun _ _ _ => by kernel_rfl
        have hknb : kn ≤ 200000 := by rw [HN.out]; exact HTL.out
        have hlk := hlook wr HF.out.2.1 hksz
        rw [str_list, hmg] at hlk
        have hlk2 : (Instr.lookup 105 (.map (some ob)) (.string (str p.1)) false).run Tryz.prog wr = .ok (.agg #[.string (str p.2.1), .bool p.2.2]) wr := hlk
        have hsn := scan_snoc t a b k p hp
        clear hlk hlook hmg hksz hkl hp
        have h1 := bl_eq p.1 a
        have h2 := em_eq b
        have h3 := bl_eq p.1 b
        have hir : inRange a b p.1 = (!bytesBefore p.1 a && (b.length == 0 || bytesBefore p.1 b)) := rfl
        have HLn : Hid (((scanTab (t.take k) a b).map enRow).length < 1000000) := hid (by
          unfold scanTab
          rw [List.length_map, List.length_map]
          have := List.length_filter_le (fun p : Bs × (Bs × Bool) => inRange a b p.1) (t.take k)
          rw [List.length_take] at this
          have := HTL.out
          omega)
        have HWS : Hid (w.heap.size ≤ wr.heap.size) := hid HF.out.1.size
        obtain ⟨la, hla⟩ : ∃ x, x = bytesBefore p.1 a := ⟨_, rfl⟩
        obtain ⟨eb, heb⟩ : ∃ x, x = (b.length == 0) := ⟨_, rfl⟩
        obtain ⟨lb, hlb⟩ : ∃ x, x = bytesBefore p.1 b := ⟨_, rfl⟩
        rw [← hla] at h1 hir
        rw [← heb] at h2 hir
        rw [← hlb] at h3 hir
        clear hla heb hlb
        rcases (show (inRange a b p.1 = false ∧ (la = true ∨ (la = false ∧ eb = false ∧ lb = false))) ∨ (inRange a b p.1 = true ∧ la = false ∧ (eb = true ∨ (eb = false ∧ lb = true))) by
          rw [hir]
          cases la <;> cases eb <;> cases lb <;> simp) with ⟨hin, hcase⟩ | ⟨hin, rfl, hcase⟩
        · rw [hin, if_neg (by decide), List.append_nil] at hsn
          have HSN := hid hsn
          clear hin hir hsn
          rcases hcase with rfl | ⟨rfl, rfl, rfl⟩
          all_goals
            go_wp2_with fail
            go_roundw
            case rel => exact ⟨k + 1, by go_num, hlt, ⟨_, _, _, rfl⟩, hid (by rw [HSN.out]; exact HO.out), HF⟩
            case measure => simp [intOf]; omega
        · rw [hin, if_pos rfl] at hsn
          have HSN := hid hsn
          clear hin hir hsn
          rcases hcase with rfl | ⟨rfl, rfl⟩
          all_goals go_wp2_with (first
            | (at_builtin; refine wpl_app_s 45 145 (.agg #[.string ⟨#[]⟩, .string ⟨#[]⟩]) 2 32 info145 rfl (by decide) Tryz.underlying45 (by decide) [.string (str p.1), .string (str p.2.1)] rfl (by intro u hu; simp at hu; rcases hu with rfl | rfl <;> rfl) _ _ (.slice ox on oc) w.heap.size ((scanTab (t.take k) a b).map enRow) rfl rfl rfl rfl HO.out HLn.out HWS.out ?_; intro v6 w6 ho6 hb6 hg6; have HO6 := hid ho6; have HB6 := hid hb6; have HG6 := hid hg6; obtain ⟨q6, n6, c6, rfl⟩ := (show ∃ q n c, v6 = Value.slice q n c from by obtain ⟨x, y, e⟩ := ownS_sh ho6; exact ⟨_, _, _, e⟩); clear ho6 hb6 hg6)
            | fail)
          all_goals
            go_roundw
            case rel =>
              refine ⟨k + 1, by go_num, hlt, ⟨_, _, _, rfl⟩, hid ?_, hid ⟨HF.out.1.trans HB6.out, ?_, ?_⟩⟩
              · unfold OwnE
                rw [HSN.out, List.map_append]
                exact HO6.out
              · refine HF.out.2.1.block (HG6.out.block ob HF.out.2.1.lt fun e => ?_)
                obtain ⟨cs, hcs⟩ := row_type HO.out.2 ob e.symm
                obtain ⟨es, cl, hmk⟩ := HF.out.2.1.kind
                rw [hmk] at hcs
                cases hcs
              · exact row_other HF.out.2.2 HG6.out (fun k hk => row_type HO.out.2 k hk) (by decide)
            case measure => simp [intOf]; omega
      · obtain rfl : k = kn := by omega
        have HF2 : Hid (OwnE wr w.heap.size (.slice ox on oc) (scanTab t a b)) := hid (by
          have h := HO.out
          rwa [List.take_of_length_le (by rw [← HN.out]; exact Nat.le_refl _)] at h)
        go_wp2_with fail
        go_ret2
        rw [HG.out]
        exact ⟨_, rfl, HF2.out, HF.out.1⟩
  · have HB := hid hb1
    rw [ho] at hg
    have HG := hid hg
    clear hb1 ho hg
    go_wp2_with fail
    go_ret2
    rw [HG.out]
    exact ⟨_, rfl, ownS_nil _ _ _ _, HB.out⟩
end
end Go.Proofs.YtpenleogafdbhaaGreatDoor

namespace Go.Proofs.YtpenleogafdbhaaGreatDoor
open Go.RowKit Go.Maps Go.ChangeMaps Go.WideElems Go.WideShapes Go.WideAt Go.WideMaps
instance : Inhabited Ch := ⟨⟨[], [], false⟩⟩
theorem cb_lt : ∀ a b : Bs, decide (Lib.compareBytes a b < 0) = bytesBefore a b
  | [], [] => rfl
  | [], _ :: _ => rfl
  | _ :: _, [] => rfl
  | a :: r, b :: s => by
    unfold Lib.compareBytes bytesBefore
    by_cases h1 : a < b
    · rw [if_pos h1]
      simp [h1]
    · rw [if_neg h1]
      by_cases h2 : b < a
      · rw [if_pos h2]
        have h3 : ¬ a = b := fun e => by rw [e] at h2; exact absurd h2 (UInt8.lt_irrefl b)
        simp [h1, h3]
      · rw [if_neg h2]
        have h3 : a = b := UInt8.le_antisymm (UInt8.not_lt.1 h2) (UInt8.not_lt.1 h1)
        rw [cb_lt r s]
        simp [h1, h3]
def cfC (x y : Ch) : Int := Lib.compareBytes x.key y.key
theorem ltC (x y : Ch) : ltOf cfC x y = bytesBefore x.key y.key := cb_lt x.key y.key
theorem swoC : Sort.SWO (ltOf cfC) where
  irrefl x := by rw [ltC, bytes_irrefl]
  trans x y z h1 h2 := by rw [ltC] at *; exact bytes_trans _ _ _ h1 h2
  ntrans x y z h1 h2 := by
    rw [ltC] at *
    cases h : bytesBefore x.key z.key with
    | false => rfl
    | true =>
      by_cases e : x.key = y.key
      · rw [← e, h] at h2; cases h2
      · rcases bytes_total _ _ e with h3 | h3
        · rw [h3] at h1; cases h1
        · rw [bytes_trans _ _ _ h3 h] at h2; cases h2
theorem chRow_len (c : Ch) : (chRow c).length = 3 := rfl
theorem flatK_list (l : List Ch) : (Sort.flatK chRow 3 l.toArray).toList = (l.map chRow).flatten := by
  apply List.ext_getElem?
  intro n
  have hfl : (l.map chRow).flatten.length = l.length * 3 := by
    rw [flat_len (size := 3) (fun r hr => by obtain ⟨c, -, rfl⟩ := List.mem_map.1 hr; rfl), List.length_map]
  by_cases hn : n < l.length * 3
  · have hi : n / 3 < l.length := by omega
    have h1 := flat_at (size := 3) (rs := l.map chRow) (fun r hr => by obtain ⟨c, -, rfl⟩ := List.mem_map.1 hr; rfl) (n / 3) (n % 3) (by rw [List.length_map]; exact hi) (Nat.mod_lt _ (by decide))
    rw [show n / 3 * 3 + n % 3 = n by omega] at h1
    rw [h1, Array.getElem?_toList]
    have h2 : n < (Sort.flatK chRow 3 l.toArray).size := by rw [Sort.size_flatK]; simpa using hn
    rw [Array.getElem?_eq_getElem h2]
    have h3 := Sort.get_flatK chRow 3 l.toArray n (by simpa using hn)
    rw [getElem!_pos _ n h2] at h3
    rw [h3]
    have h4 : l.toArray[n / 3]! = l[n / 3] := by simp [hi]
    rw [h4, List.getD_eq_getElem?_getD (l := l.map chRow), List.getElem?_map, List.getElem?_eq_getElem hi]
    have h5 : n % 3 < (chRow l[n / 3]).length := by rw [chRow_len]; exact Nat.mod_lt _ (by decide)
    show some _ = some ((chRow l[n / 3]).getD (n % 3) undef)
    rw [getElem!_pos (chRow l[n / 3]) (n % 3) h5, List.getD_eq_getElem?_getD, List.getElem?_eq_getElem h5]
    rfl
  · rw [List.getElem?_eq_none (l := (Sort.flatK chRow 3 l.toArray).toList) (by rw [Array.length_toList, Sort.size_flatK]; simp; omega), List.getElem?_eq_none (l := (l.map chRow).flatten) (by rw [hfl]; omega)]
theorem holds_blockK {w : World} {g : Nat} {cur : Array Value} {e : TypeId} {F : List Value} (hb : w.heap[g]? = some (.cells cur e (0, 0))) (ht : cur.toList.take F.length = F) : Sort.Holds id w g 0 F.toArray := by
  intro j hj
  have hj' : j < F.length := by simpa using hj
  refine ⟨?_, by simp [World.frozen?, hb]⟩
  have h1 : (cur.toList.take F.length)[j]? = F[j]? := by rw [ht]
  rw [List.getElem?_take_of_lt hj'] at h1
  simp only [World.cell?, hb, Nat.zero_add]
  simp only [Option.isSome_none, Bool.false_eq_true, if_false]
  rw [← Array.getElem?_toList, h1]
  simp [hj']
theorem heap_sortedK {w : World} {g n : Nat} {os : Array Obj} {cur : Array Value} {e : TypeId} {fr : Nat × Nat} (F : Array Value) (hb : w.heap[g]? = some (.cells cur e fr)) :
    (Sort.grow (Sort.putRow id (Sort.ahead w n) g 0 F) os).heap[g]? = some (.cells (Sort.putCells id 0 F cur) e fr) := by
  have hg : g < w.heap.size := (Array.getElem?_eq_some_iff.1 hb).1
  rw [Sort.heap_grow_old _ _ (by simpa using hg)]
  simp [Sort.putRow, Sort.mapBlock, Sort.ahead, Array.getElem?_modify, hb, Sort.onCells]
theorem grownBy_sortedK {w : World} {g n : Nat} {os : Array Obj} (F : Array Value) : w.grownBy (Sort.grow (Sort.putRow id (Sort.ahead w n) g 0 F) os) (some g) := by
  refine ⟨rfl, rfl, rfl, by simp, fun k hk hne => ?_⟩
  rw [Sort.heap_grow_old _ _ (by simpa using hk)]
  have : g ≠ k := fun e => hne (by rw [e])
  simp [Sort.putRow, Sort.mapBlock, Sort.ahead, Array.getElem?_modify, this]
theorem take_putCellsK (cur : Array Value) (F : List Value) (h : F.length ≤ cur.size) : (Sort.putCells id 0 F.toArray cur).toList.take F.length = F := by
  apply List.ext_getElem?
  intro j
  by_cases hj : j < F.length
  · rw [List.getElem?_take_of_lt hj, Array.getElem?_toList]
    simp [Sort.putCells, hj, show j < cur.size by omega]
  · rw [List.getElem?_take_eq_none (by omega), List.getElem?_eq_none (by omega)]
set_option maxRecDepth 100000 in
set_option maxHeartbeats 1000000 in
theorem closure198 (x y : Ch) (W : World) : Calls Tryz.prog 198 #[.agg #[.string (str x.key), .string (str x.val), .bool x.del], .agg #[.string (str y.key), .string (str y.val), .bool y.del]] W fun e w' => e = .returned (.int .i64 (cfC x y)) ∧ ∃ q os', w' = Sort.grow (W.drewN q) os' := by
  have hcon := fun W' => Tryz.strings_Compare (str x.key) (str y.key) W'
  rw [str_list, str_list] at hcon
  unfold cfC
  generalize Lib.compareBytes x.key y.key = r at hcon ⊢
  have HC := hid hcon
  clear hcon
  go_enter Tryz.func198, Tryz.ntmps198
  go_wp2_with (first | (go_at_call 199; refine (HC.out _).mono ?_; rintro e w1 ⟨rfl, hw⟩; obtain rfl := hw.symm) | fail)
  go_ret
  exact ⟨rfl, 0, _, by rw [Sort.alloc_eq_grow, Sort.alloc_eq_grow, Sort.grow_grow]; rfl⟩
theorem isAgg39 : ∀ w, (isAgg 39).run Tryz.prog w = .ok true w := fun w => by kernel_rfl
theorem sizeOf39 : ∀ w, (Go.sizeOf 39).run Tryz.prog w = .ok 3 w := fun w => by kernel_rfl
/-- changes are sorted by their keys -/
theorem sortC_any (g c B : Nat) (l : List Ch) (t : Tab) (w : World) (ho : OwnS w B 39 3 (.slice (some ⟨g, 0, none⟩) l.length c) (l.map chRow)) (hp : l.Perm t.changes) (ht : Srt t) (hl : l.length ≤ 1000000) :
    Calls Tryz.prog 197 #[.slice (some ⟨g, 0, none⟩) l.length c, .func (.func 198) #[] #[]] w fun e w' => e = .returned (.tuple #[]) ∧ OwnS w' B 39 3 (.slice (some ⟨g, 0, none⟩) l.length c) (t.changes.map chRow) ∧ w.grownBy w' (some g) := by
  obtain ⟨h0, hrow⟩ := ho
  rw [List.length_map] at hrow
  have hfl : (l.map chRow).flatten.length = l.length * 3 := hrow.1
  obtain ⟨hfl0, h2 | ⟨g', cap, cur, hv, hB, hh, hn, hm, hs, htk⟩⟩ := hrow
  · cases h2.1
  · injection hv with q1 _ q3
    injection q1 with q1
    injection q1 with q1
    subst q1; subst q3
    have hH : Sort.HoldsK chRow 3 w g 0 l.toArray := by
      have h := holds_blockK (F := (l.map chRow).flatten) hh (by rw [hfl]; exact htk)
      unfold Sort.HoldsK
      have e : Sort.flatK chRow 3 l.toArray = (l.map chRow).flatten.toArray := by rw [← flatK_list]
      rw [e]
      exact h
    have eg : ∀ args w, (callFunc 198 args).run Tryz.prog w = .ok (.enter 198 args) w := enters_of Tryz.func198 (by kernel_rfl) rfl
    have hcon := AnyQ.slices_SortFunc Tryz.sortC 3 isAgg39 sizeOf39 chRow (fun _ => rfl) (fun x v hv => by simp [chRow] at hv; rcases hv with rfl | rfl | rfl <;> rfl) cfC swoC 198 #[] g 0 c l.toArray w eg (fun _ _ _ _ x y => closure198 x y _) hH (heap_lt hh) (by simp; omega)
    change Calls Tryz.prog 197 _ _ _ at hcon
    rw [List.size_toArray] at hcon
    refine hcon.mono ?_
    rintro e w' ⟨rfl, d', n, os, hpm, hso, rfl⟩
    obtain ⟨hsz, -, hpe⟩ := hpm
    have hsz' : d'.size = l.length := by simpa using hsz
    have hpe2 : d'.toList.Perm l := by
      have e1 : (d'.extract 0 l.length).toList = d'.toList := by rw [← hsz']; simp
      have e2 : (l.toArray.extract 0 l.length).toList = l := by simp
      rwa [e1, e2] at hpe
    have hsort : d'.toList.Pairwise (fun a b => bytesBefore b.key a.key = false) := by
      rw [List.pairwise_iff_getElem]
      intro i j hi hj hij
      have hi' : i < d'.size := by simpa using hi
      have hj' : j < d'.size := by simpa using hj
      have h := hso i j (Nat.zero_le _) hij (by rw [← hsz']; exact hj')
      rw [ltC, getElem!_pos d' j hj', getElem!_pos d' i hi'] at h
      exact h
    have hpt : d'.toList.Perm t.changes := hpe2.trans hp
    have hst : t.changes.Pairwise (fun a b => bytesBefore b.key a.key = false) := by
      unfold Tab.changes
      rw [List.pairwise_map]
      exact ht.imp fun h => bb_not h
    have heq : d'.toList = t.changes := by
      refine hpt.eq_of_pairwise (fun a b ha hb h1 h2 => ?_) hsort hst
      have ha := hpt.mem_iff.1 ha
      by_cases e : a.key = b.key
      · obtain ⟨p, hp1, rfl⟩ := List.mem_map.1 ha
        obtain ⟨q, hq1, rfl⟩ := List.mem_map.1 hb
        have e : p.1 = q.1 := e
        have := mem_unique ht (show (p.1, p.2) ∈ t from hp1) (show (p.1, q.2) ∈ t from e ▸ hq1)
        rw [e, this]
      · rcases bytes_total _ _ e with h3 | h3
        · rw [h3] at h2; cases h2
        · rw [h3] at h1; cases h1
    have hlc : t.changes.length = l.length := hp.length_eq.symm
    have hflt : (t.changes.map chRow).flatten.length = l.length * 3 := by
      rw [flat_len (size := 3) (fun r hr => by obtain ⟨c, -, rfl⟩ := List.mem_map.1 hr; rfl), List.length_map, hlc]
    have hF : Sort.flatK chRow 3 d' = (t.changes.map chRow).flatten.toArray := by
      rw [← heq, ← flatK_list]
    refine ⟨rfl, ⟨fun r hr => by obtain ⟨c, -, rfl⟩ := List.mem_map.1 hr; rfl, ?_⟩, ?_⟩
    · rw [List.length_map, hlc]
      refine ⟨hflt, .inr ⟨g, c, Sort.putCells id 0 (t.changes.map chRow).flatten.toArray cur, rfl, hB, ?_, hn, hm, ?_, ?_⟩⟩
      · unfold Go.Proofs.sortWorldK Sort.putRowK
        rw [hF]
        exact heap_sortedK _ hh
      · simp [Sort.putCells, hs]
      · rw [← hflt]
        exact take_putCellsK cur _ (by rw [hflt, hs]; exact Nat.mul_le_mul_right _ hn)
    · unfold Go.Proofs.sortWorldK Sort.putRowK
      exact grownBy_sortedK _
theorem perm_mdelT {α : Type} {rem : Mp α} (hs : Srt rem) {k : Bs} {v : α} (h : (k, v) ∈ rem) : ((k, v) :: mdel k rem).Perm rem := by
  induction rem with
  | nil => cases h
  | cons p r ih =>
    obtain ⟨h1, h2⟩ := List.pairwise_cons.1 hs
    by_cases hk : p.1 = k
    · have e1 : mdel k (p :: r) = r := by
        have e1 : mdel k (p :: r) = mdel k r := by unfold mdel; rw [List.filter_cons, if_neg (by simp [hk])]
        rw [e1, mdel_none (mget_none.2 fun x hx => by rw [← hk]; exact (bb_ne (h1 x hx)).symm)]
      have e2 : p = (k, v) := by
        rcases List.mem_cons.1 h with h | h
        · exact h.symm
        · exact absurd hk (bb_ne (h1 _ h))
      rw [e1, e2]
    · have e : mdel k (p :: r) = p :: mdel k r := by unfold mdel; rw [List.filter_cons, if_pos (by simp [hk])]
      have h3 : (k, v) ∈ r := by
        rcases List.mem_cons.1 h with h | h
        · rw [← h] at hk; exact absurd rfl hk
        · exact h
      rw [e]
      exact (List.Perm.swap _ _ _).trans ((ih h2 h3).cons _)
/-- changes that rows of a table make up -/
def chOf (p : Bs × (Bs × Bool)) : Ch := ⟨p.1, p.2.1, p.2.2⟩
set_option maxRecDepth 100000 in
set_option maxHeartbeats 8000000 in
theorem changes_any (b : Nat) (t : Tab) (w : World) (hm : MapM Tryz.prog 9 w b (tabV t)) (h0 : t ≠ []) (hl : t.length ≤ 100000) (hkl : ∀ p ∈ t, p.1.length ≤ 1000 ∧ p.2.1.length ≤ 1000) :
    Calls Tryz.prog 165 #[.map (some b)] w fun e w' => ∃ v', e = .returned v' ∧ OwnS w' w.heap.size 39 3 v' (t.changes.map chRow) ∧ Below w.heap.size w w' := by
  have HM := hid hm
  have HT : Hid (Srt t) := hid (srt_of_mmap _ hm.1)
  have HL := hid hl
  have H0 := hid h0
  clear hm hl h0
  go_enter Tryz.func165, Tryz.ntmps165
  go_wp2_with (first
    | (at_range; refine wpl_range rfl _ 105 rfl 9 138 Tryz.underlying9 Tryz.underlying105 b (tabV t) rfl HM.out ?_; intro w0 hrg0 hb0 hs0)
    | fail)
  go_frame
  have HR0 := hid hrg0
  have HB0 := hid hb0
  clear hrg0 hb0 hs0
  go_loopw [3] (fun ov wr => ∃ (rem : Tab) (acc : List Ch), (∃ a c, ov = .slice a acc.length c) ∧ Hid (OwnS wr w.heap.size 39 3 ov (acc.map chRow)) ∧ Hid (RangeM Tryz.prog 9 wr b w.heap.size (tabV t) (tabV rem)) ∧ Hid ((acc ++ rem.map chOf).Perm (t.map chOf)) ∧ Hid (Below w.heap.size w wr)) (fun _ wr => wr.rangeLeft b w.heap.size)
  case atStart => exact ⟨t, [], ⟨_, _, rfl⟩, hid (ownS_nil _ _ _ _), HR0, hid (List.Perm.refl _), HB0⟩
  case round =>
    obtain ⟨rem, acc, ⟨oa, oc, rfl⟩, HO, HR, HP, HB⟩ := hrel
    rename World => wr
    go_wp2_with (first
      | (at_next; refine wpl_next rfl _ rfl 9 Tryz.underlying9 b w.heap.size (tabV t) (tabV rem) rfl HR.out ?_ ?_)
      | fail)
    · intro hrem
      have hr0 : rem = [] := by
        cases rem with
        | nil => rfl
        | cons p r => cases hrem
      have hp : acc.Perm t.changes := by
        have h := HP.out
        rw [hr0, List.map_nil, List.append_nil] at h
        exact h
      have hal : acc.length ≤ 1000000 := by
        rw [hp.length_eq, changes_len]
        have := HL.out
        omega
      have hane : acc ≠ [] := fun e => by
        rw [e] at hp
        have := hp.length_eq
        rw [changes_len] at this
        exact H0.out (List.eq_nil_of_length_eq_zero this.symm)
      obtain ⟨g, c', hv, hBg, -⟩ := ownS_some HO.out (by rw [List.length_map]; exact List.length_pos_iff.2 hane)
      injection hv with q1 q2 q3
      subst q1
      have HS := hid (sortC_any g oc w.heap.size acc t wr HO.out hp HT.out hal)
      have HBG := hid hBg
      clear hrem hr0 hp hal hane q2 q3 hBg
      go_wp2_with (first | (go_at_call 197; refine HS.out.mono ?_; rintro e w8 ⟨rfl, ho8, hg8⟩; have HO8 := hid ho8; have HB8 := hid (HB.out.trans ((Below.refl _ _).grown hg8 HB.out.size (fun k e => by cases e; exact HBG.out))); clear ho8 hg8) | fail)
      go_ret
      exact ⟨_, rfl, HO8.out, HB8.out⟩
    · intro s v w1 hmem hsl hrg1 hlt1 hg1 hsz1 hen
      obtain ⟨h1, h2, h3, _⟩ := HR.out
      obtain ⟨x, hx, rfl⟩ := mem_mmap.1 (show (s.data.toList, v) ∈ mmap cellV rem from hmem)
      have hsr : Srt rem := srt_of_mmap _ h2
      have HB1 : Hid (Below w.heap.size w w1) := hid (HB.out.trans ⟨hg1.os, hg1.tape, hg1.output, hg1.size, fun j hj => hg1.block j (Nat.lt_of_lt_of_le hj HB.out.size) (fun e => by cases e; omega)⟩)
      have HO1 : Hid (OwnS w1 w.heap.size 39 3 (.slice oa acc.length oc) (acc.map chRow)) := hid (ownS_kept HO.out hg1 (by
        cases hq : (Value.slice oa acc.length oc).ownBlock with
        | none => exact .inl rfl
        | some k =>
          refine .inr fun e => ?_
          cases e
          obtain ⟨cs, hcs⟩ := row_type HO.out.2 _ hq
          exact HR.out.iter _ _ _ hcs))
      have e1 : mdel s.data.toList (tabV rem) = tabV (mdel s.data.toList rem) := (mmap_mdel _ _ _).symm
      rw [e1] at hrg1
      have HP2 : Hid ((acc ++ [chOf (s.data.toList, x)] ++ (mdel s.data.toList rem).map chOf).Perm (t.map chOf)) := hid (by
        refine List.Perm.trans ?_ HP.out
        rw [List.append_assoc]
        exact ((perm_mdelT hsr hx).map chOf).append_left _)
      have HR1 := hid hrg1
      have HL1 := hid hlt1
      have HLn : Hid ((acc.map chRow).length < 1000000) := hid (by
        rw [List.length_map]
        have h := HP.out.length_eq
        rw [List.length_append, List.length_map, List.length_map] at h
        have := HL.out
        omega)
      have HRA : Hid (RangeM Tryz.prog 9 (w1.alloc (.cells #[.string (str x.1), .bool x.2] 138)) b w.heap.size (tabV t) (tabV (mdel s.data.toList rem))) := hid (hrg1.block (Below.heap_alloc _ _ _ hrg1.map.lt) (Below.heap_alloc _ _ _ hrg1.lt))
      have HLA : Hid ((w1.alloc (.cells #[.string (str x.1), .bool x.2] 138)).rangeLeft b w.heap.size = w1.rangeLeft b w.heap.size) := hid (rangeLeft_same (Below.heap_alloc _ _ _ hrg1.map.lt) (Below.heap_alloc _ _ _ hrg1.lt))
      have HO2 : Hid (OwnS (w1.alloc (.cells #[.string (str x.1), .bool x.2] 138)) w.heap.size 39 3 (.slice oa acc.length oc) (acc.map chRow)) := hid (ownS_below HO1.out (ba _ _))
      have HB2 : Hid (Below w.heap.size w (w1.alloc (.cells #[.string (str x.1), .bool x.2] 138))) := hid (HB1.out.alloc HB1.out.size _)
      have HST : Hid (str s.data.toList = s) := hid rfl
      have HWS : Hid (w.heap.size ≤ (w1.alloc (.cells #[.string (str x.1), .bool x.2] 138)).heap.size) := hid HB2.out.size
      have HX2 := hid (heap_alloc_new w1 (.cells #[.string (str x.1), .bool x.2] 138))
      obtain ⟨x1, x2⟩ := x
      clear h1 h2 h3 hmem hsl hrg1 hlt1 hg1 hsz1 hsr e1 hx
      unfold cellV at hen ⊢
      dsimp only at hen ⊢
      go_upto_region 5 with fail
      obtain ⟨X, hX⟩ : ∃ X, X = w1.heap.size := ⟨_, rfl⟩
      have HRX := hid HRA.out
      dsimp only at HRA HLA HO2 HB2 HWS HX2
      rw [← hX] at HX2 ⊢
      have hLL : w1.rangeLeft b w.heap.size < wr.rangeLeft b w.heap.size := HL1.out
      generalize w1.alloc (.cells #[.string (str x1), .bool x2] 138) = w2 at *
      obtain ⟨cx0, cx1⟩ := cells2_of HX2.out
      have HLL := hid hLL
      clear hLL hX
      go_wp2_with (first
        | (at_builtin; refine wpl_app_s 40 39 (.agg #[.string ⟨#[]⟩, .string ⟨#[]⟩, .bool false]) 3 40 info39 rfl (by decide) Tryz.underlying40 (by decide) [.string s, .string (str x1), .bool x2] rfl (by intro u hu; simp at hu; rcases hu with rfl | rfl | rfl <;> rfl) _ _ (.slice oa acc.length oc) w.heap.size (acc.map chRow) rfl rfl rfl rfl HO2.out HLn.out HWS.out ?_; intro v6 w6 ho6 hb6 hg6; have HO6 := hid ho6; have HB6 := hid (HB2.out.trans hb6); have HG6 := hid hg6; obtain ⟨q6, c6, hv6⟩ := ownS_sh ho6; clear ho6 hb6 hg6)
        | fail)
      have hl6 : ((acc.map chRow) ++ [[Value.string s, .string (str x1), .bool x2]]).length = (acc ++ [chOf (s.data.toList, (x1, x2))]).length := by
        rw [List.length_append, List.length_append, List.length_map]
        rfl
      rw [hl6] at hv6
      subst hv6
      have hb4 : ∀ k, (∃ es c, w2.heap[k]? = some (.map es c)) ∨ (k < w2.heap.size ∧ ∀ cs t f, w2.heap[k]? ≠ some (.cells cs t f)) → k < w2.heap.size → w6.heap[k]? = w2.heap[k]? := fun k hk hkl => HG6.out.block k hkl fun e => by
        obtain ⟨cs, hcs⟩ := row_type HO2.out.2 k e.symm
        rcases hk with ⟨es, c, e2⟩ | ⟨-, h⟩
        · rw [e2] at hcs; cases hcs
        · exact h _ _ _ hcs
      have hbb := hb4 b (.inl HRX.out.map.kind) HRX.out.map.lt
      have hbr := hb4 w.heap.size (.inr ⟨HRX.out.lt, HRX.out.iter⟩) HRX.out.lt
      go_roundw
      case rel =>
        refine ⟨mdel s.data.toList rem, acc ++ [chOf (s.data.toList, (x1, x2))], ⟨q6, c6, by rw [List.length_append]; rfl⟩, hid ?_, hid (HRX.out.block hbb hbr), HP2, HB6⟩
        rw [List.map_append]
        have h := HO6.out
        rw [List.length_append] at h
        exact h
      case measure =>
        rw [rangeLeft_same hbb hbr, HLA.out]
        exact HLL.out
end Go.Proofs.YtpenleogafdbhaaGreatDoor

namespace Go.Proofs.YtpenleogafdbhaaGreatDoor
open Go.RowKit Go.Maps Go.ChangeMaps Go.WideElems Go.WideShapes Go.WideAt Go.WideMaps
theorem compact_two (a b : Bs) : (Lib.compact [a, b]).length = if a = b then 1 else 2 := by
  unfold Lib.compact
  show (Lib.compactUpTo #[a, b] (0 + 1 + 1)).length = _
  rw [Lib.compactUpTo_succ, Lib.compactUpTo_succ]
  have h0 : Lib.keeps #[a, b] 0 = true := by simp [Lib.keeps]
  have h1 : Lib.keeps #[a, b] (0 + 1) = !(a == b) := by
    unfold Lib.keeps
    by_cases h : a = b
    · simp [h]
    · have h2 : ¬ b = a := fun e => h e.symm
      simp [h, h2]
  rw [h0, h1]
  by_cases h : a = b
  · simp [h, Lib.compactUpTo]
  · simp [h, Lib.compactUpTo]
theorem compact2 (g c B : Nat) (a b : Bs) (w : World) (ho : OwnV w B 9 (.slice (some ⟨g, 0, none⟩) 2 c) ([a, b].map sv)) :
    Calls Tryz.prog 145 #[.slice (some ⟨g, 0, none⟩) 2 c] w fun e w' => ∃ c', e = .returned (.slice (some ⟨g, 0, none⟩) (if a = b then 1 else 2) c') ∧ Below B w w' := by
  obtain ⟨h1, h2 | ⟨g', cap, cur, hv, hB, hh, hn, hm, hs, htk⟩⟩ := ho
  · cases h2.1
  · injection hv with q1 _ q3
    injection q1 with q1
    injection q1 with q1
    subst q1; subst q3
    have hH := Go.holds_of_block (ss := [a, b]) hh (by rw [Nat.mul_one] at htk; exact htk)
    refine (Tryz.slices_Compact_string g 0 c [a, b] w hH (by simp) hn).mono ?_
    rintro e w' ⟨rfl, q, rfl⟩
    rw [compact_two]
    refine ⟨c, rfl, (Below.refl B w).grown (row := some g) ?_ (Nat.le_trans hB (Nat.le_of_lt (heap_lt hh))) (fun k e => by cases e; exact hB)⟩
    refine ⟨rfl, rfl, rfl, by simp [Sort.putRow, Sort.mapBlock, Sort.ahead], fun k hk hne => ?_⟩
    have : g ≠ k := fun e => hne (by rw [e])
    simp [Sort.putRow, Sort.mapBlock, Sort.ahead, Array.getElem?_modify, this]
set_option maxRecDepth 100000 in
set_option maxHeartbeats 4000000 in
theorem ready2_any (dp mb : Nat) (L : Mp FileR) (d : Dk) (nb c : Nat) (s t : Bs) (w : World) (h : DiskM w dp mb L d) (hn : w.cell? ⟨nb, 0, none⟩ = some (sv s)) (hn2 : w.cell? ⟨nb, 1, none⟩ = some (sv t)) :
    Calls Tryz.prog 87 #[.pointer (some ⟨dp, 0, none⟩), .slice (some ⟨nb, 0, none⟩) 2 c] w fun e w' => e = .returned (.int .i64 (d.ready2 s t : Int)) ∧ Below w.heap.size w w' := by
  have HI := hid (is_any h)
  have hcell : ∀ i, i < 2 → w.cell? ⟨nb, i, none⟩ = some (.string ([str s, str t].getD i ByteArray.empty)) := fun i hi => by
    rcases (show i = 0 ∨ i = 1 by omega) with rfl | rfl
    · exact hn
    · exact hn2
  have HV : Hid (IsV w (.slice (some ⟨nb, 0, none⟩) 2 c) ([str s, str t].map .string)) := hid ⟨_, c, rfl, by simp, fun i hi => by
    have hi : i < 2 := hi
    refine ⟨nb, rfl, ?_⟩
    rcases (show i = 0 ∨ i = 1 by omega) with rfl | rfl
    · exact hn
    · exact hn2⟩
  have HC := hid (containsS_any 144 #[] badName (.slice (some ⟨nb, 0, none⟩) 2 c) [str s, str t] w eg144 HV.out (fun W s' hW _ => (bad_any s' W).mono fun e w' ⟨h1, h2⟩ => ⟨h1, by rw [h2]; exact hW⟩) (by simp))
  have hb0 : [str s, str t].any (fun s => badName s.data.toList) = (badName s || badName t) := by simp [str_list]
  rw [hb0] at HC
  have HD := hid h
  have HN := hid hcell
  clear h hn hn2 hb0 HV hcell
  go_enter Tryz.func87, Tryz.ntmps87
  go_wp2_with (first | (go_at_call 62; refine HI.out.mono ?_; rintro e w1 ⟨rfl, hw⟩; obtain rfl := hw.symm) | fail)
  go_at_call 63
  refine HC.out.mono ?_
  rintro e w2 ⟨rfl, hb2⟩
  have HB2 := hid hb2
  have HK := hid (Tryz.slices_Clone_string nb 0 2 c [str s, str t] w2 (by simp) (by simp) fun j hj => by
    have hj : j < 2 := hj
    have hc := HN.out j hj
    rw [Nat.zero_add]
    exact (hb2.cell (World.block_lt_of_cell? w _ hc)).trans hc)
  have e2 := (cells5_of (HD.out.below HB2.out).cells).2.2.1
  clear hb2 HC HI
  cases hbad : (badName s || badName t) with
  | true =>
    have HR : Hid (d.ready2 s t = 1) := hid (by
      unfold Dk.ready2
      rw [if_pos]
      rw [Bool.or_eq_true] at hbad
      exact hbad.imp id .inl)
    clear hbad
    go_wp2_with fail
    go_ret
    rw [HR.out]
    exact ⟨rfl, HB2.out⟩
  | false =>
    have HR : Hid (d.ready2 s t = if s = t then 1 else if d.down = true then 8 else 0) := hid (by
      unfold Dk.ready2
      rw [Bool.or_eq_false_iff] at hbad
      rw [hbad.1, hbad.2]
      simp)
    clear hbad
    go_wp2_with fail
    go_at_call 146
    refine HK.out.mono ?_
    rintro e w3 ⟨v, rfl, hrow, hne, hb3⟩
    have e3 := (cells5_of ((HD.out.below HB2.out).below hb3).cells).2.2.1
    have HB3 := hid (below_step HB2.out hb3)
    have hown : OwnV w3 w2.heap.size 9 v ([s, t].map sv) := hrow
    obtain ⟨g, c3, rfl, -, -⟩ := ownV_some hown (by simp)
    have HQ := hid (compact2 g c3 w2.heap.size s t w3 hown)
    have HSZ : Hid (w.heap.size ≤ w2.heap.size) := hid HB2.out.size
    clear hb3 e2 HK hrow hne hown
    have hlen2 : [s, t].length = 2 := rfl
    have hlen2' : ([s, t].map sv).length = 2 := rfl
    rw [hlen2'] at *
    by_cases heq : s = t
    · have HR2 : Hid (d.ready2 s t = 1) := hid (by rw [HR.out, if_pos heq])
      have hn1 : (if s = t then 1 else 2) = 1 := if_pos heq
      rw [hn1] at HQ
      clear hn1 heq
      go_wp2_with (first | (go_at_call 145; refine HQ.out.mono ?_; rintro e w4 ⟨c4, rfl, hb4⟩; have HB4 := hid (HB3.out.trans (hb4.mono HSZ.out)); clear hb4) | fail)
      go_ret
      rw [HR2.out]
      exact ⟨rfl, HB4.out⟩
    · have hn1 : (if s = t then 1 else 2) = 2 := if_neg heq
      rw [hn1] at HQ
      rw [if_neg heq] at HR
      clear hn1 heq
      cases hdn : d.down with
      | true =>
        have HR2 : Hid (d.ready2 s t = 8) := hid (by rw [HR.out, if_pos hdn])
        have HDN := hid hdn
        rw [hdn] at e3
        clear hdn
        go_wp2_with (first | (go_at_call 145; refine HQ.out.mono ?_; rintro e w4 ⟨c4, rfl, hb4⟩; have HB4 := hid (HB3.out.trans (hb4.mono HSZ.out)); have e4 := (cells5_of (HD.out.below HB4.out).cells).2.2.1; rw [HDN.out] at e4; clear hb4) | fail)
        go_ret
        rw [HR2.out]
        exact ⟨rfl, HB4.out⟩
      | false =>
        have HR2 : Hid (d.ready2 s t = 0) := hid (by rw [HR.out, hdn]; rfl)
        have HDN := hid hdn
        rw [hdn] at e3
        clear hdn
        go_wp2_with (first | (go_at_call 145; refine HQ.out.mono ?_; rintro e w4 ⟨c4, rfl, hb4⟩; have HB4 := hid (HB3.out.trans (hb4.mono HSZ.out)); have e4 := (cells5_of (HD.out.below HB4.out).cells).2.2.1; rw [HDN.out] at e4; clear hb4) | fail)
        go_ret
        rw [HR2.out]
        exact ⟨rfl, HB4.out⟩
theorem cell_two (w : World) (x y : Value) (e : TypeId) : (w.alloc (.cells #[x, y] e)).cell? ⟨w.heap.size, 0, none⟩ = some x ∧ (w.alloc (.cells #[x, y] e)).cell? ⟨w.heap.size, 1, none⟩ = some y := by
  have h : (w.alloc (.cells #[x, y] e)).heap[w.heap.size]? = some (.cells #[x, y] e) := heap_alloc_new w _
  exact cells2_of h
theorem mdel_len {α : Type} (s : Bs) (m : Mp α) : (mdel s m).length ≤ m.length := by unfold mdel; exact List.length_filter_le _ _
set_option maxRecDepth 100000 in
set_option maxHeartbeats 8000000 in
theorem rename_any (dp mb : Nat) (L : Mp FileR) (d : Dk) (s t : Bs) (w : World) (h : DiskM w dp mb L d) (hok : d.Ok) (hs : (str s).size ≤ maxLen) (ht : (str t).size ≤ maxLen) :
    Calls Tryz.prog 33 #[.pointer (some ⟨dp, 0, none⟩), sv s, sv t] w fun e w' => e = .returned (.int .i64 ((d.rename s t).1 : Int)) ∧ ∃ L', DiskM w' dp mb L' (d.rename s t).2 ∧ Chg (fpD dp mb L) w w' ∧ New w (fpD dp mb L) (fpD dp mb L') := by
  have HR := hid (ready2_any dp mb L d w.heap.size 2 s t (w.alloc (.cells #[sv s, sv t] 9)) (h.below (ba w _)) (cell_two w _ _ 9).1 (cell_two w _ _ 9).2)
  have HB0 := hid (ba w (.cells #[sv s, sv t] 9))
  have HD := hid h
  unfold sv at HR HB0 ⊢
  have HOK := hid hok
  have HS := hid hs
  have HTS := hid ht
  obtain ⟨rd, hrd⟩ : ∃ rd, rd = d.ready2 s t := ⟨_, rfl⟩
  rw [← hrd] at HR
  have HRD := hid hrd
  obtain ⟨A, hA⟩ : ∃ A, A = d.rename s t := ⟨_, rfl⟩
  have HA := hid hA
  rw [← hA]
  clear h hok hs ht hrd hA
  go_enter Tryz.func33, Tryz.ntmps33
  go_wp2_with fail
  go_at_call 87
  refine HR.out.mono ?_
  rintro e w1 ⟨rfl, hb1⟩
  have HB1 := hid (below_step HB0.out hb1)
  have HD1 := hid (HD.out.below HB1.out)
  clear hb1 HR HB0
  by_cases hr0 : rd = 0
  · subst hr0
    obtain ⟨e0, e1, e2, e3, e4⟩ := cells5_of HD1.out.cells
    have HM1 : Hid (MapM Tryz.prog 9 w1 mb (mmap FileR.ptr L)) := HD1.out.map
    cases hg : mget s L with
    | none =>
      have HAV : Hid (A = (5, d)) := hid (by
        rw [HA.out]
        unfold Dk.rename
        rw [if_neg (by rw [← HRD.out]; simp), HD.out.get, hg]; rfl)
      have HGM : Hid (mget (str s).data.toList (mmap FileR.ptr L) = none) := hid (by rw [str_list, mget_mmap, hg]; rfl)
      clear hg HRD HA
      go_wp2_with (first | (at_lookup; refine wpl_look_no rfl _ _ 49 rfl 9 118 Tryz.underlying9 Tryz.underlying49 (zero118 w1) mb (mmap FileR.ptr L) rfl HM1.out (str s) rfl HS.out HGM.out ?_) | fail)
      go_ret
      rw [HAV.out]
      exact ⟨rfl, L, HD1.out, chg_below HB1.out, New.refl⟩
    | some r =>
      have HG := hid hg
      have HMR : Hid ((s, r) ∈ L) := hid (mget_mem hg)
      have HGM : Hid (mget (str s).data.toList (mmap FileR.ptr L) = some (.pointer (some ⟨r.g, 0, none⟩))) := hid (by rw [str_list, mget_mmap, hg]; rfl)
      clear hg
      have HAV : Hid (A = Dk.told { d with files := mput t r.f (mdel s d.files) }) := hid (by
        rw [HA.out]
        unfold Dk.rename
        rw [if_neg (by rw [← HRD.out]; simp), HD.out.get, HG.out]; rfl)
      have HLN : Hid ((mdel s (mmap FileR.ptr L)).length < maxLen) := hid (by
        have h1 := mdel_len s (mmap FileR.ptr L)
        have h2 := HOK.out.few
        rw [mmap_length] at h1
        rw [HD.out.len] at h2
        have h3 : (60 : Nat) < maxLen := by decide
        omega)
      clear HA HRD
      go_wp2_with (first
        | (at_lookup; refine wpl_look_yes rfl _ _ 49 rfl 9 118 Tryz.underlying9 Tryz.underlying49 (zero118 w1) mb (mmap FileR.ptr L) rfl HM1.out (str s) rfl HS.out (.pointer (some ⟨r.g, 0, none⟩)) HGM.out ?_)
        | (at_delete; refine wpl_del rfl _ _ 49 9 rfl 118 Tryz.underlying9 Tryz.underlying49 mb (mmap FileR.ptr L) rfl HM1.out (str s) rfl HS.out ?_; rw [str_list]; intro w2 hm2 ht2; have HM2 := hid hm2; have hd2 := HD1.out.del s hm2 fun j _ hj => mapTurned_other ht2 hj; have HD2 := hid hd2; obtain ⟨a0, a1, a2, a3, a4⟩ := cells5_of hd2.cells; have HT2 := hid ht2; clear hm2 ht2 hd2)
        | (at_mapUpdate; refine wpl_put rfl _ _ _ 49 rfl 9 118 Tryz.underlying9 Tryz.underlying49 mb (mdel s (mmap FileR.ptr L)) rfl HM2.out HLN.out (str t) rfl HTS.out _ rfl ?_; rw [str_list]; intro w3 hm3 ht3; have HM3 := hid hm3; have HT3 := hid ht3; have HD3 := hid (HD2.out.put t r (mapTurned_other ht3 HD2.out.dp_mb) (by rw [mmap_mdel]; exact hm3) ((HD1.out.file _ HMR.out).keep ((mapTurned_other ht3 (HD1.out.g_mb HMR.out)).trans (mapTurned_other HT2.out (HD1.out.g_mb HMR.out))) fun k hk => (mapTurned_other ht3 fun e => HD1.out.v_mb HMR.out (e ▸ hk)).trans (mapTurned_other HT2.out fun e => HD1.out.v_mb HMR.out (e ▸ hk))) (fun p hp _ => ⟨mapTurned_other ht3 (HD2.out.g_mb hp), fun k hk => mapTurned_other ht3 fun e => HD2.out.v_mb hp (e ▸ hk)⟩) (fun p hp _ => HD1.out.apart p (mem_mdel.1 hp).1 _ HMR.out (mem_mdel.1 hp).2)); have TL := hid (told_any dp mb _ _ _ HD3.out HOK.out.left); clear hm3 ht3)
        | fail)
      go_at_call 94
      refine TL.out.mono ?_
      rintro e w4 ⟨rfl, hd4, hc4⟩
      have HD4 := hid hd4
      have HC4 := hid hc4
      clear hd4 hc4
      go_wp2_with fail
      go_ret
      rw [HAV.out]
      refine ⟨rfl, _, HD4.out, (((chg_below HB1.out).trans0 (chg_turned HT2.out (.inr (.inl rfl)))).trans0 (chg_turned HT3.out (.inr (.inl rfl)))).trans0 (HC4.out.mono fun k e => .inl e), fun k hk => .inl ?_⟩
      rcases hk with e | e | ⟨p, hp, e⟩
      · exact .inl e
      · exact .inr (.inl e)
      · rcases mem_mput.1 hp with rfl | ⟨hp, -⟩
        · exact .inr (.inr ⟨_, HMR.out, e⟩)
        · exact .inr (.inr ⟨p, (mem_mdel.1 hp).1, e⟩)
  · have hrb : ((rd : Int) == 0) = false := by simp; omega
    have HAV : Hid (A = (rd, d)) := hid (by rw [HA.out]; unfold Dk.rename; rw [← HRD.out, if_pos hr0])
    clear HRD hr0
    go_wp2_with fail
    go_ret
    rw [HAV.out]
    exact ⟨rfl, L, HD1.out, chg_below HB1.out, New.refl⟩
end Go.Proofs.YtpenleogafdbhaaGreatDoor

namespace Go.Proofs.YtpenleogafdbhaaGreatDoor
open Go.RowKit Go.Maps Go.ChangeMaps Go.WideElems Go.WideShapes Go.WideAt Go.WideMaps
theorem acts_step {ls : List (Dk → Nat × Dk)} {i : Nat} {f : Dk → Nat × Dk} {d : Dk} (hf : ls[i]? = some f) (h0 : (acts (ls.take i) d).1 = 0) : acts (ls.take (i + 1)) d = f (acts (ls.take i) d).2 := by
  rw [List.take_add_one, hf]
  show acts (ls.take i ++ [f]) d = _
  rw [acts_app, h0, if_neg (by simp), acts_cons]
  split
  · rfl
  · rename_i h
    have : (f (acts (ls.take i) d).2).1 = 0 := by omega
    show (0, _) = _
    rw [← this]
theorem acts_stop {ls : List (Dk → Nat × Dk)} {i : Nat} {d : Dk} (h0 : (acts (ls.take i) d).1 ≠ 0) : acts ls d = acts (ls.take i) d := by
  conv => lhs; rw [← List.take_append_drop i ls]
  rw [acts_app, if_pos h0]
theorem Acted.step {sp dp mb : Nat} {L : Mp FileR} {d1 d2 : Dk} {w W w' : World} (h : Acted sp dp mb L d1 w W) (hs : ∀ L', DiskM W dp mb L' d1 → Chg (fun k => k = sp ∨ fpD dp mb L k) w W → New w (fpD dp mb L) (fpD dp mb L') → ∃ L'', DiskM w' dp mb L'' d2 ∧ Chg (fpD dp mb L') W w' ∧ New W (fpD dp mb L') (fpD dp mb L'')) : Acted sp dp mb L d2 w w' := by
  obtain ⟨L', h1, h2, h3⟩ := h
  obtain ⟨L'', k1, k2, k3⟩ := hs L' h1 h2 h3
  exact ⟨L'', k1, h2.trans k2 fun k hk => (h3 k hk).imp .inr id, h3.trans k3 h2.size⟩
theorem actsL_any {sp dp mb : Nat} {L : Mp FileR} {d : Dk} {tn : Int} {bk : Bool} {a3 a4 a5 a6 a7 a8 a9 : Value} (v : Value) (fs : List (Nat × Array Value)) (ls : List (Dk → Nat × Dk)) (w : World)
    (hlen : fs.length = ls.length) (hl : fs.length ≤ 1000) (hv : IsV w v (fs.map fnV)) (hvd : ∀ k, v.ownBlock = some k → k ≠ sp ∧ ¬ fpD dp mb L k)
    (heg : ∀ p ∈ fs, ∀ args w, (callFunc p.1 args).run Tryz.prog w = .ok (.enter p.1 args) w)
    (hok : ∀ f ∈ ls, ∀ d : Dk, d.Ok → (f d).2.Ok)
    (hstep : ∀ (i : Nat) p f W L' d', fs[i]? = some p → ls[i]? = some f → DiskM W dp mb L' d' → d'.Ok → Chg (fun k => k = sp ∨ fpD dp mb L k) w W → New w (fpD dp mb L) (fpD dp mb L') → Calls Tryz.prog p.1 p.2 W fun e w' => e = .returned (.int .i64 ((f d').1 : Int)) ∧ ∃ L'', DiskM w' dp mb L'' (f d').2 ∧ Chg (fpD dp mb L') W w' ∧ New W (fpD dp mb L') (fpD dp mb L''))
    (hd : DiskM w dp mb L d) (ok : d.Ok) (hs : w.heap[sp]? = some (.cells (stc dp tn bk a3 a4 a5 a6 a7 a8 a9) 109)) (hspd : ¬ fpD dp mb L sp) :
    Calls Tryz.prog 80 #[.pointer (some ⟨sp, 0, none⟩), v] w fun e w' => e = .returned (.int .i64 ((acts ls d).1 : Int)) ∧ w'.heap[sp]? = some (.cells (stc dp tn (bk || (acts ls d).1 == 8) a3 a4 a5 a6 a7 a8 a9) 109) ∧ Acted sp dp mb L (acts ls d).2 w w' := by
  have hoks : ∀ i, (acts (ls.take i) d).2.Ok := by
    intro i
    have : ∀ (l : List (Dk → Nat × Dk)), (∀ f ∈ l, f ∈ ls) → ∀ d : Dk, d.Ok → (acts l d).2.Ok := by
      intro l
      induction l with
      | nil => intro _ d h; exact h
      | cons f r ih =>
        intro hm d h
        rw [acts_cons]
        split
        · exact hok f (hm f List.mem_cons_self) d h
        · exact ih (fun g hg => hm g (List.mem_cons_of_mem _ hg)) _ (hok f (hm f List.mem_cons_self) d h)
    exact this _ (fun f hf => List.mem_of_mem_take hf) d ok
  refine (acts_any v fs (fun i W => (acts (ls.take i) d).1 = 0 ∧ Acted sp dp mb L (acts (ls.take i) d).2 w W) (fun er W => er = (acts ls d).1 ∧ Acted sp dp mb L (acts ls d).2 w W) w hl ?_ ?_ ?_ ?_ heg ?_ ?_ hs).mono ?_
  · rintro i W W' ⟨h, h3⟩ hsp hc
    exact ⟨h, h3.fail hsp hc⟩
  · rintro i W W' ⟨h1, h2⟩ hsp hc
    exact ⟨h1, h2.fail hsp hc⟩
  · obtain ⟨a, c, rfl, -, -⟩ := hv
    exact ⟨a, c, by rw [List.length_map]⟩
  · rintro i W hi ⟨-, L', -, hc, -⟩
    exact isV_keep hv fun k hk hlt => hc.block k hlt fun e => e.elim (hvd k hk).1 (hvd k hk).2
  · rintro i p W hp ⟨h0, hA⟩ hsp
    obtain ⟨f, hf⟩ : ∃ f, ls[i]? = some f := by
      have hi := (List.getElem?_eq_some_iff.1 hp).1
      exact ⟨_, List.getElem?_eq_getElem (by omega)⟩
    have hst := acts_step hf h0
    have hA' := hA
    obtain ⟨L', h1, h2, h3⟩ := hA
    have hspL : ¬ fpD dp mb L' sp := fun h => (h3 sp h).elim hspd fun hl => absurd (heap_lt hs) (Nat.not_lt.2 hl)
    refine (hstep i p f W L' _ hp hf h1 (hoks i) h2 h3).mono ?_
    rintro e w' ⟨rfl, L'', k1, k2, k3⟩
    have hAA : Acted sp dp mb L (f (acts (ls.take i) d).2).2 w w' := ⟨L'', k1, h2.trans k2 fun k hk => (h3 k hk).imp .inr id, h3.trans k3 h2.size⟩
    refine ⟨_, rfl, (k2.block sp (heap_lt hsp) hspL).trans hsp, fun e0 => ?_, fun e0 => ?_⟩
    · rw [hst]
      exact ⟨e0, hAA⟩
    · have : acts ls d = f (acts (ls.take i) d).2 := by rw [← hst]; exact acts_stop (by rw [hst]; exact e0)
      rw [this]
      exact ⟨rfl, hAA⟩
  · rw [List.take_zero]
    exact ⟨rfl, L, hd, Chg.refl _ _, New.refl⟩
  · rintro e w' ⟨er, rfl, h1, h2, h3⟩
    by_cases he : er = 0
    · obtain ⟨g1, g2⟩ := h2 he
      rw [hlen, List.take_length] at g1 g2
      subst he
      rw [g1]
      exact ⟨rfl, h1, g2⟩
    · obtain ⟨rfl, g2⟩ := h3 he
      exact ⟨rfl, h1, g2⟩
section
variable {dp mb : Nat} {L : Mp FileR} {d : Dk}
def DoneD (dp mb : Nat) (L : Mp FileR) (r : Nat × Dk) (W : World) (e : Ending) (w' : World) : Prop := e = .returned (.int .i64 (r.1 : Int)) ∧ ∃ L'', DiskM w' dp mb L'' r.2 ∧ Chg (fpD dp mb L) W w' ∧ New W (fpD dp mb L) (fpD dp mb L'')
theorem enters166 : ∀ args w, (callFunc 166 args).run Tryz.prog w = .ok (.enter 166 args) w := enters_of Tryz.func166 (by kernel_rfl) rfl
theorem enters167 : ∀ args w, (callFunc 167 args).run Tryz.prog w = .ok (.enter 167 args) w := enters_of Tryz.func167 (by kernel_rfl) rfl
theorem enters168 : ∀ args w, (callFunc 168 args).run Tryz.prog w = .ok (.enter 168 args) w := enters_of Tryz.func168 (by kernel_rfl) rfl
theorem enters169 : ∀ args w, (callFunc 169 args).run Tryz.prog w = .ok (.enter 169 args) w := enters_of Tryz.func169 (by kernel_rfl) rfl
theorem enters170 : ∀ args w, (callFunc 170 args).run Tryz.prog w = .ok (.enter 170 args) w := enters_of Tryz.func170 (by kernel_rfl) rfl
theorem enters171 : ∀ args w, (callFunc 171 args).run Tryz.prog w = .ok (.enter 171 args) w := enters_of Tryz.func171 (by kernel_rfl) rfl
theorem enters173 : ∀ args w, (callFunc 173 args).run Tryz.prog w = .ok (.enter 173 args) w := enters_of Tryz.func173 (by kernel_rfl) rfl
theorem enters38 : ∀ args w, (callFunc 38 args).run Tryz.prog w = .ok (.enter 38 args) w := enters_of Tryz.func38 (by kernel_rfl) rfl
theorem str_le {s : Bs} (h : s.length ≤ 1000) : (str s).size ≤ maxLen := by
  rw [str_size]
  exact Nat.le_trans h (by decide)
set_option maxRecDepth 100000 in
set_option maxHeartbeats 2000000 in
theorem act166 (b9 b12 b13 : Nat) (nm : Bs) (ad : Addr) (m c : Nat) (bs : Bs) (w : World) (h9 : w.heap[b9]? = some (.cells #[.pointer (some ⟨dp, 0, none⟩)] 31)) (h12 : w.heap[b12]? = some (.cells #[sv nm] 9)) (h13 : w.heap[b13]? = some (.cells #[.slice (some ad) m c] 59))
    (h : DiskM w dp mb L d) (hok : d.Ok) (hm : m = bs.length) (hb : BytesAt w ad bs) (hbl : bs.length ≤ 1000000) (hn : nm.length ≤ 1000) :
    Calls Tryz.prog 166 #[.pointer (some ⟨b9, 0, none⟩), .pointer (some ⟨b12, 0, none⟩), .pointer (some ⟨b13, 0, none⟩)] w (DoneD dp mb L (d.append nm bs) w) := by
  have HC := append_any dp mb L d (str nm) ad m c bs w h hok hm hb hbl (str_le hn)
  rw [str_list] at HC
  replace HC := hid HC
  have c9 := box1 h9
  have c12 := box1 h12
  have c13 := box1 h13
  unfold sv at c12
  clear h hok hm hb h9 h12 h13
  unfold DoneD
  obtain ⟨A, hA⟩ : ∃ A, A = d.append nm bs := ⟨_, rfl⟩
  rw [← hA] at HC ⊢
  clear hA
  go_enter Tryz.func166, Tryz.ntmps166
  go_wp2_with (first | (go_at_call 38; refine HC.out.mono ?_; rintro e w1 ⟨rfl, hr⟩; have HR := hid hr; clear hr) | fail)
  go_ret
  exact ⟨rfl, HR.out⟩
set_option maxRecDepth 100000 in
set_option maxHeartbeats 2000000 in
theorem act167 (b9 b12 : Nat) (nm : Bs) (w : World) (h9 : w.heap[b9]? = some (.cells #[.pointer (some ⟨dp, 0, none⟩)] 31)) (h12 : w.heap[b12]? = some (.cells #[sv nm] 9))
    (h : DiskM w dp mb L d) (hok : d.Ok) (hn : nm.length ≤ 1000) :
    Calls Tryz.prog 167 #[.pointer (some ⟨b9, 0, none⟩), .pointer (some ⟨b12, 0, none⟩)] w (DoneD dp mb L (d.sync nm) w) := by
  have HC := dsync_any dp mb L d (str nm) w h hok (str_le hn)
  rw [str_list] at HC
  replace HC := hid HC
  have c9 := box1 h9
  have c12 := box1 h12
  unfold sv at c12
  clear h hok h9 h12
  unfold DoneD
  obtain ⟨A, hA⟩ : ∃ A, A = d.sync nm := ⟨_, rfl⟩
  rw [← hA] at HC ⊢
  clear hA
  go_enter Tryz.func167, Tryz.ntmps167
  go_wp2_with (first | (go_at_call 29; refine HC.out.mono ?_; rintro e w1 ⟨rfl, hr⟩; have HR := hid hr; clear hr) | fail)
  go_ret
  exact ⟨rfl, HR.out⟩
set_option maxRecDepth 100000 in
set_option maxHeartbeats 2000000 in
theorem act170 (b9 : Nat) (w : World) (h9 : w.heap[b9]? = some (.cells #[.pointer (some ⟨dp, 0, none⟩)] 31))
    (h : DiskM w dp mb L d) (hok : d.Ok) :
    Calls Tryz.prog 170 #[.pointer (some ⟨b9, 0, none⟩)] w (DoneD dp mb L (d.sync nFresh) w) := by
  have HC := dsync_any dp mb L d (str nFresh) w h hok (str_le (by decide))
  rw [str_list] at HC
  replace HC := hid HC
  have c9 := box1 h9
  clear h hok h9
  unfold DoneD
  obtain ⟨A, hA⟩ : ∃ A, A = d.sync nFresh := ⟨_, rfl⟩
  rw [← hA] at HC ⊢
  clear hA
  have hs : (str nFresh) = ⟨#[104, 101, 97, 100, 46, 110, 101, 119]⟩ := rfl
  rw [hs] at HC
  clear hs
  go_enter Tryz.func170, Tryz.ntmps170
  go_wp2_with (first | (go_at_call 29; refine HC.out.mono ?_; rintro e w1 ⟨rfl, hr⟩; have HR := hid hr; clear hr) | fail)
  go_ret
  exact ⟨rfl, HR.out⟩
set_option maxRecDepth 100000 in
set_option maxHeartbeats 2000000 in
theorem act171 (b9 : Nat) (w : World) (h9 : w.heap[b9]? = some (.cells #[.pointer (some ⟨dp, 0, none⟩)] 31))
    (h : DiskM w dp mb L d) (hok : d.Ok) :
    Calls Tryz.prog 171 #[.pointer (some ⟨b9, 0, none⟩)] w (DoneD dp mb L (d.rename nFresh nHead) w) := by
  have HC := hid (rename_any dp mb L d nFresh nHead w h hok (str_le (by decide)) (str_le (by decide)))
  have c9 := box1 h9
  clear h hok h9
  unfold DoneD
  obtain ⟨A, hA⟩ : ∃ A, A = d.rename nFresh nHead := ⟨_, rfl⟩
  rw [← hA] at HC ⊢
  clear hA
  have hs : sv nFresh = .string ⟨#[104, 101, 97, 100, 46, 110, 101, 119]⟩ := rfl
  have ht : sv nHead = .string ⟨#[104, 101, 97, 100]⟩ := rfl
  rw [hs, ht] at HC
  clear hs ht
  go_enter Tryz.func171, Tryz.ntmps171
  go_wp2_with (first | (go_at_call 33; refine HC.out.mono ?_; rintro e w1 ⟨rfl, hr⟩; have HR := hid hr; clear hr) | fail)
  go_ret
  exact ⟨rfl, HR.out⟩
set_option maxRecDepth 100000 in
set_option maxHeartbeats 2000000 in
theorem act173 (b9 b12 : Nat) (nm : Bs) (w : World) (h9 : w.heap[b9]? = some (.cells #[.pointer (some ⟨dp, 0, none⟩)] 31)) (h12 : w.heap[b12]? = some (.cells #[sv nm] 9))
    (h : DiskM w dp mb L d) (hok : d.Ok) (hn : nm.length ≤ 1000) :
    Calls Tryz.prog 173 #[.pointer (some ⟨b9, 0, none⟩), .pointer (some ⟨b12, 0, none⟩)] w (DoneD dp mb L (d.remove nm) w) := by
  have HC := remove_any dp mb L d (str nm) w h hok (str_le hn)
  rw [str_list] at HC
  replace HC := hid HC
  have c9 := box1 h9
  have c12 := box1 h12
  unfold sv at c12
  clear h hok h9 h12
  unfold DoneD
  obtain ⟨A, hA⟩ : ∃ A, A = d.remove nm := ⟨_, rfl⟩
  rw [← hA] at HC ⊢
  clear hA
  go_enter Tryz.func173, Tryz.ntmps173
  go_wp2_with (first | (go_at_call 31; refine HC.out.mono ?_; rintro e w1 ⟨rfl, hr⟩; have HR := hid hr; clear hr) | fail)
  go_ret
  exact ⟨rfl, HR.out⟩
end
end Go.Proofs.YtpenleogafdbhaaGreatDoor

namespace Go.Proofs.YtpenleogafdbhaaGreatDoor
open Go.RowKit Go.Maps Go.ChangeMaps Go.WideElems Go.WideShapes Go.WideAt Go.WideMaps
section
variable {md : Region.Mode} {ops : Array Oper} {Q : Exit → Act → World → Prop} {S : World → Prop} {fuel : Nat} {listed : Array Bool} {a : Act} {w : World} {i : Nat} {o : Oper} {rs : List Nat}
theorem node_c3 (f t1 t2 t3 d k1 k3 : Nat) (c v1 v3 : Value) (eg : ∀ args w, (callFunc f args).run Tryz.prog w = .ok (.enter f args) w) (hi : ops[i]? = some o) (hgd : Region.wanted o (yielded ops a.tmps) = true) (ho : o.op = .call { callee := .value (.func f), args := #[.tmp k1, .const c, .tmp k3], argTypes := #[t1, t2, t3] }) (hd : o.dst = some d)
    (hp1 : a.tmps[k1]?.getD undef = v1) (hp3 : a.tmps[k3]?.getD undef = v3)
    (h : Calls Tryz.prog f #[v1, c, v3] w fun e w' => ∃ u, e = .returned u ∧ S w' ∧ wpAnyH Tryz.prog md ops Q S fuel (listed.setIfInBounds i true) (a.put (some d) u) w')
    (hs : AllReadyH Tryz.prog md ops Q S fuel listed a w rs) : AllReadyH Tryz.prog md ops Q S fuel listed a w (i :: rs) := by
  refine AllReadyH.cons hi (fun K hK => ?_) hs
  rw [if_pos hgd]
  unfold Oper.wp execOp
  simp [ho, go_sem, hp1, hp3, eg]
  refine h.mono ?_
  rintro e w' ⟨u, rfl, h1, h2⟩
  have hk := hK.out _ _ h1 (fun _ => h2)
  rw [hd]
  exact hk
end
section
variable {dp mb : Nat} {L : Mp FileR} {d : Dk}
set_option maxRecDepth 100000 in
set_option maxHeartbeats 2000000 in
theorem act168 (b9 bh : Nat) (h : Hd) (rv : Value) (w : World) (h9 : w.heap[b9]? = some (.cells #[.pointer (some ⟨dp, 0, none⟩)] 31)) (h10 : w.heap[bh]? = some (.cells #[.int .i64 (h.log : Int), rv, .int .i64 (h.next : Int)] 103))
    (hd : DiskM w dp mb L d) (hok : d.Ok) (hv : IsV w rv (h.runs.map iv)) (h1 : h.log < 100000000) (h2 : h.next < 100000000) (h3 : ∀ r ∈ h.runs, r < 100000000) (hl : h.runs.length ≤ 1000) (hG : Glb w) (hb9 : ¬ fpD dp mb L b9) (hbh : ¬ fpD dp mb L bh) :
    Calls Tryz.prog 168 #[.pointer (some ⟨b9, 0, none⟩), .pointer (some ⟨bh, 0, none⟩)] w (DoneD dp mb L (d.append nFresh h.bytes) w) := by
  have HD := hid hd
  have HOK := hid hok
  have HHB := hid (headBytes_any h rv w.drew (isV_keep hv fun _ _ _ => rfl) h1 h2 h3 hl (hG.keep rfl rfl))
  have HLEN : Hid (h.bytes.length ≤ 1000000) := hid (by
    have := text_len h h1 h2 h3
    unfold Hd.bytes
    rw [blk_len]
    omega)
  have HN := hid (And.intro hb9 hbh)
  have HS : Hid (w.heap[b9]? = some (.cells #[.pointer (some ⟨dp, 0, none⟩)] 31) ∧ w.heap[bh]? = some (.cells #[.int .i64 (h.log : Int), rv, .int .i64 (h.next : Int)] 103)) := hid ⟨h9, h10⟩
  clear hd hok hv h1 h2 h3 hl hG h9 h10 hb9 hbh
  unfold DoneD
  obtain ⟨A, hA⟩ : ∃ A, A = d.append nFresh h.bytes := ⟨_, rfl⟩
  rw [← hA]
  have HA := hid hA
  clear hA
  obtain ⟨lv, hlv⟩ : ∃ lv, lv = Value.int .i64 (h.log : Int) := ⟨_, rfl⟩
  obtain ⟨nv, hnv⟩ : ∃ nv, nv = Value.int .i64 (h.next : Int) := ⟨_, rfl⟩
  rw [← hlv, ← hnv] at HS HHB
  clear hlv hnv
  go_enter Tryz.func168, Tryz.ntmps168
  go_upto_region 1 with fail
  refine wp_region_held_drew (S := fun w' => w'.heap[b9]? = some (.cells #[.pointer (some ⟨dp, 0, none⟩)] 31) ∧ w'.heap[bh]? = some (.cells #[lv, rv, nv] 103)) (by kernel_rfl) HS.out (fun hHeld => ?_)
  have HDu0 : Hid (DiskM w.drew dp mb L d) := hid (HD.out.keep fun _ _ => rfl)
  have HCu0 : Hid (Chg (fpD dp mb L) w w.drew) := hid (chg_drew w)
  generalize w.drew = u0 at *
  refine take_at (i := 0) 3 (v := .pointer (some ⟨dp, 0, none⟩)) rfl (by kernel_rfl) (by kernel_rfl) (by kernel_rfl) rfl (fun _ _ _ h => h) (by rfl) (fun w hSw => ?_) hHeld ?_
  · (try dsimp only at hSw); have q0 := box1 hSw.1; go_simp
  simp only [Act.put, List.setIfInBounds_toArray, List.set_cons_zero, List.set_cons_succ]
  refine take_at (i := 1) 4 (v := .agg #[lv, rv, nv]) rfl (by kernel_rfl) (by kernel_rfl) (by kernel_rfl) rfl (fun _ _ _ h => h) (by rfl) (fun w hSw => ?_) hHeld ?_
  · (try dsimp only at hSw); obtain ⟨q0, q1, q2⟩ := cells3_of hSw.2; go_simp
  simp only [Act.put, List.setIfInBounds_toArray, List.set_cons_zero, List.set_cons_succ]
  refine wpAnyH_ready (rs := [2]) (by kernel_rfl) (by simp) ?_
  refine node_c1 169 103 5 4 (.agg #[lv, rv, nv]) enters169 rfl (by rfl) rfl rfl rfl (HHB.out.mono ?_) AllReadyH.nil
  rintro e u1 ⟨v', rfl, hown, hb⟩
  have HDu1 := hid (HDu0.out.below hb)
  have HCu1 := hid (HCu0.out.trans0 (chg_below hb))
  have hH2 : u1.heap[b9]? = some (.cells #[.pointer (some ⟨dp, 0, none⟩)] 31) ∧ u1.heap[bh]? = some (.cells #[lv, rv, nv] 103) := ⟨(hb.block b9 (heap_lt hHeld.1)).trans hHeld.1, (hb.block bh (heap_lt hHeld.2)).trans hHeld.2⟩
  clear hHeld hb
  have hHeld := hH2
  clear hH2
  refine ⟨_, rfl, hHeld, ?_⟩
  simp only [Act.put, List.setIfInBounds_toArray, List.set_cons_zero, List.set_cons_succ]
  have hne : 0 < (h.bytes.map bv).length := by
    unfold Hd.bytes
    rw [List.length_map, blk_len]
    omega
  obtain ⟨g, c, rfl, -, -⟩ := ownV_some hown hne
  have HBA := hid (own_bytesAt hown)
  rw [List.length_map] at *
  clear hown hne
  have HAP := append_any dp mb L d (str nFresh) ⟨g, 0, none⟩ h.bytes.length c h.bytes u1 HDu1.out HOK.out rfl HBA.out HLEN.out (str_le (by decide))
  rw [str_list, ← HA.out] at HAP
  have hs : (str nFresh) = ⟨#[104, 101, 97, 100, 46, 110, 101, 119]⟩ := rfl
  rw [hs] at HAP
  clear hs
  refine wpAnyH_ready (rs := [3]) (by kernel_rfl) (by simp) ?_
  refine node_c3 38 31 9 59 6 3 5 _ (.pointer (some ⟨dp, 0, none⟩)) (.slice (some ⟨g, 0, none⟩) h.bytes.length c) enters38 rfl (by rfl) rfl rfl rfl rfl (HAP.mono ?_) AllReadyH.nil
  rintro e u2 ⟨rfl, L2, hd2, hc2, hn2⟩
  have HC2 := hid (HCu1.out.trans0 hc2)
  have HR2 := hid (show ∃ L'', DiskM u2 dp mb L'' A.2 ∧ Chg (fpD dp mb L) w u2 ∧ New w (fpD dp mb L) (fpD dp mb L'') from ⟨L2, hd2, HC2.out, fun k hk => (hn2 k hk).imp id fun h => Nat.le_trans HCu1.out.size h⟩)
  have hH2 : u2.heap[b9]? = some (.cells #[.pointer (some ⟨dp, 0, none⟩)] 31) ∧ u2.heap[bh]? = some (.cells #[lv, rv, nv] 103) := ⟨(hc2.block b9 (heap_lt hHeld.1) HN.out.1).trans hHeld.1, (hc2.block bh (heap_lt hHeld.2) HN.out.2).trans hHeld.2⟩
  clear hHeld hd2 hc2 hn2
  have hHeld := hH2
  clear hH2
  refine ⟨_, rfl, hHeld, ?_⟩
  simp only [Act.put, List.setIfInBounds_toArray, List.set_cons_zero, List.set_cons_succ]
  refine take_at (i := 4) 2 (v := .int .i64 (A.1 : Int)) rfl (by kernel_rfl) (by kernel_rfl) (by kernel_rfl) rfl (fun _ _ _ h => h) (by rfl) (fun w hSw => ?_) hHeld ?_
  · (try dsimp only at hSw); go_simp
  simp only [Act.put, List.setIfInBounds_toArray, List.set_cons_zero, List.set_cons_succ]
  refine wpAnyH_done (by kernel_rfl) ?_ _
  go_wp2_with fail
  go_ret
  exact ⟨rfl, HR2.out⟩
end
end Go.Proofs.YtpenleogafdbhaaGreatDoor
