/-
  The periods of a rhythm (20, 21, 6), its least one (22).
-/
import Derived.Test.YtlhmidecjiihcaaDoorRhyP
import Derived.Test.YtlhmidecjiihcaaDoorWalkZ
namespace Go.Proofs.YtlhmidecjiihcaaDoor
open Go.RowKit
theorem info3 : (Tryd.prog.info? 3).map (fun i => (i.zero, i.size, i.bytes)) = some (some (.int .i64 0), 1, 8) := by kernel_rfl
theorem wpl_app_int {ops : Array Oper} {rest : List Oper} {o : Oper} {a : Act} {Q : Exit → Act → World → Prop} {W : World} (z : Int) (s y : Operand) (v : Value) (B : Nat) (xs : List Value)
    (hgd : o.guard = none) (ho : o.op = .call { callee := .builtin .append, args := #[s, y], argTypes := #[30, 30] })
    (hs : a.eval s = v) (hx : a.eval y = .slice (some ⟨W.heap.size, 0, none⟩) 1 1)
    (hown : OwnV W B 3 v xs) (hlen : xs.length < 1000000) (hB : B ≤ W.heap.size)
    (h : ∀ v' w', OwnV w' B 3 v' (xs ++ [.int .i64 z]) → Below B W w' → W.grownBy w' v.ownBlock → wpList Tryd.prog ops Q rest (a.put o.dst v') w') :
    wpList Tryd.prog ops Q (o :: rest) a (W.alloc (.cells #[.int .i64 z] 3)) :=
  wpl_app_v 30 3 (.int .i64 0) 8 info3 rfl Tryd.underlying30 (by decide) (.int .i64 z) rfl s y v B xs hgd ho hs hx hown hlen hB h
theorem data_size (s : ByteArray) : s.data.toList.length = s.size := rfl
/-- the periods from 1 to k -/
def pers (l : Str) (k : Nat) : List Nat := ((List.range k).filter fun i => period l (i + 1)).map (· + 1)
theorem pers_yes (l : Str) (k : Nat) (h : period l (k + 1) = true) : pers l (k + 1) = pers l k ++ [k + 1] := by simp [pers, List.range_succ, h]
theorem pers_no (l : Str) (k : Nat) (h : period l (k + 1) = false) : pers l (k + 1) = pers l k := by simp [pers, List.range_succ, h]
theorem pers_len (l : Str) (k : Nat) : (pers l k).length ≤ k := by
  simp only [pers, List.length_map]
  exact Nat.le_trans (List.length_filter_le _ _) (by simp)
theorem pers_mem {l : Str} {k p : Nat} (h1 : 1 ≤ p) (hk : p ≤ k) (h : period l p = true) : p ∈ pers l k := by
  unfold pers
  rw [List.mem_map]
  exact ⟨p - 1, List.mem_filter.2 ⟨List.mem_range.2 (by omega), by rw [show p - 1 + 1 = p by omega]; exact h⟩, by omega⟩
theorem pers_small {l : Str} {k p : Nat} (h : p ∈ pers l k) : p ≤ k := by
  unfold pers at h
  rw [List.mem_map] at h
  obtain ⟨i, hi, rfl⟩ := h
  have := List.mem_range.1 (List.mem_filter.1 hi).1
  omega
theorem ret_bool {a b : Bool} (h : a = b) : Ending.returned (.bool a) = .returned (.bool b) := by rw [h]
theorem period_eq (s : ByteArray) (p : Nat) : ((s.extract p s.size).toList == (s.extract 0 (s.size - p)).toList) = period s.data.toList p := by
  rw [Lib.extract_toList, Lib.extract_toList]
  unfold period
  congr 1
  rw [List.take_of_length_le]; simp
theorem toList_data (s : ByteArray) : s.toList = s.data.toList := by
  obtain ⟨⟨l⟩⟩ := s
  simp
set_option maxHeartbeats 400000 in
theorem periodic_any (s : ByteArray) (p : Nat) (w : World) (hp : p ≤ s.size) (hs : s.size ≤ 1000) :
    Calls Tryd.prog 21 #[.string s, .int .i64 p] w fun e w' => e = .returned (.bool (period s.data.toList p)) ∧ ∃ n, w' = w.drewN n := by
  rw [← period_eq]
  go_enter Tryd.func21, Tryd.ntmps21
  go_wp2
  go_quiet (fail)
  go_wp2
  go_ret
  exact ⟨rfl, _, rfl⟩
theorem periodic_at (s : ByteArray) (q : Int) (p : Nat) (w : World) (hq : q = p) (hp : p ≤ s.size) (hs : s.size ≤ 1000) :
    Calls Tryd.prog 21 #[.string s, .int .i64 q] w fun e w' => e = .returned (.bool (period s.data.toList p)) ∧ ∃ n, w' = w.drewN n := by
  subst hq; exact periodic_any s p w hp hs
theorem dropWhile_nil_iff {p : UInt8 → Bool} : ∀ l : List UInt8, l.dropWhile p = [] ↔ l.all p = true
  | [] => by simp
  | a :: l => by
    rw [List.dropWhile_cons]
    by_cases h : p a = true
    · simp [h, dropWhile_nil_iff l]
    · simp [h]
theorem trimS_nil (l cs : List UInt8) : Lib.trimS l cs = [] ↔ l.all (cs.contains ·) = true := by
  unfold Lib.trimS Lib.trimLeftS Lib.trimRightS
  rw [dropWhile_nil_iff, List.all_reverse]
  generalize (fun x => cs.contains x) = p
  constructor
  · intro h
    have h2 := List.takeWhile_append_dropWhile (p := p) (l := l.reverse)
    have h3 : l.reverse.all p = true := by
      rw [← h2, List.all_append, h]
      simp
    simpa using h3
  · intro h
    have : l.reverse.all p = true := by simpa using h
    rw [List.all_eq_true] at this ⊢
    intro x hx
    exact this x ((List.dropWhile_sublist _).subset hx)
theorem ascii_of_all {cs : List UInt8} (h : cs.all (fun b => decide (b.toNat < 128)) = true) : ∀ (j : Nat) (b : UInt8), cs[j]? = some b → b.toNat < 128 := fun j b hj => by
  have := List.all_eq_true.1 h b (List.mem_of_getElem? hj)
  simpa using this
theorem check_any (s : ByteArray) (w : World) (h0 : 1 ≤ s.size) (hs : s.size ≤ 200) (ha : s.data.toList.all ([97, 98, 99, 100].contains ·) = true) :
    Calls Tryd.prog 20 #[.string s] w fun e w' => e = .returned (.int .i64 0) ∧ Below w.heap.size w w' := by
  have h1 : ¬ 200 < s.size := by omega
  have h2 : s.toList ≠ [] := by
    rw [toList_data]
    intro h
    have : s.data.toList.length = s.size := rfl
    rw [h] at this; simp at this; omega
  have h2'' : (s.toList.isEmpty) = false := by simp [h2]
  have ht := Tryd.strings_Trim_set s ⟨#[97, 98, 99, 100]⟩ w (by omega) (by decide) (ascii_of_all (by decide))
  have e : Lib.trimS s.data.toList (⟨#[97, 98, 99, 100]⟩ : ByteArray).data.toList = [] := (trimS_nil _ _).2 ha
  rw [e] at ht
  clear h2 e ha
  have HT := hid ht
  clear ht
  go_enter Tryd.func20, Tryd.ntmps20
  go_wp2_with (first | (go_at_call 38; refine HT.out.mono ?_; rintro e w' ⟨rfl, hb⟩; have HB := hid hb; clear hb) | fail)
  go_ret
  exact ⟨rfl, HB.out⟩
set_option maxHeartbeats 400000 in
theorem periods_any (s : ByteArray) (w : World) (h0 : 1 ≤ s.size) (hs : s.size ≤ 200) (ha : s.data.toList.all ([97, 98, 99, 100].contains ·) = true) :
    Calls Tryd.prog 6 #[.string s] w fun e w' => ∃ v, e = .returned (.tuple #[v, .int .i64 0]) ∧ OwnV w' w.heap.size 3 v ((pers s.data.toList s.size).map iv) ∧ Below w.heap.size w w' := by
  have CK := hid (check_any s w h0 hs ha)
  have PC : Hid (∀ w' (q : Int) (p : Nat), q = p → p ≤ s.size → Calls Tryd.prog 21 #[.string s, .int .i64 q] w' fun e w'' => e = .returned (.bool (period s.data.toList p)) ∧ ∃ n, w'' = w'.drewN n) := fun w' q p hq hp => periodic_at s q p w' hq hp (by omega)
  clear ha
  go_enter Tryd.func6, Tryd.ntmps6
  go_wp2_with (first | (go_at_call 20; refine CK.out.mono ?_; rintro e w1 ⟨rfl, hb1⟩; have HB1 := hid hb1; clear hb1) | fail)
  go_loopw [5, 6] (fun v i wr => ∃ k : Nat, k ≤ s.size ∧ i = .int .i64 ((k : Int) + 1) ∧ Hid (OwnV wr w.heap.size 3 v ((pers s.data.toList k).map iv)) ∧ Hid (Below w.heap.size w wr)) (fun _ i _ => s.size + 1 - (intOf i).toNat)
  case atStart => exact ⟨0, Nat.zero_le _, rfl, ownV_nil _ _ _, HB1⟩
  case round =>
    obtain ⟨k, hk, rfl, HO, HBr⟩ := hrel
    rename World => wr
    by_cases hlt : k < s.size
    · have PP := hid (PC.out wr ((k : Int) + 1) (k + 1) (by omega) (by omega))
      obtain ⟨va, vn, vc, rfl⟩ := ownV_sh HO.out
      have hpl := pers_len s.data.toList k
      have HPL : Hid (((pers s.data.toList k).map iv).length < 1000000) := by show _ < _; rw [List.length_map]; omega
      clear hpl
      cases hp : period s.data.toList (k + 1)
      · have HP := hid hp
        rw [hp] at PP
        clear hp
        go_wp2_with (first | (go_at_call 21; refine PP.out.mono ?_; rintro e w2 ⟨rfl, n, hw2⟩; have HB2 : Hid (Below w.heap.size w w2) := (by rw [hw2]; exact below_drewN_r HBr.out _); have HO2 : Hid (OwnV w2 w.heap.size 3 (.slice va vn vc) ((pers s.data.toList k).map iv)) := (by rw [hw2]; exact ownV_below HO.out (below_drewN_r (Below.refl _ _) _)); clear hw2) | fail)
        go_roundw
        case rel => exact ⟨k + 1, by omega, by go_num, by rw [pers_no _ _ HP.out]; exact HO2, HB2⟩
        case measure => simp [intOf]; omega
      · have HP := hid hp
        rw [hp] at PP
        clear hp
        go_wp2_with (first
          | (go_at_call 21; refine PP.out.mono ?_; rintro e w2 ⟨rfl, n, hw2⟩; have HB2 : Hid (Below w.heap.size w w2) := (by rw [hw2]; exact below_drewN_r HBr.out _); have HO2 : Hid (OwnV w2 w.heap.size 3 (.slice va vn vc) ((pers s.data.toList k).map iv)) := (by rw [hw2]; exact ownV_below HO.out (below_drewN_r (Below.refl _ _) _)); clear hw2)
          | (at_builtin; refine wpl_app_int ((k : Int) + 1) _ _ (.slice va vn vc) w.heap.size _ (by rfl) (by rfl) (by rfl) (by rfl) HO2.out HPL.out HB2.out.size ?_; intro v' w7 ho7 hb7 hg7; have HO7 := hid ho7; have HB7 := hid (HB2.out.trans hb7); obtain ⟨sa, sn, sc, rfl⟩ := ownV_sh ho7; clear ho7 hb7 hg7)
          | fail)
        go_roundw
        case rel => exact ⟨k + 1, by omega, by go_num, by rw [pers_yes _ _ HP.out, List.map_append]; exact HO7, HB7⟩
        case measure => simp [intOf]; omega
    · obtain ⟨va, vn, vc, rfl⟩ := ownV_sh HO.out
      have hke : k = s.size := by omega
      have HKE := hid hke
      clear hke
      go_wp2_with fail
      go_ret2
      exact ⟨_, rfl, by have h := HO.out; rw [HKE.out] at h; exact h, HBr.out⟩
set_option maxHeartbeats 400000 in
theorem least_any (s : ByteArray) (w : World) (hs : s.size ≤ 1000) (h0 : 1 ≤ s.size) :
    Calls Tryd.prog 22 #[.string s] w fun e w' => e = .returned (.int .i64 (least s.data.toList)) ∧ ∃ n, w' = w.drewN n := by
  have hl := least_spec s.data.toList h0
  generalize hL : least s.data.toList = L at *
  have h1 := hl.1
  have h2 : L ≤ s.size := hl.2.1
  have H3 := hid hl.2.2.1
  have H4 := hid hl.2.2.2
  clear hl hL
  go_enter Tryd.func22, Tryd.ntmps22
  go_wp2_with fail
  go_loopw [3] (fun i wr => ∃ k : Nat, 1 ≤ k ∧ k ≤ L ∧ i = .int .i64 k ∧ ∃ n, wr = w.drewN n) (fun i _ => s.size + 1 - (intOf i).toNat)
  case atStart => exact ⟨1, Nat.le_refl _, h1, rfl, 0, rfl⟩
  case round =>
    obtain ⟨k, hk1, hk, rfl, n, rfl⟩ := hrel
    go_wp2_with fail
    refine (periodic_at s _ k _ (by omega) (by omega) hs).mono ?_
    rintro e w2 ⟨rfl, m, rfl⟩
    by_cases hlt : k < L
    · rw [H4.out k hk1 hlt]
      go_wp2_with fail
      go_roundw
      case rel => exact ⟨k + 1, by omega, by omega, by go_num, _, rfl⟩
      case measure => simp [intOf]; omega
    · obtain rfl : k = L := by omega
      rw [H3.out]
      go_wp2_with fail
      go_ret
      exact ⟨rfl, _, rfl⟩
end Go.Proofs.YtlhmidecjiihcaaDoor
