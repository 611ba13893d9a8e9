/-
  The periods of the rhythm (9, 22, 23).
-/
import Derived.Test.YtppkgilpmmhpoaaDoorWalkR
namespace Go.Proofs.YtppkgilpmmhpoaaDoor
open Go.RowKit
abbrev Str := List UInt8
def period (l : Str) (p : Nat) : Bool := l.drop p == l.take (l.length - p)
/-- the periods from 1 to k -/
def pers (l : Str) (k : Nat) : List Nat := ((List.range k).filter fun i => period l (i + 1)).map (· + 1)
theorem pers_yes (l : Str) (k : Nat) (h : period l (k + 1) = true) : pers l (k + 1) = pers l k ++ [k + 1] := by simp [pers, List.range_succ, h]
theorem pers_no (l : Str) (k : Nat) (h : period l (k + 1) = false) : pers l (k + 1) = pers l k := by simp [pers, List.range_succ, h]
theorem pers_len (l : Str) (k : Nat) : (pers l k).length ≤ k := by
  simp only [pers, List.length_map]
  exact Nat.le_trans (List.length_filter_le _ _) (by simp)
theorem pers_mem {l : Str} {k p : Nat} (h1 : 1 ≤ p) (hk : p ≤ k) (h : period l p = true) : p ∈ pers l k := by
  unfold pers
  rw [List.mem_map]
  exact ⟨p - 1, List.mem_filter.2 ⟨List.mem_range.2 (by omega), by rw [show p - 1 + 1 = p by omega]; exact h⟩, by omega⟩
theorem pers_small {l : Str} {k p : Nat} (h : p ∈ pers l k) : p ≤ k := by
  unfold pers at h
  rw [List.mem_map] at h
  obtain ⟨i, hi, rfl⟩ := h
  have := List.mem_range.1 (List.mem_filter.1 hi).1
  omega
theorem ret_bool {a b : Bool} (h : a = b) : Ending.returned (.bool a) = .returned (.bool b) := by rw [h]
theorem period_eq (s : ByteArray) (p : Nat) : ((s.extract p s.size).toList == (s.extract 0 (s.size - p)).toList) = period s.data.toList p := by
  rw [Lib.extract_toList, Lib.extract_toList]
  unfold period
  congr 1
  rw [List.take_of_length_le]; simp
theorem toList_data (s : ByteArray) : s.toList = s.data.toList := by
  obtain ⟨⟨l⟩⟩ := s
  simp
set_option maxHeartbeats 400000 in
theorem periodic_any (s : ByteArray) (p : Nat) (w : World) (hp : p ≤ s.size) (hs : s.size ≤ 1000) :
    Calls Tryd.prog 23 #[.string s, .int .i64 p] w fun e w' => e = .returned (.bool (period s.data.toList p)) ∧ ∃ n, w' = w.drewN n := by
  rw [← period_eq]
  go_enter Tryd.func23, Tryd.ntmps23
  go_wp2
  go_quiet (fail)
  go_wp2
  go_ret
  exact ⟨rfl, _, rfl⟩
theorem periodic_at (s : ByteArray) (q : Int) (p : Nat) (w : World) (hq : q = p) (hp : p ≤ s.size) (hs : s.size ≤ 1000) :
    Calls Tryd.prog 23 #[.string s, .int .i64 q] w fun e w' => e = .returned (.bool (period s.data.toList p)) ∧ ∃ n, w' = w.drewN n := by
  subst hq; exact periodic_any s p w hp hs
theorem dropWhile_nil_iff {p : UInt8 → Bool} : ∀ l : List UInt8, l.dropWhile p = [] ↔ l.all p = true
  | [] => by simp
  | a :: l => by
    rw [List.dropWhile_cons]
    by_cases h : p a = true
    · simp [h, dropWhile_nil_iff l]
    · simp [h]
theorem trimS_nil (l cs : List UInt8) : Lib.trimS l cs = [] ↔ l.all (cs.contains ·) = true := by
  unfold Lib.trimS Lib.trimLeftS Lib.trimRightS
  rw [dropWhile_nil_iff, List.all_reverse]
  generalize (fun x => cs.contains x) = p
  constructor
  · intro h
    have h2 := List.takeWhile_append_dropWhile (p := p) (l := l.reverse)
    have h3 : l.reverse.all p = true := by
      rw [← h2, List.all_append, h]
      simp
    simpa using h3
  · intro h
    have : l.reverse.all p = true := by simpa using h
    rw [List.all_eq_true] at this ⊢
    intro x hx
    exact this x ((List.dropWhile_sublist _).subset hx)
theorem ascii_of_all {cs : List UInt8} (h : cs.all (fun b => decide (b.toNat < 128)) = true) : ∀ (j : Nat) (b : UInt8), cs[j]? = some b → b.toNat < 128 := fun j b hj => by
  have := List.all_eq_true.1 h b (List.mem_of_getElem? hj)
  simpa using this
theorem check_any (s : ByteArray) (w : World) (h0 : 1 ≤ s.size) (hs : s.size ≤ 200) (ha : s.data.toList.all ([97, 98, 99, 100].contains ·) = true) :
    Calls Tryd.prog 22 #[.string s] w fun e w' => e = .returned (.int .i64 0) ∧ Below w.heap.size w w' := by
  have h1 : ¬ 200 < s.size := by omega
  have h2 : s.toList ≠ [] := by
    rw [toList_data]
    intro h
    have : s.data.toList.length = s.size := rfl
    rw [h] at this; simp at this; omega
  have h2'' : (s.toList.isEmpty) = false := by simp [h2]
  have ht := Tryd.strings_Trim_set s ⟨#[97, 98, 99, 100]⟩ w (by omega) (by decide) (ascii_of_all (by decide))
  have e : Lib.trimS s.data.toList (⟨#[97, 98, 99, 100]⟩ : ByteArray).data.toList = [] := (trimS_nil _ _).2 ha
  rw [e] at ht
  clear h2 e ha
  have HT := hid ht
  clear ht
  go_enter Tryd.func22, Tryd.ntmps22
  go_wp2_with (first | (go_at_call 31; refine HT.out.mono ?_; rintro e w' ⟨rfl, hb⟩; have HB := hid hb; clear hb) | fail)
  go_ret
  exact ⟨rfl, HB.out⟩
set_option maxHeartbeats 400000 in
theorem periods_any (s : ByteArray) (w : World) (h0 : 1 ≤ s.size) (hs : s.size ≤ 200) (ha : s.data.toList.all ([97, 98, 99, 100].contains ·) = true) :
    Calls Tryd.prog 9 #[.string s] w fun e w' => ∃ v, e = .returned (.tuple #[v, .int .i64 0]) ∧ OwnV w' w.heap.size 3 v ((pers s.data.toList s.size).map iv) ∧ Below w.heap.size w w' := by
  have CK := hid (check_any s w h0 hs ha)
  have PC : Hid (∀ w' (q : Int) (p : Nat), q = p → p ≤ s.size → Calls Tryd.prog 23 #[.string s, .int .i64 q] w' fun e w'' => e = .returned (.bool (period s.data.toList p)) ∧ ∃ n, w'' = w'.drewN n) := fun w' q p hq hp => periodic_at s q p w' hq hp (by omega)
  clear ha
  go_enter Tryd.func9, Tryd.ntmps9
  go_wp2_with (first | (go_at_call 22; refine CK.out.mono ?_; rintro e w1 ⟨rfl, hb1⟩; have HB1 := hid hb1; clear hb1) | fail)
  go_loopw [5, 6] (fun v i wr => ∃ k : Nat, k ≤ s.size ∧ i = .int .i64 ((k : Int) + 1) ∧ Hid (OwnV wr w.heap.size 3 v ((pers s.data.toList k).map iv)) ∧ Hid (Below w.heap.size w wr)) (fun _ i _ => s.size + 1 - (intOf i).toNat)
  case atStart => exact ⟨0, Nat.zero_le _, rfl, ownV_nil _ _ _, HB1⟩
  case round =>
    obtain ⟨k, hk, rfl, HO, HBr⟩ := hrel
    rename World => wr
    by_cases hlt : k < s.size
    · have PP := hid (PC.out wr ((k : Int) + 1) (k + 1) (by omega) (by omega))
      obtain ⟨va, vn, vc, rfl⟩ := ownV_sh HO.out
      have hpl := pers_len s.data.toList k
      have HPL : Hid (((pers s.data.toList k).map iv).length < 1000000) := by show _ < _; rw [List.length_map]; omega
      clear hpl
      cases hp : period s.data.toList (k + 1)
      · have HP := hid hp
        rw [hp] at PP
        clear hp
        go_wp2_with (first | (go_at_call 23; refine PP.out.mono ?_; rintro e w2 ⟨rfl, n, hw2⟩; have HB2 : Hid (Below w.heap.size w w2) := (by rw [hw2]; exact below_drewN_r HBr.out _); have HO2 : Hid (OwnV w2 w.heap.size 3 (.slice va vn vc) ((pers s.data.toList k).map iv)) := (by rw [hw2]; exact ownV_below HO.out (below_drewN_r (Below.refl _ _) _)); clear hw2) | fail)
        go_roundw
        case rel => exact ⟨k + 1, by omega, by go_num, by rw [pers_no _ _ HP.out]; exact HO2, HB2⟩
        case measure => simp [intOf]; omega
      · have HP := hid hp
        rw [hp] at PP
        clear hp
        go_wp2_with (first
          | (go_at_call 23; refine PP.out.mono ?_; rintro e w2 ⟨rfl, n, hw2⟩; have HB2 : Hid (Below w.heap.size w w2) := (by rw [hw2]; exact below_drewN_r HBr.out _); have HO2 : Hid (OwnV w2 w.heap.size 3 (.slice va vn vc) ((pers s.data.toList k).map iv)) := (by rw [hw2]; exact ownV_below HO.out (below_drewN_r (Below.refl _ _) _)); clear hw2)
          | (at_builtin; refine wpl_app_int ((k : Int) + 1) _ _ (.slice va vn vc) w.heap.size _ (by rfl) (by rfl) (by rfl) (by rfl) HO2.out HPL.out HB2.out.size ?_; intro v' w7 ho7 hb7 hg7; have HO7 := hid ho7; have HB7 := hid (HB2.out.trans hb7); obtain ⟨sa, sn, sc, rfl⟩ := ownV_sh ho7; clear ho7 hb7 hg7)
          | fail)
        go_roundw
        case rel => exact ⟨k + 1, by omega, by go_num, by rw [pers_yes _ _ HP.out, List.map_append]; exact HO7, HB7⟩
        case measure => simp [intOf]; omega
    · obtain ⟨va, vn, vc, rfl⟩ := ownV_sh HO.out
      have hke : k = s.size := by omega
      have HKE := hid hke
      clear hke
      go_wp2_with fail
      go_ret2
      exact ⟨_, rfl, by have h := HO.out; rw [HKE.out] at h; exact h, HBr.out⟩
/-- the rhythm of the braid -/
def lets (n k : Nat) : Str := (List.range k).map fun i => UInt8.ofNat (97 + i % n % 4)
theorem lets_len (n k : Nat) : (lets n k).length = k := by simp [lets]
theorem lets_period : ∀ n < 11, 1 ≤ n → period (lets n (2 * n)) n = true := by decide +kernel
theorem lets_all : ∀ n < 11, (lets n (2 * n)).all ([97, 98, 99, 100].contains ·) = true := by decide +kernel
theorem lets_snoc (n k : Nat) : lets n (k + 1) = lets n k ++ [UInt8.ofNat (97 + k % n % 4)] := by
  unfold lets
  rw [List.range_succ, List.map_append]; rfl
end Go.Proofs.YtppkgilpmmhpoaaDoor
