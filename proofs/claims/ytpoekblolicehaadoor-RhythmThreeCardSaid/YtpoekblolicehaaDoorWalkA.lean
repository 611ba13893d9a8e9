/-
  Walks over the string functions of chapter 1: what is no rhythm, a period.
-/
import Derived.Test.YtpoekblolicehaaDoorBase
namespace Go.Proofs.YtpoekblolicehaaDoor
open Go.RowKit

theorem ret_eq {v u : Value} (h : v = u) : Ending.returned v = .returned u := by rw [h]
theorem ret_int {k : IntKind} {a b : Int} (h : a = b) : Ending.returned (.int k a) = .returned (.int k b) := by rw [h]
theorem ret_bool {a b : Bool} (h : a = b) : Ending.returned (.bool a) = .returned (.bool b) := by rw [h]

theorem period_eq (s : ByteArray) (p : Nat) : ((s.extract p s.size).toList == (s.extract 0 (s.size - p)).toList) = period s.data.toList p := by
  rw [Lib.extract_toList, Lib.extract_toList]
  unfold period
  congr 1
  rw [List.take_of_length_le]; simp

set_option maxHeartbeats 400000 in
theorem periodic_any (s : ByteArray) (p : Nat) (w : World) (hp : p ≤ s.size) (hs : s.size ≤ 1000) :
    Calls Tryd.prog 56 #[.string s, .int .i64 p] w fun e w' => e = .returned (.bool (period s.data.toList p)) ∧ ∃ n, w' = w.drewN n := by
  rw [← period_eq]
  go_enter Tryd.func56, Tryd.ntmps56
  go_wp2
  go_quiet (fail)
  go_wp2
  go_ret
  exact ⟨rfl, _, rfl⟩

set_option maxHeartbeats 400000 in
theorem rperiod_any (s : ByteArray) (p : Nat) (w : World) (hp : p ≤ s.size) (hs : s.size ≤ 1000) :
    Calls Tryd.prog 47 #[.string s, .int .i64 p] w fun e w' => e = .returned (.bool (period s.data.toList p)) ∧ ∃ n, w' = w.drewN n := by
  rw [← period_eq]
  go_enter Tryd.func47, Tryd.ntmps47
  go_wp2
  go_quiet (fail)
  go_wp2
  go_ret
  exact ⟨ret_bool (by rw [Bool.eq_iff_iff, beq_iff_eq, beq_iff_eq]; exact eq_comm), _, rfl⟩

theorem dropWhile_nil_iff {p : UInt8 → Bool} : ∀ l : List UInt8, l.dropWhile p = [] ↔ l.all p = true
  | [] => by simp
  | a :: l => by
    rw [List.dropWhile_cons]
    by_cases h : p a = true
    · simp [h, dropWhile_nil_iff l]
    · simp [h]

theorem trimS_nil (l cs : List UInt8) : Lib.trimS l cs = [] ↔ l.all (cs.contains ·) = true := by
  unfold Lib.trimS Lib.trimLeftS Lib.trimRightS
  rw [dropWhile_nil_iff, List.all_reverse]
  generalize (fun x => cs.contains x) = p
  constructor
  · intro h
    have h2 := List.takeWhile_append_dropWhile (p := p) (l := l.reverse)
    have h3 : l.reverse.all p = true := by
      rw [← h2, List.all_append, h]
      simp
    simpa using h3
  · intro h
    have : l.reverse.all p = true := by simpa using h
    rw [List.all_eq_true] at this ⊢
    intro x hx
    exact this x ((List.dropWhile_sublist _).subset hx)

theorem letter_abcd (c : UInt8) : [97, 98, 99, 100].contains c = letter c := by
  unfold letter
  rw [Bool.eq_iff_iff]
  have : ∀ d : UInt8, c = d ↔ c.toNat = d.toNat := fun d => UInt8.toNat_inj.symm
  simp only [List.contains_cons, List.contains_nil, Bool.or_false, Bool.or_eq_true, beq_iff_eq, Bool.and_eq_true, decide_eq_true_eq, this]
  simp
  omega

theorem chk_eq (l : List UInt8) (h : ¬ 200 < l.length) (h2 : l ≠ []) : chk l = if (!(Lib.trimS l [97, 98, 99, 100]).isEmpty) = true then 2 else 0 := by
  unfold chk
  rw [if_neg h]
  have e : (l.isEmpty || !l.all letter) = (!(Lib.trimS l [97, 98, 99, 100]).isEmpty) := by
    rw [Bool.eq_iff_iff]
    have := trimS_nil l [97, 98, 99, 100]
    simp only [letter_abcd] at this
    simp only [Bool.or_eq_true, List.isEmpty_iff, Bool.not_eq_true', List.isEmpty_eq_false_iff, ne_eq, this, h2, false_or, Bool.not_eq_true]
  rw [e]

theorem trim_abcd (s : ByteArray) (w : World) (hs : s.size ≤ 1000) :
    Calls Tryd.prog 66 #[.string s, .string ⟨#[97, 98, 99, 100]⟩] w fun e w' => e = .returned (.string ⟨(Lib.trimS s.data.toList [97, 98, 99, 100]).toArray⟩) ∧ Below w.heap.size w w' :=
  Tryd.strings_Trim_set s ⟨#[97, 98, 99, 100]⟩ w (by omega) (by decide) (ascii_of_all (by decide))

theorem toList_data (s : ByteArray) : s.toList = s.data.toList := by
  obtain ⟨⟨l⟩⟩ := s
  simp
set_option maxHeartbeats 400000 in
theorem check_any (s : ByteArray) (w : World) (hs : s.size ≤ 1000) :
    Calls Tryd.prog 55 #[.string s] w fun e w' => e = .returned (.int .i64 (chk s.data.toList)) ∧ Below w.heap.size w w' := by
  by_cases h1 : 200 < s.size
  · go_enter Tryd.func55, Tryd.ntmps55
    go_wp2_with fail
    go_ret
    exact ⟨ret_int (by unfold chk; rw [if_pos (by simpa using h1)]), Below.refl _ _⟩
  · by_cases h2 : s.toList = []
    · have h2' : (!s.toList.isEmpty) = false := by simp [h2]
      go_enter Tryd.func55, Tryd.ntmps55
      go_wp2_with fail
      go_ret
      exact ⟨ret_int (by unfold chk; rw [if_neg (by simpa using h1), if_pos (by rw [← toList_data, h2]; rfl)]), Below.refl _ _⟩
    · have h2'' : (s.toList.isEmpty) = false := by simp [h2]
      have hc := chk_eq s.data.toList (by simpa using h1) (by rw [← toList_data]; exact h2)
      have ht := trim_abcd s w hs
      have HC := hid hc
      clear hc h2
      generalize Lib.trimS s.data.toList [97, 98, 99, 100] = r at *
      go_enter Tryd.func55, Tryd.ntmps55
      go_wp2_with fail
      refine ht.mono ?_
      rintro e w' ⟨rfl, hb⟩
      go_wp2
      · go_ret
        exact ⟨ret_int (by rw [HC.out, if_pos ‹_›]), hb⟩
      · go_ret
        exact ⟨ret_int (by rw [HC.out, if_neg (by simp_all)]), hb⟩
end Go.Proofs.YtpoekblolicehaaDoor
