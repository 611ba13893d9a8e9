/-
  Walks over chapter 6: what is small, what is a set of rows.
-/
import Derived.Test.YtjonbhimbhidpaaDoorWalkG
namespace Go.Proofs.YtjonbhimbhidpaaDoor
open Go.RowKit

theorem run_max_int4 {P : Program} {w : World} (ts : Array TypeId) (t : TypeId) (k k' k'' k3 : IntKind) (x y z u : Int) : (Builtin.max_ ts t #[.int k x, .int k' y, .int k'' z, .int k3 u]).run P w = .ok (.int k (if u > (if z > (if y > x then y else x) then z else (if y > x then y else x)) then u else (if z > (if y > x then y else x) then z else (if y > x then y else x)))) w := by
  simp [Builtin.max_, Builtin.max2]
def I64 (x : Int) : Prop := -9223372036854775808 ≤ x ∧ x ≤ 9223372036854775807
set_option maxHeartbeats 1000000 in
theorem small_any (x y : Int) (w : World) (hx : I64 x) (hy : I64 y) :
    Calls Tryd.prog 67 #[.int .i64 x, .int .i64 y] w fun e w' => e = .returned (.bool (within5 x && within5 y)) ∧ Below w.heap.size w w' := by
  obtain ⟨hx1, hx2⟩ := hx
  obtain ⟨hy1, hy2⟩ := hy
  have hm4 := fun w => @run_max_int4 Tryd.prog w
  go_enter Tryd.func67, Tryd.ntmps67
  go_wp2
  all_goals
    go_ret
    refine ⟨ret_bool ?_, Below.refl _ _⟩
    rw [Bool.eq_iff_iff]
    unfold within5
    unfold wrap64 at *
    simp only [decide_eq_true_eq, Bool.and_eq_true, Bool.false_eq_true, false_iff]
    omega

theorem dropWhile_nil_iff {p : UInt8 → Bool} : ∀ l : List UInt8, l.dropWhile p = [] ↔ l.all p = true
  | [] => by simp
  | a :: l => by
    rw [List.dropWhile_cons]
    by_cases h : p a = true
    · simp [h, dropWhile_nil_iff l]
    · simp [h]
theorem trimS_nil (l cs : List UInt8) : Lib.trimS l cs = [] ↔ l.all (cs.contains ·) = true := by
  unfold Lib.trimS Lib.trimLeftS Lib.trimRightS
  rw [dropWhile_nil_iff, List.all_reverse]
  generalize (fun x => cs.contains x) = p
  constructor
  · intro h
    have h2 := List.takeWhile_append_dropWhile (p := p) (l := l.reverse)
    have h3 : l.reverse.all p = true := by
      rw [← h2, List.all_append, h]
      simp
    simpa using h3
  · intro h
    have : l.reverse.all p = true := by simpa using h
    rw [List.all_eq_true] at this ⊢
    intro x hx
    exact this x ((List.dropWhile_sublist _).subset hx)
theorem contains_dotx (c : UInt8) : [46, 35].contains c = dotx c := by
  unfold dotx
  simp only [List.contains_cons, List.contains_nil, Bool.or_false]
theorem trim_dotx (s : Str) (w : World) (hs : s.length ≤ 1000) :
    Calls Tryd.prog 70 #[.string (strB s), .string ⟨#[46, 35]⟩] w fun e w' => ∃ r : List UInt8, e = .returned (.string ⟨r.toArray⟩) ∧ r.isEmpty = s.all dotx ∧ Below w.heap.size w w' := by
  refine (Tryd.strings_Trim_set (strB s) ⟨#[46, 35]⟩ w (by rw [strB_size]; omega) (by decide) (ascii_of_all (by decide))).mono ?_
  rintro e w' ⟨rfl, hb⟩
  refine ⟨_, rfl, ?_, hb⟩
  rw [Bool.eq_iff_iff, List.isEmpty_iff]
  have := trimS_nil s [46, 35]
  simp only [contains_dotx] at this
  exact this
def ShortG (g : Grid) : Prop := ∀ p ∈ g, ∀ s ∈ p, s.length ≤ 1000
theorem rowed_first {C : Nat} {s : Str} (h : s.length ≠ C) : rowOk C s = false := by simp [rowOk, h]

set_option maxHeartbeats 2000000 in
theorem rowed_any (v : Value) (g : Grid) (P R C : Nat) (w : World) (hg : IsGrid w v g) (hs : ShortG g) (hP : P ≤ 1000000) (hR : R ≤ 1000000) (hC : C ≤ 1000000) :
    Calls Tryd.prog 55 #[v, .int .i64 P, .int .i64 R, .int .i64 C] w fun e w' => e = .returned (.bool (formB P R C g)) ∧ Below w.heap.size w w' := by
  obtain ⟨a, c, rfl, hl, hc⟩ := hg
  have HC := hid hc
  have HS := hid hs
  clear hc hs
  by_cases h1 : g.length = P
  · subst h1
    obtain ⟨F, hF⟩ : ∃ F, F = formB g.length R C g := ⟨_, rfl⟩
    rw [← hF]
    have HF : Hid (F = g.all (phaseOk R C)) := by rw [hF]; simp [formB, Hid]
    clear hF
    obtain ⟨N, hN⟩ : ∃ N, N = g.length := ⟨_, rfl⟩
    rw [← hN] at hl hP ⊢
    have HN := hid hN
    clear hN
    go_enter Tryd.func55, Tryd.ntmps55
    go_wp2
    go_loopw [10, 19] (fun _ v wr => ∃ i : Nat, v = .int .i64 i ∧ i ≤ N ∧ Hid ((g.take i).all (phaseOk R C) = true) ∧ Hid (Below w.heap.size w wr)) (fun _ v _ => N - (intOf v).toNat)
    case atStart => exact ⟨0, rfl, Nat.zero_le _, by rw [List.take_zero]; rfl, Below.refl _ _⟩
    case round =>
      obtain ⟨i, rfl, hi, HA, HB⟩ := hrel
      by_cases hlt : i < N
      · have hlt' : i < g.length := by rw [← HN.out]; exact hlt
        obtain ⟨ga, u, rfl, hcell, hst⟩ := HC.out i hlt'
        obtain ⟨p, hp⟩ : ∃ p, p = g.getD i [] := ⟨_, rfl⟩
        have hpe : g[i] = p := by rw [hp]; simp [hlt']
        rw [← hp] at hst
        have HSP : Hid (∀ s ∈ p, s.length ≤ 1000) := by
          have := HS.out g[i] (List.getElem_mem hlt'); rw [hpe] at this; exact this
        have HA2 : Hid (∀ b, phaseOk R C p = b → (g.take (i + 1)).all (phaseOk R C) = b ∧ (b = false → F = false)) := by
          intro b hb
          have e : (g.take (i + 1)).all (phaseOk R C) = b := by rw [all_take_succ _ _ _ hlt', HA.out, hpe, hb]; rfl
          refine ⟨e, ?_⟩
          rintro rfl
          rw [HF.out, all_of_take _ _ _ e]
        obtain ⟨a2, c2, rfl, hl2, hc2⟩ := hst
        have e1 := (HB.out.cell (World.block_lt_of_cell? w _ hcell)).trans hcell
        have HC2 := hid hc2
        clear hc2 hp hpe hlt' hcell HA
        by_cases h2 : p.length = R
        · subst h2
          obtain ⟨M, hM⟩ : ∃ M, M = p.length := ⟨_, rfl⟩
          rw [← hM] at hl2 e1 hR ⊢
          have HM := hid hM
          rw [← hM] at HA2 HF
          clear hM
          go_wp2
          go_loopw [12, 29] (fun _ v wr2 => ∃ j : Nat, v = .int .i64 j ∧ j ≤ M ∧ Hid ((p.take j).all (rowOk C) = true) ∧ Hid (Below w.heap.size w wr2)) (fun _ v _ => M - (intOf v).toNat)
          case atStart => exact ⟨0, rfl, Nat.zero_le _, by rw [List.take_zero]; rfl, HB⟩
          case round =>
            obtain ⟨j, rfl, hj, HA3, HB3⟩ := hrel
            by_cases hlt2 : j < M
            · have hlt2' : j < p.length := by rw [← HM.out]; exact hlt2
              obtain ⟨gb, rfl, hcell2⟩ := HC2.out j hlt2'
              obtain ⟨s, hs⟩ : ∃ s, s = p.getD j [] := ⟨_, rfl⟩
              have hse : p[j] = s := by rw [hs]; simp [hlt2']
              rw [← hs] at hcell2
              have hsl : s.length ≤ 1000 := by rw [← hse]; exact HSP.out _ (List.getElem_mem hlt2')
              have HA4 : Hid (∀ b, rowOk C s = b → (p.take (j + 1)).all (rowOk C) = b ∧ (b = false → F = false)) := by
                intro b hb
                have e : (p.take (j + 1)).all (rowOk C) = b := by rw [all_take_succ _ _ _ hlt2', HA3.out, hse, hb]; rfl
                refine ⟨e, ?_⟩
                rintro rfl
                refine (HA2.out false ?_).2 rfl
                unfold phaseOk rowsOk
                rw [all_of_take _ _ _ e, Bool.and_false]
              have e2 := (HB3.out.cell (World.block_lt_of_cell? w _ hcell2)).trans hcell2
              have ht := fun w => hid (trim_dotx s w hsl)
              have hsz := strB_size s
              clear hcell2 hs hse hlt2' HA3
              by_cases h3 : s.length = C
              · have h3' : (strB s).size = C := by rw [hsz, h3]
                cases hd : s.all dotx
                · have h4 := (HA4.out false (by unfold rowOk; rw [hd, Bool.and_false])).2 rfl
                  subst h4
                  go_wp2_with (first | (go_at_call 70; refine ((ht _).out).mono ?_; rintro e w3 ⟨r, rfl, hr, hb3⟩; rw [hd] at hr; have HB4 := hid hb3; clear hb3) | fail)
                  go_ret
                  exact ⟨rfl, HB3.out.trans (HB4.out.mono HB3.out.size)⟩
                · have h4 := HA4.out true (by unfold rowOk; rw [hd, Bool.and_true]; exact decide_eq_true h3)
                  have H4 := hid h4.1
                  clear h4
                  go_wp2_with (first | (go_at_call 70; refine ((ht _).out).mono ?_; rintro e w3 ⟨r, rfl, hr, hb3⟩; rw [hd] at hr; have HB4 := hid hb3; clear hb3) | fail)
                  go_roundw
                  case rel => exact ⟨j + 1, by go_num, by omega, H4, HB3.out.trans (HB4.out.mono HB3.out.size)⟩
                  case measure => simp [intOf]; omega
              · have h3' : ¬ (((strB s).size : Nat) : Int) = (C : Int) := by rw [hsz]; omega
                have h4 := (HA4.out false (rowed_first h3)).2 rfl
                subst h4
                clear h3
                go_wp2
                go_ret
                exact ⟨rfl, HB3.out⟩
            · obtain rfl : j = M := by omega
              have hph : phaseOk j C p = true := by
                have := HA3.out
                rw [HM.out, List.take_of_length_le (Nat.le_refl _)] at this
                unfold phaseOk rowsOk
                rw [this, HM.out]; simp
              have H4 := hid (HA2.out true hph).1
              clear hph
              go_wp2
              go_roundw
              case rel => exact ⟨i + 1, by go_num, by omega, H4, HB3.out⟩
              case measure => simp [intOf]; omega
        · have h4 := (HA2.out false (by simp [phaseOk, h2])).2 rfl
          subst h4
          go_wp2
          go_ret
          exact ⟨rfl, HB.out⟩
      · obtain rfl : i = N := by omega
        have h4 : F = true := by
          have := HA.out
          rw [HN.out, List.take_of_length_le (Nat.le_refl _)] at this
          rw [HF.out, this]
        subst h4
        go_wp2
        go_ret
        exact ⟨rfl, HB.out⟩
  · have hF : formB P R C g = false := by simp [formB, h1]
    rw [hF]
    clear hF
    go_enter Tryd.func55, Tryd.ntmps55
    go_wp2
    go_ret
    exact ⟨rfl, Below.refl _ _⟩
end Go.Proofs.YtjonbhimbhidpaaDoor
