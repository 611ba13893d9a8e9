/-
  Walks over chapter 6: what is small, what is a set of rows.
  Walks over chapter 6: an oven is read.
-/
import Derived.Test.YtjonbhimbhidpaaDoorZ3
namespace Go.Proofs.YtjonbhimbhidpaaDoor
open Go.RowKit

theorem run_max_int4 {P : Program} {w : World} (ts : Array TypeId) (t : TypeId) (k k' k'' k3 : IntKind) (x y z u : Int) : (Builtin.max_ ts t #[.int k x, .int k' y, .int k'' z, .int k3 u]).run P w = .ok (.int k (if u > (if z > (if y > x then y else x) then z else (if y > x then y else x)) then u else (if z > (if y > x then y else x) then z else (if y > x then y else x)))) w := by
  simp [Builtin.max_, Builtin.max2]
def I64 (x : Int) : Prop := -9223372036854775808 ≤ x ∧ x ≤ 9223372036854775807
set_option maxHeartbeats 1000000 in
theorem small_any (x y : Int) (w : World) (hx : I64 x) (hy : I64 y) :
    Calls Tryd.prog 67 #[.int .i64 x, .int .i64 y] w fun e w' => e = .returned (.bool (within5 x && within5 y)) ∧ Below w.heap.size w w' := by
  obtain ⟨hx1, hx2⟩ := hx
  obtain ⟨hy1, hy2⟩ := hy
  have hm4 := fun w => @run_max_int4 Tryd.prog w
  go_enter Tryd.func67, Tryd.ntmps67
  go_wp2
  all_goals
    go_ret
    refine ⟨ret_bool ?_, Below.refl _ _⟩
    rw [Bool.eq_iff_iff]
    unfold within5
    unfold wrap64 at *
    simp only [decide_eq_true_eq, Bool.and_eq_true, Bool.false_eq_true, false_iff]
    omega

theorem dropWhile_nil_iff {p : UInt8 → Bool} : ∀ l : List UInt8, l.dropWhile p = [] ↔ l.all p = true
  | [] => by simp
  | a :: l => by
    rw [List.dropWhile_cons]
    by_cases h : p a = true
    · simp [h, dropWhile_nil_iff l]
    · simp [h]
theorem trimS_nil (l cs : List UInt8) : Lib.trimS l cs = [] ↔ l.all (cs.contains ·) = true := by
  unfold Lib.trimS Lib.trimLeftS Lib.trimRightS
  rw [dropWhile_nil_iff, List.all_reverse]
  generalize (fun x => cs.contains x) = p
  constructor
  · intro h
    have h2 := List.takeWhile_append_dropWhile (p := p) (l := l.reverse)
    have h3 : l.reverse.all p = true := by
      rw [← h2, List.all_append, h]
      simp
    simpa using h3
  · intro h
    have : l.reverse.all p = true := by simpa using h
    rw [List.all_eq_true] at this ⊢
    intro x hx
    exact this x ((List.dropWhile_sublist _).subset hx)
theorem contains_dotx (c : UInt8) : [46, 35].contains c = dotx c := by
  unfold dotx
  simp only [List.contains_cons, List.contains_nil, Bool.or_false]
theorem trim_dotx (s : Str) (w : World) (hs : s.length ≤ 1000) :
    Calls Tryd.prog 70 #[.string (strB s), .string ⟨#[46, 35]⟩] w fun e w' => ∃ r : List UInt8, e = .returned (.string ⟨r.toArray⟩) ∧ r.isEmpty = s.all dotx ∧ Below w.heap.size w w' := by
  refine (Tryd.strings_Trim_set (strB s) ⟨#[46, 35]⟩ w (by rw [strB_size]; omega) (by decide) (ascii_of_all (by decide))).mono ?_
  rintro e w' ⟨rfl, hb⟩
  refine ⟨_, rfl, ?_, hb⟩
  rw [Bool.eq_iff_iff, List.isEmpty_iff]
  have := trimS_nil s [46, 35]
  simp only [contains_dotx] at this
  exact this
def ShortG (g : Grid) : Prop := ∀ p ∈ g, ∀ s ∈ p, s.length ≤ 1000
theorem rowed_first {C : Nat} {s : Str} (h : s.length ≠ C) : rowOk C s = false := by simp [rowOk, h]

set_option maxHeartbeats 2000000 in
theorem rowed_any (v : Value) (g : Grid) (P R C : Nat) (w : World) (hg : IsGrid w v g) (hs : ShortG g) (hP : P ≤ 1000000) (hR : R ≤ 1000000) (hC : C ≤ 1000000) :
    Calls Tryd.prog 55 #[v, .int .i64 P, .int .i64 R, .int .i64 C] w fun e w' => e = .returned (.bool (formB P R C g)) ∧ Below w.heap.size w w' := by
  obtain ⟨a, c, rfl, hl, hc⟩ := hg
  have HC := hid hc
  have HS := hid hs
  clear hc hs
  by_cases h1 : g.length = P
  · subst h1
    obtain ⟨F, hF⟩ : ∃ F, F = formB g.length R C g := ⟨_, rfl⟩
    rw [← hF]
    have HF : Hid (F = g.all (phaseOk R C)) := by rw [hF]; simp [formB, Hid]
    clear hF
    obtain ⟨N, hN⟩ : ∃ N, N = g.length := ⟨_, rfl⟩
    rw [← hN] at hl hP ⊢
    have HN := hid hN
    clear hN
    go_enter Tryd.func55, Tryd.ntmps55
    go_wp2
    go_loopw [10, 19] (fun _ v wr => ∃ i : Nat, v = .int .i64 i ∧ i ≤ N ∧ Hid ((g.take i).all (phaseOk R C) = true) ∧ Hid (Below w.heap.size w wr)) (fun _ v _ => N - (intOf v).toNat)
    case atStart => exact ⟨0, rfl, Nat.zero_le _, by rw [List.take_zero]; rfl, Below.refl _ _⟩
    case round =>
      obtain ⟨i, rfl, hi, HA, HB⟩ := hrel
      by_cases hlt : i < N
      · have hlt' : i < g.length := by rw [← HN.out]; exact hlt
        obtain ⟨ga, u, rfl, hcell, hst⟩ := HC.out i hlt'
        obtain ⟨p, hp⟩ : ∃ p, p = g.getD i [] := ⟨_, rfl⟩
        have hpe : g[i] = p := by rw [hp]; simp [hlt']
        rw [← hp] at hst
        have HSP : Hid (∀ s ∈ p, s.length ≤ 1000) := by
          have := HS.out g[i] (List.getElem_mem hlt'); rw [hpe] at this; exact this
        have HA2 : Hid (∀ b, phaseOk R C p = b → (g.take (i + 1)).all (phaseOk R C) = b ∧ (b = false → F = false)) := by
          intro b hb
          have e : (g.take (i + 1)).all (phaseOk R C) = b := by rw [all_take_succ _ _ _ hlt', HA.out, hpe, hb]; rfl
          refine ⟨e, ?_⟩
          rintro rfl
          rw [HF.out, all_of_take _ _ _ e]
        obtain ⟨a2, c2, rfl, hl2, hc2⟩ := hst
        have e1 := (HB.out.cell (World.block_lt_of_cell? w _ hcell)).trans hcell
        have HC2 := hid hc2
        clear hc2 hp hpe hlt' hcell HA
        by_cases h2 : p.length = R
        · subst h2
          obtain ⟨M, hM⟩ : ∃ M, M = p.length := ⟨_, rfl⟩
          rw [← hM] at hl2 e1 hR ⊢
          have HM := hid hM
          rw [← hM] at HA2 HF
          clear hM
          go_wp2
          go_loopw [12, 29] (fun _ v wr2 => ∃ j : Nat, v = .int .i64 j ∧ j ≤ M ∧ Hid ((p.take j).all (rowOk C) = true) ∧ Hid (Below w.heap.size w wr2)) (fun _ v _ => M - (intOf v).toNat)
          case atStart => exact ⟨0, rfl, Nat.zero_le _, by rw [List.take_zero]; rfl, HB⟩
          case round =>
            obtain ⟨j, rfl, hj, HA3, HB3⟩ := hrel
            by_cases hlt2 : j < M
            · have hlt2' : j < p.length := by rw [← HM.out]; exact hlt2
              obtain ⟨gb, rfl, hcell2⟩ := HC2.out j hlt2'
              obtain ⟨s, hs⟩ : ∃ s, s = p.getD j [] := ⟨_, rfl⟩
              have hse : p[j] = s := by rw [hs]; simp [hlt2']
              rw [← hs] at hcell2
              have hsl : s.length ≤ 1000 := by rw [← hse]; exact HSP.out _ (List.getElem_mem hlt2')
              have HA4 : Hid (∀ b, rowOk C s = b → (p.take (j + 1)).all (rowOk C) = b ∧ (b = false → F = false)) := by
                intro b hb
                have e : (p.take (j + 1)).all (rowOk C) = b := by rw [all_take_succ _ _ _ hlt2', HA3.out, hse, hb]; rfl
                refine ⟨e, ?_⟩
                rintro rfl
                refine (HA2.out false ?_).2 rfl
                unfold phaseOk rowsOk
                rw [all_of_take _ _ _ e, Bool.and_false]
              have e2 := (HB3.out.cell (World.block_lt_of_cell? w _ hcell2)).trans hcell2
              have ht := fun w => hid (trim_dotx s w hsl)
              have hsz := strB_size s
              clear hcell2 hs hse hlt2' HA3
              by_cases h3 : s.length = C
              · have h3' : (strB s).size = C := by rw [hsz, h3]
                cases hd : s.all dotx
                · have h4 := (HA4.out false (by unfold rowOk; rw [hd, Bool.and_false])).2 rfl
                  subst h4
                  go_wp2_with (first | (go_at_call 70; refine ((ht _).out).mono ?_; rintro e w3 ⟨r, rfl, hr, hb3⟩; rw [hd] at hr; have HB4 := hid hb3; clear hb3) | fail)
                  go_ret
                  exact ⟨rfl, HB3.out.trans (HB4.out.mono HB3.out.size)⟩
                · have h4 := HA4.out true (by unfold rowOk; rw [hd, Bool.and_true]; exact decide_eq_true h3)
                  have H4 := hid h4.1
                  clear h4
                  go_wp2_with (first | (go_at_call 70; refine ((ht _).out).mono ?_; rintro e w3 ⟨r, rfl, hr, hb3⟩; rw [hd] at hr; have HB4 := hid hb3; clear hb3) | fail)
                  go_roundw
                  case rel => exact ⟨j + 1, by go_num, by omega, H4, HB3.out.trans (HB4.out.mono HB3.out.size)⟩
                  case measure => simp [intOf]; omega
              · have h3' : ¬ (((strB s).size : Nat) : Int) = (C : Int) := by rw [hsz]; omega
                have h4 := (HA4.out false (rowed_first h3)).2 rfl
                subst h4
                clear h3
                go_wp2
                go_ret
                exact ⟨rfl, HB3.out⟩
            · obtain rfl : j = M := by omega
              have hph : phaseOk j C p = true := by
                have := HA3.out
                rw [HM.out, List.take_of_length_le (Nat.le_refl _)] at this
                unfold phaseOk rowsOk
                rw [this, HM.out]; simp
              have H4 := hid (HA2.out true hph).1
              clear hph
              go_wp2
              go_roundw
              case rel => exact ⟨i + 1, by go_num, by omega, H4, HB3.out⟩
              case measure => simp [intOf]; omega
        · have h4 := (HA2.out false (by simp [phaseOk, h2])).2 rfl
          subst h4
          go_wp2
          go_ret
          exact ⟨rfl, HB.out⟩
      · obtain rfl : i = N := by omega
        have h4 : F = true := by
          have := HA.out
          rw [HN.out, List.take_of_length_le (Nat.le_refl _)] at this
          rw [HF.out, this]
        subst h4
        go_wp2
        go_ret
        exact ⟨rfl, HB.out⟩
  · have hF : formB P R C g = false := by simp [formB, h1]
    rw [hF]
    clear hF
    go_enter Tryd.func55, Tryd.ntmps55
    go_wp2
    go_ret
    exact ⟨rfl, Below.refl _ _⟩
end Go.Proofs.YtjonbhimbhidpaaDoor

namespace Go.Proofs.YtjonbhimbhidpaaDoor
open Go.RowKit

/-- all numbers of an oven are numbers of the machine, its strings are short -/
structure Ov.Num (o : Ov) : Prop where
  mv : ∀ m ∈ o.moves, I64 m.1 ∧ I64 m.2.1 ∧ I64 m.2.2.1 ∧ I64 m.2.2.2
  jl : ∀ j ∈ o.jolts, I64 j.1 ∧ I64 j.2
  short : ShortG o.safe
def Ov.lens (o : Ov) : Prop := 1 ≤ o.P ∧ o.P ≤ 4 ∧ o.moves.length ≤ 16 ∧ 1 ≤ o.jolts.length ∧ o.jolts.length ≤ 4
theorem valid_lens {o : Ov} (h : ¬ o.lens) : o.valid = false := by
  unfold Ov.valid
  have : ¬ (1 ≤ o.P ∧ o.P ≤ 4 ∧ 1 ≤ o.R ∧ o.R ≤ 16 ∧ 1 ≤ o.C ∧ o.C ≤ 16 ∧ o.moves.length ≤ 16 ∧ 1 ≤ o.jolts.length ∧ o.jolts.length ≤ 4) := by
    intro h2; exact h ⟨h2.1, h2.2.1, h2.2.2.2.2.2.2⟩
  simp only [this, decide_false, Bool.false_and]
theorem valid_R {o : Ov} (h : ¬ (1 ≤ o.R ∧ o.R ≤ 16)) : o.valid = false := by
  unfold Ov.valid
  have : ¬ (1 ≤ o.P ∧ o.P ≤ 4 ∧ 1 ≤ o.R ∧ o.R ≤ 16 ∧ 1 ≤ o.C ∧ o.C ≤ 16 ∧ o.moves.length ≤ 16 ∧ 1 ≤ o.jolts.length ∧ o.jolts.length ≤ 4) := by
    intro h2; exact h ⟨h2.2.2.1, h2.2.2.2.1⟩
  simp only [this, decide_false, Bool.false_and]
theorem valid_C {o : Ov} (h : ¬ (1 ≤ o.C ∧ o.C ≤ 16)) : o.valid = false := by
  unfold Ov.valid
  have : ¬ (1 ≤ o.P ∧ o.P ≤ 4 ∧ 1 ≤ o.R ∧ o.R ≤ 16 ∧ 1 ≤ o.C ∧ o.C ≤ 16 ∧ o.moves.length ≤ 16 ∧ 1 ≤ o.jolts.length ∧ o.jolts.length ≤ 4) := by
    intro h2; exact h ⟨h2.2.2.2.2.1, h2.2.2.2.2.2.1⟩
  simp only [this, decide_false, Bool.false_and]
theorem valid_form {o : Ov} (h : formB o.P o.R o.C o.safe = false) : o.valid = false := by
  unfold Ov.valid
  rw [h]; simp
theorem valid_mv {o : Ov} (h : o.moves.all (mvOk o.P) = false) : o.valid = false := by
  unfold Ov.valid
  rw [h]; simp
theorem valid_jl {o : Ov} (h : o.jolts.all jlOk = false) : o.valid = false := by
  unfold Ov.valid
  rw [h]; simp
theorem valid_true {o : Ov} (h1 : o.lens) (h2 : 1 ≤ o.R ∧ o.R ≤ 16) (h3 : 1 ≤ o.C ∧ o.C ≤ 16) (h4 : formB o.P o.R o.C o.safe = true) (h5 : o.moves.all (mvOk o.P) = true) (h6 : o.jolts.all jlOk = true) : o.valid = true := by
  unfold Ov.valid
  rw [h4, h5, h6]
  have : (1 ≤ o.P ∧ o.P ≤ 4 ∧ 1 ≤ o.R ∧ o.R ≤ 16 ∧ 1 ≤ o.C ∧ o.C ≤ 16 ∧ o.moves.length ≤ 16 ∧ 1 ≤ o.jolts.length ∧ o.jolts.length ≤ 4) :=
    ⟨h1.1, h1.2.1, h2.1, h2.2, h3.1, h3.2, h1.2.2⟩
  simp only [this, decide_true, Bool.and_true, and_self]
theorem cells5_of {W : World} {g : Nat} {a b c d e : Value} {t : TypeId} (h : W.heap[g]? = some (.cells #[a, b, c, d, e] t)) : W.cell? ⟨g, 0, none⟩ = some a ∧ W.cell? ⟨g, 1, none⟩ = some b ∧ W.cell? ⟨g, 2, none⟩ = some c ∧ W.cell? ⟨g, 3, none⟩ = some d ∧ W.cell? ⟨g, 4, none⟩ = some e := by
  refine ⟨?_, ?_, ?_, ?_, ?_⟩ <;> simp [World.cell?, h]
/-- what read returns -/
def ReadR (w : World) (vs vm vj : Value) (o : Ov) (e : Ending) (w' : World) : Prop :=
  Below w.heap.size w w' ∧ if o.valid = true then ∃ x, e = .returned (.tuple #[.pointer (some ⟨x, 0, none⟩), .bool true]) ∧ OvAt w' x vs vm vj o else e = .returned (.tuple #[.pointer none, .bool false])
theorem readR_no {w w' : World} {vs vm vj : Value} {o : Ov} {e : Ending} (hv : o.valid = false) (he : e = .returned (.tuple #[.pointer none, .bool false])) (hb : Below w.heap.size w w') : ReadR w vs vm vj o e w' := ⟨hb, by rw [if_neg (by rw [hv]; decide)]; exact he⟩

set_option maxHeartbeats 4000000 in
set_option maxRecDepth 100000 in
theorem read_any (vs vm vj : Value) (o : Ov) (w : World) (ho : IsOv w vs vm vj o) (hn : o.Num) :
    Calls Tryd.prog 51 #[.agg #[vs, vm, vj]] w (ReadR w vs vm vj o) := by
  have HO := hid ho
  have HN := hid hn
  obtain ⟨⟨a1, c1, rfl, hl1, hc1⟩, ⟨a2, c2, rfl, hl2, hc2⟩, ⟨a3, c3, rfl, hl3, hc3⟩⟩ := ho
  have HC1 := hid hc1
  have HC2 := hid hc2
  have HC3 := hid hc3
  clear hc1 hc2 hc3 hn
  have HB0 : Hid (Below w.heap.size w (w.alloc (.cells #[.slice a1 o.safe.length c1, .slice a2 o.moves.length c2, .slice a3 o.jolts.length c3] 26))) := (Below.refl _ _).alloc (Nat.le_refl _) _
  obtain ⟨P, hP⟩ : ∃ P, P = o.P := ⟨_, rfl⟩
  obtain ⟨M, hM⟩ : ∃ M, M = o.moves.length := ⟨_, rfl⟩
  obtain ⟨J, hJ⟩ : ∃ J, J = o.jolts.length := ⟨_, rfl⟩
  by_cases hA : o.lens
  · have HA := hid hA
    obtain ⟨p1, p2, m2, j1, j2⟩ := hA
    have HP := hid hP
    have HM := hid hM
    have HJ := hid hJ
    obtain ⟨g1, u1, rfl, hcell1, hs1⟩ := HC1.out 0 (by have : 1 ≤ o.safe.length := p1; omega)
    obtain ⟨a4, c4, rfl, hl4, hc4⟩ := hs1
    have HC4 := hid hc4
    have hPl : o.safe.length = P := hP.symm
    rw [← hP] at p1 p2
    rw [← hM] at m2
    rw [← hJ] at j1 j2
    rw [hPl, ← hM, ← hJ] at HB0 ⊢
    obtain ⟨R, hR⟩ : ∃ R, R = (o.safe.getD 0 []).length := ⟨_, rfl⟩
    rw [← hR] at hcell1
    rw [← hM] at hl2
    rw [← hJ] at hl3
    rw [hPl] at hl1
    have HR : Hid (R = o.R) := hR
    have lt1 := World.block_lt_of_cell? w _ hcell1
    clear hc4 hP hM hJ hPl hR hl4
    by_cases hB : 1 ≤ R ∧ R ≤ 16
    · obtain ⟨r1, r2⟩ := hB
      obtain ⟨g2, rfl, hcell2⟩ := HC4.out 0 (by have h1 := HR.out; unfold Ov.R at h1; omega)
      obtain ⟨C, hC⟩ : ∃ C, C = (strB ((o.safe.getD 0 []).getD 0 [])).size := ⟨_, rfl⟩
      have HC : Hid (C = o.C) := by rw [hC, strB_size]; rfl
      have lt2 := World.block_lt_of_cell? w _ hcell2
      generalize strB ((o.safe.getD 0 []).getD 0 []) = s0 at hC hcell2
      subst hC
      by_cases hD : 1 ≤ s0.size ∧ s0.size ≤ 16
      · obtain ⟨s1, s2⟩ := hD
        cases hF : formB P R s0.size o.safe
        · have HV : Hid (o.valid = false) := valid_form (by rw [← HP.out, ← HR.out, ← HC.out]; exact hF)
          have cr := hid (rowed_any (.slice (some ⟨g1, 0, none⟩) P c1) o.safe P R s0.size (w.alloc (.cells #[.slice (some ⟨g1, 0, none⟩) P c1, .slice a2 M c2, .slice a3 J c3] 26)) (isGrid_below (by have := HO.out.safe; rw [show o.safe.length = P from HP.out.symm] at this; exact this) HB0.out) HN.out.short (by omega) (by omega) (by omega))
          rw [hF] at cr
          clear hF
          go_enter Tryd.func51, Tryd.ntmps51
          go_wp2_with (first | (go_at_call 55; refine (cr.out).mono ?_; rintro e w3 ⟨rfl, hb3⟩; have HB3 := hid hb3; clear hb3) | fail)
          go_ret2
          exact readR_no HV.out rfl (HB0.out.trans (HB3.out.mono HB0.out.size))
        · have HF := hid hF
          have cr := hid (rowed_any (.slice (some ⟨g1, 0, none⟩) P c1) o.safe P R s0.size (w.alloc (.cells #[.slice (some ⟨g1, 0, none⟩) P c1, .slice a2 M c2, .slice a3 J c3] 26)) (isGrid_below (by have := HO.out.safe; rw [show o.safe.length = P from HP.out.symm] at this; exact this) HB0.out) HN.out.short (by omega) (by omega) (by omega))
          rw [hF] at cr
          have HX0 := hid (heap_alloc_new w (.cells #[.slice (some ⟨g1, 0, none⟩) P c1, .slice a2 M c2, .slice a3 J c3] 26))
          obtain ⟨W0, hW0⟩ : ∃ W0, W0 = (w.alloc (.cells #[.slice (some ⟨g1, 0, none⟩) P c1, .slice a2 M c2, .slice a3 J c3] 26)) := ⟨_, rfl⟩
          rw [← hW0] at HB0 HX0
          have HWW := hid hW0
          have hsz0 : W0.heap.size = w.heap.size + 1 := by rw [hW0]; simp
          clear hF hW0
          go_enter Tryd.func51, Tryd.ntmps51
          go_wp2_with (first | (go_at_call 55; refine (cr.out).mono ?_; rintro e w3 ⟨rfl, hb3⟩; rw [← HWW.out] at hb3; have HB3 := hid hb3; have d1 : w3.cell? ⟨w.heap.size, 1, none⟩ = some (.slice a2 M c2) := (hb3.cell (p := ⟨w.heap.size, 1, none⟩) (by rw [hsz0]; exact Nat.lt_succ_self _)).trans (cells3_of HX0.out).2.1; clear hb3) | fail)
          clear cr
          go_loopw [74] (fun v wr => ∃ i : Nat, v = .int .i64 i ∧ i ≤ M ∧ Hid ((o.moves.take i).all (mvOk o.P) = true) ∧ Hid (Below W0.heap.size W0 wr)) (fun v _ => M - (intOf v).toNat)
          case atStart => exact ⟨0, rfl, Nat.zero_le _, by rw [List.take_zero]; rfl, HB3⟩
          case round =>
            obtain ⟨i, rfl, hi, HAl, HBl⟩ := hrel
            by_cases hlt : i < M
            · have hlt' : i < o.moves.length := by rw [← HM.out]; exact hlt
              obtain ⟨g3, rfl, n0, n1, n2, n3⟩ := HC2.out i hlt'
              have hmv := HN.out.mv _ (List.getElem_mem hlt')
              have em : mvAt o.moves i = o.moves[i] := by simp [mvAt, hlt']
              have lt3 := World.block_lt_of_cell? w _ n0
              have up := HB0.out.trans (HBl.out.mono HB0.out.size)
              have HMV : Hid (∀ b, mvOk o.P o.moves[i] = b → (o.moves.take (i + 1)).all (mvOk o.P) = b ∧ (b = false → o.valid = false)) := by
                intro b hb
                have e : (o.moves.take (i + 1)).all (mvOk o.P) = b := by rw [all_take_succ _ _ _ hlt', HAl.out, hb]; rfl
                refine ⟨e, ?_⟩
                rintro rfl
                exact valid_mv (all_of_take _ _ _ e)
              rw [em] at n0 n1 n2 n3
              generalize o.moves[i] = m at *
              obtain ⟨a, b, x, y⟩ := m
              simp only at n0 n1 n2 n3 hmv
              obtain ⟨q1, q2, q3, q4⟩ := hmv
              replace n0 := (up.cell lt3).trans n0
              replace n1 := (up.cell (p := ⟨g3, i * 4 + 1, none⟩) lt3).trans n1
              replace n2 := (up.cell (p := ⟨g3, i * 4 + 2, none⟩) lt3).trans n2
              replace n3 := (up.cell (p := ⟨g3, i * 4 + 3, none⟩) lt3).trans n3
              have HUP := hid up
              have hlw : g3 < wr.heap.size := Nat.lt_of_lt_of_le lt3 up.size
              have HBa : Hid (Below W0.heap.size W0 (wr.alloc (.cells #[.int .i64 a, .int .i64 b, .int .i64 x, .int .i64 y] 53))) := HBl.out.alloc HBl.out.size _
              have HBb : Hid (Below w.heap.size w (wr.alloc (.cells #[.int .i64 a, .int .i64 b, .int .i64 x, .int .i64 y] 53))) := up.alloc up.size _
              clear em up HAl hlt'
              by_cases e1 : a < 0
              · have HV := hid ((HMV.out false (by unfold mvOk; simp; omega)).2 rfl)
                go_wp2
                go_ret2
                exact readR_no HV.out rfl HBb.out
              · by_cases e2 : (P : Int) ≤ a
                · have HV := hid ((HMV.out false (by unfold mvOk; rw [← HP.out]; simp; omega)).2 rfl)
                  go_wp2
                  go_ret2
                  exact readR_no HV.out rfl HBb.out
                · by_cases e3 : b < 0
                  · have HV := hid ((HMV.out false (by unfold mvOk; simp; omega)).2 rfl)
                    go_wp2
                    go_ret2
                    exact readR_no HV.out rfl HBb.out
                  · by_cases e4 : (P : Int) ≤ b
                    · have HV := hid ((HMV.out false (by unfold mvOk; rw [← HP.out]; simp; omega)).2 rfl)
                      go_wp2
                      go_ret2
                      exact readR_no HV.out rfl HBb.out
                    · have cs := fun w => hid (small_any x y w q3 q4)
                      cases hsm : (within5 x && within5 y)
                      · have HV := hid ((HMV.out false (by unfold mvOk; simp only [Bool.and_assoc]; rw [hsm, Bool.and_false])).2 rfl)
                        rw [hsm] at cs
                        clear hsm
                        go_wp2_with (first | (go_at_call 67; refine ((cs _).out).mono ?_; rintro e w4 ⟨rfl, hb4⟩; have HB4 := hid hb4; clear hb4) | fail)
                        go_ret2
                        exact readR_no HV.out rfl (HBb.out.trans (HB4.out.mono HBb.out.size))
                      · have HV := hid ((HMV.out true (by unfold mvOk; simp only [Bool.and_assoc]; rw [hsm, ← HP.out]; simp; omega)).1)
                        rw [hsm] at cs
                        clear hsm
                        go_wp2_with (first | (go_at_call 67; refine ((cs _).out).mono ?_; rintro e w4 ⟨rfl, hb4⟩; have HB4 := hid hb4; clear hb4) | fail)
                        go_roundw
                        case rel => exact ⟨i + 1, by go_num, by omega, HV, HBa.out.trans (HB4.out.mono HBa.out.size)⟩
                        case measure => simp [intOf]; omega
            · obtain rfl : i = M := by omega
              have HMA : Hid (o.moves.all (mvOk o.P) = true) := by
                have := HAl.out
                rw [HM.out, List.take_of_length_le (Nat.le_refl _)] at this
                exact this
              have d2 : wr.cell? ⟨w.heap.size, 2, none⟩ = some (.slice a3 J c3) := (HBl.out.cell (p := ⟨w.heap.size, 2, none⟩) (by rw [hsz0]; exact Nat.lt_succ_self _)).trans (cells3_of HX0.out).2.2
              clear HAl
              go_wp2
              go_loopw [110] (fun v wr => ∃ k : Nat, v = .int .i64 k ∧ k ≤ J ∧ Hid ((o.jolts.take k).all jlOk = true) ∧ Hid (Below W0.heap.size W0 wr)) (fun v _ => J - (intOf v).toNat)
              case atStart => exact ⟨0, rfl, Nat.zero_le _, by rw [List.take_zero]; rfl, HBl⟩
              case round =>
                clear HBl
                obtain ⟨k, rfl, hk, HAl, HBl⟩ := hrel
                by_cases hlt : k < J
                · have hlt' : k < o.jolts.length := by rw [← HJ.out]; exact hlt
                  obtain ⟨g3, rfl, n0, n1⟩ := HC3.out k hlt'
                  have hjl := HN.out.jl _ (List.getElem_mem hlt')
                  have em : jlAt o.jolts k = o.jolts[k] := by simp [jlAt, hlt']
                  have lt3 := World.block_lt_of_cell? w _ n0
                  have up := HB0.out.trans (HBl.out.mono HB0.out.size)
                  have HMV : Hid (∀ b, jlOk o.jolts[k] = b → (o.jolts.take (k + 1)).all jlOk = b ∧ (b = false → o.valid = false)) := by
                    intro b hb
                    have e : (o.jolts.take (k + 1)).all jlOk = b := by rw [all_take_succ _ _ _ hlt', HAl.out, hb]; rfl
                    refine ⟨e, ?_⟩
                    rintro rfl
                    exact valid_jl (all_of_take _ _ _ e)
                  rw [em] at n0 n1
                  generalize o.jolts[k] = m at *
                  obtain ⟨x, y⟩ := m
                  simp only at n0 n1 hjl
                  obtain ⟨q3, q4⟩ := hjl
                  replace n0 := (up.cell lt3).trans n0
                  replace n1 := (up.cell (p := ⟨g3, k * 2 + 1, none⟩) lt3).trans n1
                  have hlw : g3 < wr.heap.size := Nat.lt_of_lt_of_le lt3 up.size
                  have HBa : Hid (Below W0.heap.size W0 (wr.alloc (.cells #[.int .i64 x, .int .i64 y] 55))) := HBl.out.alloc HBl.out.size _
                  have HBb : Hid (Below w.heap.size w (wr.alloc (.cells #[.int .i64 x, .int .i64 y] 55))) := up.alloc up.size _
                  clear em up HAl hlt'
                  have cs := fun w => hid (small_any x y w q3 q4)
                  cases hsm : (within5 x && within5 y)
                  · have HV := hid ((HMV.out false hsm).2 rfl)
                    rw [hsm] at cs
                    clear hsm
                    go_wp2_with (first | (go_at_call 67; refine ((cs _).out).mono ?_; rintro e w4 ⟨rfl, hb4⟩; have HB4 := hid hb4; clear hb4) | fail)
                    go_ret2
                    exact readR_no HV.out rfl (HBb.out.trans (HB4.out.mono HBb.out.size))
                  · have HV := hid ((HMV.out true hsm).1)
                    rw [hsm] at cs
                    clear hsm
                    go_wp2_with (first | (go_at_call 67; refine ((cs _).out).mono ?_; rintro e w4 ⟨rfl, hb4⟩; have HB4 := hid hb4; clear hb4) | fail)
                    go_roundw
                    case rel => exact ⟨k + 1, by go_num, by omega, HV, HBa.out.trans (HB4.out.mono HBa.out.size)⟩
                    case measure => simp [intOf]; omega
                · obtain rfl : k = J := by omega
                  have HJA : Hid (o.jolts.all jlOk = true) := by
                    have := HAl.out
                    rw [HJ.out, List.take_of_length_le (Nat.le_refl _)] at this
                    exact this
                  have hq := cells3_of ((HBl.out.block w.heap.size (by rw [hsz0]; exact Nat.lt_succ_self _)).trans HX0.out)
                  obtain ⟨x0, x1, x2⟩ := hq
                  clear HAl
                  go_wp2
                  go_ret2
                  have hup := HB0.out.trans (HBl.out.mono HB0.out.size)
                  refine ⟨hup.alloc hup.size _, ?_⟩
                  rw [if_pos (valid_true HA.out (by rw [← HR.out]; exact ⟨r1, r2⟩) (by rw [← HC.out]; exact ⟨s1, s2⟩) (by rw [← HP.out, ← HR.out, ← HC.out]; exact HF.out) HMA.out HJA.out)]
                  refine ⟨_, rfl, ?_⟩
                  have hov := isOv_below HO.out (hup.alloc hup.size (.cells #[.slice (some ⟨g1, 0, none⟩) P c1, .slice a2 i c2, .slice a3 k c3, .int .i64 R, .int .i64 s0.size] 102))
                  rw [show o.safe.length = P from HP.out.symm, show o.moves.length = i from HM.out.symm, show o.jolts.length = k from HJ.out.symm] at hov
                  have hc5 := cells5_of (heap_alloc_new wr (.cells #[.slice (some ⟨g1, 0, none⟩) P c1, .slice a2 i c2, .slice a3 k c3, .int .i64 R, .int .i64 s0.size] 102))
                  obtain ⟨y0, y1, y2, y3, y4⟩ := hc5
                  exact ⟨hov, y0, y1, y2, by rw [← HR.out]; exact y3, by rw [← HC.out]; exact y4⟩
      · have HV : Hid (o.valid = false) := valid_C (by rw [← HC.out]; exact hD)
        go_enter Tryd.func51, Tryd.ntmps51
        go_wp2
        all_goals (go_ret2; exact readR_no HV.out rfl HB0.out)
    · have HV : Hid (o.valid = false) := valid_R (by rw [← HR.out]; exact hB)
      go_enter Tryd.func51, Tryd.ntmps51
      go_wp2
      all_goals (go_ret2; exact readR_no HV.out rfl HB0.out)
  · have HV := hid (valid_lens hA)
    unfold Ov.lens at hA
    rw [← hP, ← hM, ← hJ] at hA
    have hPl : o.safe.length = P := hP.symm
    rw [hPl, ← hM, ← hJ]
    rw [hPl, ← hM, ← hJ] at HB0
    clear hP hM hJ hPl
    go_enter Tryd.func51, Tryd.ntmps51
    go_wp2
    all_goals (go_ret2; exact readR_no HV.out rfl HB0.out)
end Go.Proofs.YtjonbhimbhidpaaDoor
