/-
  The runs of a rhythm (7).
-/
import Derived.Test.YtlhmidecjiihcaaDoorRhyA
import Derived.Lib.OthersKept
namespace Go.Proofs.YtlhmidecjiihcaaDoor
open Go.RowKit

/-- the cells of a list of runs -/
def rcells (xs : List Rn) : List Value := xs.flatMap fun r => [.int .i64 r.1, .int .i64 r.2.1, .int .i64 r.2.2]
theorem rcells_append (xs : List Rn) (r : Rn) : rcells (xs ++ [r]) = rcells xs ++ [.int .i64 r.1, .int .i64 r.2.1, .int .i64 r.2.2] := by simp [rcells]
theorem rcells_length (xs : List Rn) : (rcells xs).length = xs.length * 3 := by
  induction xs with
  | nil => rfl
  | cons a xs ih => simp only [rcells, List.flatMap_cons, List.length_append, List.length_cons, List.length_nil] at *; omega
theorem rcells_at (xs : List Rn) : ∀ i, i < xs.length → (rcells xs)[i * 3]? = some (.int .i64 (rx xs i).1) ∧ (rcells xs)[i * 3 + 1]? = some (.int .i64 (rx xs i).2.1) ∧ (rcells xs)[i * 3 + 2]? = some (.int .i64 (rx xs i).2.2) := by
  induction xs with
  | nil => intro i h; simp at h
  | cons a xs ih =>
    intro i h
    cases i with
    | zero => simp [rcells, rx]
    | succ i =>
      have := ih i (by simpa using h)
      have e1 : (i + 1) * 3 = i * 3 + 3 := by omega
      rw [e1]
      have h2 : rx (a :: xs) (i + 1) = rx xs i := by simp [rx]
      rw [h2]
      simpa [rcells] using this

def OwnR (w : World) (B : Nat) (v : Value) (xs : List Rn) : Prop := w.ownsRow B 37 3 v xs.length (rcells xs)
/-- the value v reads as the list xs of runs -/
def IsRuns (w : World) (v : Value) (xs : List Rn) : Prop :=
  ∃ a c, v = .slice a xs.length c ∧ xs.length ≤ maxLen ∧ ∀ i, i < xs.length → ∃ g, a = some ⟨g, 0, none⟩ ∧
    w.cell? ⟨g, i * 3, none⟩ = some (.int .i64 (rx xs i).1) ∧ w.cell? ⟨g, i * 3 + 1, none⟩ = some (.int .i64 (rx xs i).2.1) ∧ w.cell? ⟨g, i * 3 + 2, none⟩ = some (.int .i64 (rx xs i).2.2)
theorem ownR_nil (w : World) (B : Nat) : OwnR w B (.slice none 0 0) [] := World.ownsRow_nil _ _ _ _
theorem ownR_made0 (w : World) (B : Nat) (hB : B ≤ w.heap.size) : OwnR (w.alloc (.cells #[] 37)) B (.slice (some ⟨w.heap.size, 0, none⟩) 0 0) [] :=
  World.ownsRow_made w #[] 0 hB (by decide) rfl
theorem ownR_below {w w' : World} {B : Nat} {v : Value} {xs : List Rn} (h : OwnR w B v xs) (hb : Below w.heap.size w w') : OwnR w' B v xs := by
  have hlt := h.lt
  obtain ⟨h1, h2⟩ := h
  refine ⟨h1, h2.imp_right ?_⟩
  rintro ⟨g, cap, cur, rfl, hB, hh, r⟩
  exact ⟨g, cap, cur, rfl, hB, by rw [hb.block g (hlt g rfl).2]; exact hh, r⟩
theorem ownR_mono {w : World} {B B' : Nat} {v : Value} {xs : List Rn} (h : OwnR w B v xs) (hb : B' ≤ B) : OwnR w B' v xs := by
  obtain ⟨h1, h2⟩ := h
  refine ⟨h1, h2.imp_right ?_⟩
  rintro ⟨g, cap, cur, rfl, hB, r⟩
  exact ⟨g, cap, cur, rfl, by omega, r⟩
theorem ownR_isRuns {w : World} {B : Nat} {v : Value} {xs : List Rn} (h : OwnR w B v xs) : IsRuns w v xs := by
  obtain ⟨h1, h2 | ⟨g, cap, cur, rfl, hB, hh, hn, hm, hs, ht⟩⟩ := h
  · obtain ⟨rfl, h0⟩ := h2
    refine ⟨none, 0, by rw [h0], by omega, fun i hi => by omega⟩
  · refine ⟨_, cap, rfl, by omega, fun i hi => ⟨g, rfl, ?_⟩⟩
    obtain ⟨c0, c1, c2⟩ := rcells_at xs i hi
    have hc : ∀ j, j < xs.length * 3 → w.cell? ⟨g, j, none⟩ = (rcells xs)[j]? := by
      intro j hj
      rw [← ht, List.getElem?_take, if_pos hj, World.cell?, hh]
      simp
    exact ⟨by rw [hc _ (by omega)]; exact c0, by rw [hc _ (by omega)]; exact c1, by rw [hc _ (by omega)]; exact c2⟩
theorem isRuns_below {w w' : World} {v : Value} {xs : List Rn} (h : IsRuns w v xs) (hb : Below w.heap.size w w') : IsRuns w' v xs := by
  obtain ⟨a, c, rfl, hl, hc⟩ := h
  refine ⟨a, c, rfl, hl, fun i hi => ?_⟩
  obtain ⟨g, ha, c0, c1, c2⟩ := hc i hi
  have hlt := World.block_lt_of_cell? w _ c0
  exact ⟨g, ha, (hb.cell (p := ⟨g, i * 3, none⟩) hlt).trans c0, (hb.cell (p := ⟨g, i * 3 + 1, none⟩) hlt).trans c1, (hb.cell (p := ⟨g, i * 3 + 2, none⟩) hlt).trans c2⟩

theorem info37 : (Tryd.prog.info? 37).map (fun i => (i.zero, i.size, i.bytes)) = some (some (.agg #[.int .i64 0, .int .i64 0, .int .i64 0]), 3, 24) := by kernel_rfl
/-- append of one run -/
theorem wpl_app_run {ops : Array Oper} {rest : List Oper} {o : Oper} {a : Act} {Q : Exit → Act → World → Prop} {W : World} (x1 x2 x3 : Int) (r : Rn) (hr1 : x1 = r.1) (hr2 : x2 = r.2.1) (hr3 : x3 = r.2.2)
    (s x : Operand) (v : Value) (B : Nat) (xs : List Rn)
    (hgd : o.guard = none) (ho : o.op = .call { callee := .builtin .append, args := #[s, x], argTypes := #[33, 33] })
    (hs : a.eval s = v) (hx : a.eval x = .slice (some ⟨W.heap.size, 0, none⟩) 1 1)
    (hown : OwnR W B v xs) (hlen : xs.length < 100000000) (hB : B ≤ W.heap.size)
    (h : ∀ v' w', OwnR w' B v' (xs ++ [r]) → AppTo (W.alloc (.cells #[.int .i64 x1, .int .i64 x2, .int .i64 x3] 37)) v w' v' → wpList Tryd.prog ops Q rest (a.put o.dst v') w') :
    wpList Tryd.prog ops Q (o :: rest) a (W.alloc (.cells #[.int .i64 x1, .int .i64 x2, .int .i64 x3] 37)) := by
  subst hr1 hr2 hr3
  exact wpl_appn hgd s x 33 37 ho (.agg #[.int .i64 0, .int .i64 0, .int .i64 0]) 3 24 info37 rfl (by decide) Tryd.underlying33 v B xs.length (rcells xs) hs hown [.int .i64 r.1, .int .i64 r.2.1, .int .i64 r.2.2] rfl (by simp [Value.oneCell']) hx
    (by omega) (by unfold maxLen; omega) hB
    (fun v' w' h1 h2 => h v' w' (by unfold OwnR; rw [rcells_append, List.length_append]; exact h1) h2)

/-- a string's iterator moves on by a letter -/
theorem iter_next {P : Program} {w : World} {k pos : Nat} {s : ByteArray} (hk : w.heap[k]? = some (.stringIter s pos)) (h : pos < s.size) (ha : (s.data.toList.all letter) = true) :
    ∃ w2 c, (∀ ty, (Instr.next (.pointer (some ⟨k, 0, none⟩)) true ty).run P w = .ok (.tuple #[.bool true, .int .i64 pos, .int .i32 c]) w2) ∧
      w2.heap[k]? = some (.stringIter s (pos + 1)) ∧ (∀ j, j ≠ k → w2.heap[j]? = w.heap[j]?) ∧ Below k w w2 ∧ w2.heap.size = w.heap.size := by
  have hl : letter (s[pos]'h) = true := by
    rw [List.all_eq_true] at ha
    exact ha _ (by show s.data[pos] ∈ _; exact Array.getElem_mem_toList (xs := s.data) h)
  have h128 : (s[pos]'h).toNat < 128 := by
    unfold letter at hl
    simp at hl
    omega
  exact ⟨_, _, fun ty => Lib.run_next_ascii_at w k s pos ty hk h h128, Lib.iterAt_heap w k s pos (pos + 1) hk, fun j hj => Lib.iterAt_other w k j s (pos + 1) hj,
    Lib.below_iterAt (Below.refl _ _) (Nat.le_refl _) s (pos + 1), Lib.iterAt_size w k s (pos + 1)⟩
theorem ownR_other {w w2 : World} {B k : Nat} {v : Value} {xs : List Rn} (h : OwnR w B v xs) (hk : k < B) (ho : ∀ j, j ≠ k → w2.heap[j]? = w.heap[j]?) : OwnR w2 B v xs := by
  obtain ⟨h1, h2⟩ := h
  refine ⟨h1, h2.imp_right ?_⟩
  rintro ⟨g, cap, cur, rfl, hB, hh, r⟩
  exact ⟨g, cap, cur, rfl, hB, by rw [ho g (by omega)]; exact hh, r⟩

theorem part_eq (s : ByteArray) (a b : Nat) : (s.extract a b).data.toList = part s.data.toList a b := Lib.extract_data s a b
theorem extract_size (s : ByteArray) (a b : Nat) (h : b ≤ s.size) : (s.extract a b).size = b - a := by
  rw [ByteArray.size_extract]; omega

/-- the least period of a part -/
theorem least_part (s : ByteArray) (i j : Nat) (w : World) (hs : s.size ≤ 1000) (hij : i < j) (hj : j ≤ s.size) :
    Calls Tryd.prog 22 #[.string (s.extract i j)] w fun e w' => e = .returned (.int .i64 (lst s.data.toList i j)) ∧ ∃ n, w' = w.drewN n := by
  have hz := extract_size s i j hj
  have := least_any (s.extract i j) w (by omega) (by omega)
  rw [part_eq] at this
  exact this
theorem periodic_part (s : ByteArray) (i j : Nat) (q : Int) (p : Nat) (w : World) (hs : s.size ≤ 1000) (hq : q = p) (hp : p ≤ j - i) (hj : j ≤ s.size) :
    Calls Tryd.prog 21 #[.string (s.extract i j), .int .i64 q] w fun e w' => e = .returned (.bool (period (part s.data.toList i j) p)) ∧ ∃ n, w' = w.drewN n := by
  have hz := extract_size s i j hj
  have := periodic_at (s.extract i j) q p w hq (by omega) (by omega)
  rw [part_eq] at this
  exact this
theorem lst_le (l : Str) (i j : Nat) (hij : i < j) (hj : j ≤ l.length) : 1 ≤ lst l i j ∧ lst l i j ≤ j - i := by
  have := least_spec (part l i j) (by rw [part_length _ _ _ hj]; omega)
  rw [part_length _ _ _ hj] at this
  exact ⟨this.1, this.2.1⟩

set_option maxHeartbeats 1000000 in
set_option maxRecDepth 100000 in
theorem runs_ok (s : ByteArray) (w : World) (h0 : 1 ≤ s.size) (hs2 : s.size ≤ 200) (ha : s.data.toList.all ([97, 98, 99, 100].contains ·) = true) (hal : s.data.toList.all letter = true) :
    Calls Tryd.prog 7 #[.string s] w fun e w' => ∃ v, e = .returned (.tuple #[v, .int .i64 0]) ∧ OwnR w' w.heap.size v (runs s.data.toList) ∧ Below w.heap.size w w' := by
  have hck := check_any s w h0 hs2 ha
  have HA := hid hal
  have hs : s.size ≤ 1000 := by omega
  clear ha hal
  go_enter Tryd.func7, Tryd.ntmps7
  go_wp2_with fail
  refine hck.mono ?_
  rintro e w1 ⟨rfl, hb⟩
  have hbs := hb.size
  go_wp2_with fail
  go_loopg [5] (s.size + 1) (fun g v wr => ∃ i : Nat, i ≤ s.size ∧ g = s.size + 1 - i ∧ wr.heap[w1.heap.size]? = some (.stringIter s i) ∧ OwnR wr (w1.heap.size + 1) v (runsTo s.data.toList i) ∧ Below w.heap.size w wr)
  case atStart => exact ⟨0, Nat.zero_le _, by omega, World.iter_heap w1 s 0, ownR_nil _ _, hb.alloc hbs _⟩
  case round =>
    obtain ⟨i, hi, hgk, hit, hown, hbel⟩ := hrel
    have HGK := hid hgk; clear hgk
    have hbz := hbel.size
    have hib : w1.heap.size < wr.heap.size := (Array.getElem?_eq_some_iff.1 hit).1
    have Hown := hid hown; clear hown
    have Hbel := hid hbel; clear hbel
    by_cases hlt : i < s.size
    · obtain ⟨w2, c, hnx, hit2, hoth, hb2, hsz2⟩ := iter_next hit hlt HA.out (P := Tryd.prog)
      have Hit2 := hid hit2
      have Hoth := hid hoth
      have Hb2 := hid hb2
      clear hit hit2 hoth hb2 hsz2
      go_wp2_with fail
      clear hnx
      go_loopg [5, 7] (s.size - 1 - i) (fun g v j wr2 => ∃ d : Nat, d ≤ s.size - 1 - i ∧ g = s.size - 1 - i - d ∧ j = .int .i64 ((i : Int) + 2 + d) ∧ OwnR wr2 (w1.heap.size + 1) v (runsTo s.data.toList i ++ runsIn s.data.toList i d) ∧ wr2.heap[w1.heap.size]? = some (.stringIter s (i + 1)) ∧ Below w.heap.size w wr2)
      case atStart => exact ⟨0, Nat.zero_le _, by omega, by go_num, by simpa [runsIn] using ownR_other Hown.out (by omega) Hoth.out, Hit2.out, Hbel.out.trans (Hb2.out.mono (by omega))⟩
      case round =>
        obtain ⟨d, hd, hgd, rfl, hown2, hit3, hbel2⟩ := hrel
        have HGD := hid hgd; clear hgd
        have hbz2 := hbel2.size
        have hib2 : w1.heap.size < wr.heap.size := (Array.getElem?_eq_some_iff.1 hit3).1
        have Hown2 := hid hown2; clear hown2
        have Hbel2 := hid hbel2; clear hbel2
        have Hit3 := hid hit3; clear hit3
        by_cases hdl : d < s.size - 1 - i
        · have hL := lst_le s.data.toList i (i + 2 + d) (by omega) (by rw [data_size]; omega)
          have c0 := fun w => least_part s i (i + 2 + d) w hs (by omega) (by omega)
          have hrun : isRun s.data.toList i (i + 2 + d) = (decide (2 * lst s.data.toList i (i + 2 + d) ≤ d + 2) && !(decide (0 < i) && period (part s.data.toList (i - 1) (i + 2 + d)) (lst s.data.toList i (i + 2 + d))) && !(decide (i + 2 + d < s.size) && period (part s.data.toList i (i + 2 + d + 1)) (lst s.data.toList i (i + 2 + d)))) := by
            unfold isRun lft rgt
            rw [show i + 2 + d - i = d + 2 by omega]
            rfl
          have c1 := fun w (h : 0 < i) => periodic_part s (i - 1) (i + 2 + d) _ (lst s.data.toList i (i + 2 + d)) w hs rfl (by omega) (by omega)
          have c2 := fun w (h : i + 2 + d < s.size) => periodic_part s i (i + 2 + d + 1) _ (lst s.data.toList i (i + 2 + d)) w hs rfl (by omega) (by omega)
          have hadd : Hid ((i, i + 2 + d, lst s.data.toList i (i + 2 + d)) = (i, i + 2 + d, lst s.data.toList i (i + 2 + d))) := rfl
          have hyes : Hid (isRun s.data.toList i (i + 2 + d) = true → runsIn s.data.toList i (d + 1) = runsIn s.data.toList i d ++ [(i, i + 2 + d, lst s.data.toList i (i + 2 + d))]) := runsIn_yes _ _ _
          have hnoo : Hid (isRun s.data.toList i (i + 2 + d) = false → runsIn s.data.toList i (d + 1) = runsIn s.data.toList i d) := runsIn_no _ _ _
          have hlen : Hid ((runsTo s.data.toList i ++ runsIn s.data.toList i d).length < 100000000) := by
            have e1 := runsTo_length s.data.toList i
            have e2 := runsIn_length s.data.toList i d
            rw [data_size] at e1
            have e3 : i * s.size ≤ 1000 * s.size := Nat.mul_le_mul_right _ (by omega)
            unfold Hid
            rw [List.length_append]
            omega
          generalize lst s.data.toList i (i + 2 + d) = p at *
          generalize period (part s.data.toList (i - 1) (i + 2 + d)) p = b1 at *
          generalize period (part s.data.toList i (i + 2 + d + 1)) p = b2 at *
          obtain ⟨hp1, hp2⟩ := hL
          have hp3 : p ≤ d + 2 := by omega
          clear hp2
          have C0 := hid c0
          have C1 := hid c1
          have C2 := hid c2
          have HR := hid hrun
          clear c0 c1 c2 hrun
          have Hst := hid (show ((i : Int) + 2 + d + 1) = (i : Int) + 2 + ((d + 1 : Nat) : Int) by omega)
          go_wp2_with fail
          refine (C0.out _).mono ?_
          rintro e w3 ⟨rfl, n3, rfl⟩
          by_cases h1 : 0 < i
          · by_cases h2 : i + 2 + d < s.size
            · go_wp2_with fail
              refine (C1.out _ h1).mono ?_
              rintro e w4 ⟨rfl, n4, rfl⟩
              go_wp2_with fail
              refine (C2.out _ h2).mono ?_
              rintro e w5 ⟨rfl, n5, rfl⟩
              by_cases hw : 2 * p ≤ d + 2
              · have hwd : decide (2 * (p : Int) ≤ (i : Int) + 2 + d - i) = true := by simp; omega
                cases b1
                · cases b2
                  · go_wp2_with (at_builtin; refine wpl_app_run _ _ _ (i, i + 2 + d, p) (by rfl) (by rfl) (by rfl) (.tmp 74) (.tmp 79) u5 (w1.heap.size + 1) (runsTo s.data.toList i ++ runsIn s.data.toList i d) (by rfl) (by rfl) (by rfl) (by rfl) (by exact Hown2.out) (by exact hlen.out) (by exact hib2) ?_; intro v' w' hown' hgrow)
                    have Hown' := hid hown'
                    have Hg := hid hgrow
                    clear hown' hgrow
                    go_wp2_with fail
                    go_roundg (s.size - 1 - i - (d + 1))
                    case measure => have := HGD.out; omega
                    case rel =>
                      refine ⟨d + 1, by omega, rfl, by rw [Hst.out], by rw [hyes.out (by rw [HR.out]; simp [hw, h1, h2]), ← List.append_assoc]; exact Hown'.out, ?_, (below_drewN_r Hbel2.out _).trans ((Below.refl _ _).alloc (by exact hbz2) _ |>.trans (below_app Hg.out (by simp; omega) (fun k hk => by have := (World.ownsRow.lt Hown2.out k hk).1; omega)))⟩
                      rw [Hg.out.grown.block _ (by simp; omega) (fun e => by have := (World.ownsRow.lt Hown2.out _ e.symm).1; omega), heap_alloc_old _ _ (by exact hib2)]
                      exact Hit3.out
                  · go_wp2_with fail
                    go_roundg (s.size - 1 - i - (d + 1))
                    case measure => have := HGD.out; omega
                    case rel => exact ⟨d + 1, by omega, rfl, by rw [Hst.out], by rw [hnoo.out (by rw [HR.out]; simp [hw, h1, h2])]; exact Hown2.out, Hit3.out, below_drewN_r Hbel2.out _⟩
                · go_wp2_with fail
                  go_roundg (s.size - 1 - i - (d + 1))
                  case measure => have := HGD.out; omega
                  case rel => exact ⟨d + 1, by omega, rfl, by rw [Hst.out], by rw [hnoo.out (by rw [HR.out]; simp [hw, h1])]; exact Hown2.out, Hit3.out, below_drewN_r Hbel2.out _⟩
              · have hwd : decide (2 * (p : Int) ≤ (i : Int) + 2 + d - i) = false := by simp; omega
                go_wp2_with fail
                go_roundg (s.size - 1 - i - (d + 1))
                case measure => have := HGD.out; omega
                case rel => exact ⟨d + 1, by omega, rfl, by rw [Hst.out], by rw [hnoo.out (by rw [HR.out]; simp [hw])]; exact Hown2.out, Hit3.out, below_drewN_r Hbel2.out _⟩
            · go_wp2_with fail
              refine (C1.out _ h1).mono ?_
              rintro e w4 ⟨rfl, n4, rfl⟩
              by_cases hw : 2 * p ≤ d + 2
              · have hwd : decide (2 * (p : Int) ≤ (i : Int) + 2 + d - i) = true := by simp; omega
                cases b1
                · go_wp2_with (at_builtin; refine wpl_app_run _ _ _ (i, i + 2 + d, p) (by rfl) (by rfl) (by rfl) (.tmp 74) (.tmp 79) u5 (w1.heap.size + 1) (runsTo s.data.toList i ++ runsIn s.data.toList i d) (by rfl) (by rfl) (by rfl) (by rfl) (by exact Hown2.out) (by exact hlen.out) (by exact hib2) ?_; intro v' w' hown' hgrow)
                  have Hown' := hid hown'
                  have Hg := hid hgrow
                  clear hown' hgrow
                  go_wp2_with fail
                  go_roundg (s.size - 1 - i - (d + 1))
                  case measure => have := HGD.out; omega
                  case rel =>
                    refine ⟨d + 1, by omega, rfl, by rw [Hst.out], by rw [hyes.out (by rw [HR.out]; simp [hw, h1, h2]), ← List.append_assoc]; exact Hown'.out, ?_, (below_drewN_r Hbel2.out _).trans ((Below.refl _ _).alloc (by exact hbz2) _ |>.trans (below_app Hg.out (by simp; omega) (fun k hk => by have := (World.ownsRow.lt Hown2.out k hk).1; omega)))⟩
                    rw [Hg.out.grown.block _ (by simp; omega) (fun e => by have := (World.ownsRow.lt Hown2.out _ e.symm).1; omega), heap_alloc_old _ _ (by exact hib2)]
                    exact Hit3.out
                · go_wp2_with fail
                  go_roundg (s.size - 1 - i - (d + 1))
                  case measure => have := HGD.out; omega
                  case rel => exact ⟨d + 1, by omega, rfl, by rw [Hst.out], by rw [hnoo.out (by rw [HR.out]; simp [hw, h1])]; exact Hown2.out, Hit3.out, below_drewN_r Hbel2.out _⟩
              · have hwd : decide (2 * (p : Int) ≤ (i : Int) + 2 + d - i) = false := by simp; omega
                go_wp2_with fail
                go_roundg (s.size - 1 - i - (d + 1))
                case measure => have := HGD.out; omega
                case rel => exact ⟨d + 1, by omega, rfl, by rw [Hst.out], by rw [hnoo.out (by rw [HR.out]; simp [hw])]; exact Hown2.out, Hit3.out, below_drewN_r Hbel2.out _⟩
          · by_cases h2 : i + 2 + d < s.size
            · go_wp2_with fail
              refine (C2.out _ h2).mono ?_
              rintro e w5 ⟨rfl, n5, rfl⟩
              by_cases hw : 2 * p ≤ d + 2
              · have hwd : decide (2 * (p : Int) ≤ (i : Int) + 2 + d - i) = true := by simp; omega
                cases b2
                · go_wp2_with (at_builtin; refine wpl_app_run _ _ _ (i, i + 2 + d, p) (by rfl) (by rfl) (by rfl) (.tmp 74) (.tmp 79) u5 (w1.heap.size + 1) (runsTo s.data.toList i ++ runsIn s.data.toList i d) (by rfl) (by rfl) (by rfl) (by rfl) (by exact Hown2.out) (by exact hlen.out) (by exact hib2) ?_; intro v' w' hown' hgrow)
                  have Hown' := hid hown'
                  have Hg := hid hgrow
                  clear hown' hgrow
                  go_wp2_with fail
                  go_roundg (s.size - 1 - i - (d + 1))
                  case measure => have := HGD.out; omega
                  case rel =>
                    refine ⟨d + 1, by omega, rfl, by rw [Hst.out], by rw [hyes.out (by rw [HR.out]; simp [hw, h1, h2]), ← List.append_assoc]; exact Hown'.out, ?_, (below_drewN_r Hbel2.out _).trans ((Below.refl _ _).alloc (by exact hbz2) _ |>.trans (below_app Hg.out (by simp; omega) (fun k hk => by have := (World.ownsRow.lt Hown2.out k hk).1; omega)))⟩
                    rw [Hg.out.grown.block _ (by simp; omega) (fun e => by have := (World.ownsRow.lt Hown2.out _ e.symm).1; omega), heap_alloc_old _ _ (by exact hib2)]
                    exact Hit3.out
                · go_wp2_with fail
                  go_roundg (s.size - 1 - i - (d + 1))
                  case measure => have := HGD.out; omega
                  case rel => exact ⟨d + 1, by omega, rfl, by rw [Hst.out], by rw [hnoo.out (by rw [HR.out]; simp [hw, h1, h2])]; exact Hown2.out, Hit3.out, below_drewN_r Hbel2.out _⟩
              · have hwd : decide (2 * (p : Int) ≤ (i : Int) + 2 + d - i) = false := by simp; omega
                go_wp2_with fail
                go_roundg (s.size - 1 - i - (d + 1))
                case measure => have := HGD.out; omega
                case rel => exact ⟨d + 1, by omega, rfl, by rw [Hst.out], by rw [hnoo.out (by rw [HR.out]; simp [hw])]; exact Hown2.out, Hit3.out, below_drewN_r Hbel2.out _⟩
            · by_cases hw : 2 * p ≤ d + 2
              · have hwd : decide (2 * (p : Int) ≤ (i : Int) + 2 + d - i) = true := by simp; omega
                go_wp2_with (at_builtin; refine wpl_app_run _ _ _ (i, i + 2 + d, p) (by rfl) (by rfl) (by rfl) (.tmp 74) (.tmp 79) u5 (w1.heap.size + 1) (runsTo s.data.toList i ++ runsIn s.data.toList i d) (by rfl) (by rfl) (by rfl) (by rfl) (by exact Hown2.out) (by exact hlen.out) (by exact hib2) ?_; intro v' w' hown' hgrow)
                have Hown' := hid hown'
                have Hg := hid hgrow
                clear hown' hgrow
                go_wp2_with fail
                go_roundg (s.size - 1 - i - (d + 1))
                case measure => have := HGD.out; omega
                case rel =>
                  refine ⟨d + 1, by omega, rfl, by rw [Hst.out], by rw [hyes.out (by rw [HR.out]; simp [hw, h1, h2]), ← List.append_assoc]; exact Hown'.out, ?_, (below_drewN_r Hbel2.out _).trans ((Below.refl _ _).alloc (by exact hbz2) _ |>.trans (below_app Hg.out (by simp; omega) (fun k hk => by have := (World.ownsRow.lt Hown2.out k hk).1; omega)))⟩
                  rw [Hg.out.grown.block _ (by simp; omega) (fun e => by have := (World.ownsRow.lt Hown2.out _ e.symm).1; omega), heap_alloc_old _ _ (by exact hib2)]
                  exact Hit3.out
              · have hwd : decide (2 * (p : Int) ≤ (i : Int) + 2 + d - i) = false := by simp; omega
                go_wp2_with fail
                go_roundg (s.size - 1 - i - (d + 1))
                case measure => have := HGD.out; omega
                case rel => exact ⟨d + 1, by omega, rfl, by rw [Hst.out], by rw [hnoo.out (by rw [HR.out]; simp [hw])]; exact Hown2.out, Hit3.out, below_drewN_r Hbel2.out _⟩
        · have hno : ¬ (i : Int) + 2 + d ≤ s.size := by omega
          go_wp2_with fail
          go_roundg (s.size + 1 - (i + 1))
          case measure => have := HGK.out; omega
          case rel =>
            obtain rfl : d = s.size - 1 - i := by omega
            exact ⟨i + 1, by omega, rfl, Hit3.out, by rw [runsTo_succ]; exact Hown2.out, Hbel2.out⟩
    · have hnx : ∀ ty, (Instr.next (.pointer (some ⟨w1.heap.size, 0, none⟩)) true ty).run Tryd.prog wr = _ := fun ty => Lib.run_next_end_at wr w1.heap.size s i ty hit hlt
      clear hit
      go_wp2_with fail
      go_ret2
      obtain rfl : i = s.size := by omega
      exact ⟨_, rfl, ownR_mono Hown.out (by omega), Hbel.out⟩
end Go.Proofs.YtlhmidecjiihcaaDoor
