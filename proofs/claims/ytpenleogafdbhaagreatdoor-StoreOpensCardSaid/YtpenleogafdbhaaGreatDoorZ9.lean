/-
  Letters yielded.
  Maps whose keys are ints: sorted lists of pairs; in memory.
  Acts one after the other.
  A store in memory.
  Tables copied over tables.
-/
import Derived.Test.YtpenleogafdbhaaGreatDoorZ8
import Derived.RangeFuncBox
import Derived.RangeFuncLeaves
import Derived.RangeFuncNested
import Derived.RangeFuncBound
import Derived.RangeFuncCalls
import Derived.RangeFuncFrom
import Derived.Shelf.Abstract
import Derived.Shelf.RegionOpen
import Derived.WalkKit
import Derived.OwnWalkIn
import Derived.TacticsInMore
import Derived.LoopNIn
import Derived.LoopIn
import Derived.Laws.World
namespace Go.Proofs.YtpenleogafdbhaaGreatDoor
open Go.RowKit Go.Maps Go.ChangeMaps Go.WideElems Go.WideShapes Go.WideAt Go.WideMaps

attribute [local go_sem] Oper.semAt_some
def letts : List UInt8 := [61, 45]
theorem dummy_kt {A B C : World} (_ : True) (_ : True) : True := trivial
set_option maxRecDepth 100000 in
set_option maxHeartbeats 2000000 in
theorem letters_in (n : Nat) (hn : 1 ≤ n) (l : Nat) (J Jx : List UInt8 → World → Prop) (W : World) (hJ : AbidesFrom W.heap.size J)
    (hY : ∀ pre x W1, J pre W1 → pre.length < 2 → YieldAt Fence.wide (n - 1) Tryz.prog l #[bv x] W1 fun e W' => (e = .returned (.bool true) ∧ J (pre ++ [x]) W' ∧ True) ∨ (e = .returned (.bool false) ∧ Jx (pre ++ [x]) W'))
    (h0 : J [] W) :
    CallsIn Fence.wide n Tryz.prog 133 #[.func (.yield l) #[] #[]] W fun e W' => (∃ v, e = .returned v) ∧ ((∃ xs, xs = letts ∧ J xs W') ∨ (∃ pre, (fun _ => True) pre ∧ Jx pre W')) := by
  refine callsIn_of_wp Tryz.func133 rfl trivial ?_ rfl
  simp only [Tryz.ntmps133, List.size_toArray, List.length_cons, List.length_nil, Nat.reduceAdd, Nat.reduceSub, Array.replicate_succ, Array.replicate_zero, List.push_toArray, List.append_toArray, List.nil_append, List.cons_append]
  have hix0 := ix0
  have hix1 := ix1
  have HJW := hid hJ
  have HY := hid hY
  clear hJ hY
  gi_wp2
  refine ⟨trivial, (callsIn_wide.2 (kinds_any W)).mono ?_⟩
  rintro e w1 ⟨rfl, hb1⟩
  have hJ1 : Hid (J [] w1) := hid (HJW.out _ _ _ none h0 (grown_of hb1) (fun r e => by cases e))
  have HZ := hid hb1.size
  clear hb1 h0
  gi_wp2
  gi_loopw [5] (fun i wr => ∃ k : Nat, k ≤ 2 ∧ i = .int .i64 k ∧ Hid (J (letts.take k) wr)) (fun i _ => 2 - (intOf i).toNat)
  case atStart => exact ⟨0, by omega, rfl, hJ1⟩
  case round =>
    obtain ⟨k, hk, rfl, hJs⟩ := hrel
    rcases (show k = 0 ∨ k = 1 ∨ k = 2 by omega) with rfl | rfl | rfl
    · have hA : Hid (J [] (wr.alloc (.cells #[.int .u8 61, .func (.func 163) #[] #[]] 193))) := hid (HJW.out _ _ _ none hJs.out (World.grownBy_alloc _ _ _) (fun r e => by cases e))
      obtain ⟨fn, tmps, assign, body, hy, hR⟩ := HY.out [] 61 _ hA.out (by decide)
      rw [show bv 61 = .int .u8 61 from rfl] at hy
      gi_wp2
      refine hR.mono ?_
      rintro e W3 (⟨rfl, hJ3, -⟩ | ⟨rfl, hJx3⟩)
      · gi_wp2
        go_roundw
        case rel => exact ⟨1, by omega, by go_num, hJ3⟩
        case measure => simp [intOf]
      · gi_wp2
        refine bodyPost_ret (results_none rfl _ _ _) rfl ?_
        exact ⟨⟨_, rfl⟩, .inr ⟨_, trivial, hJx3⟩⟩
    · have hA : Hid (J [61] (wr.alloc (.cells #[.int .u8 45, .func (.func 164) #[] #[]] 193))) := hid (HJW.out _ _ _ none hJs.out (World.grownBy_alloc _ _ _) (fun r e => by cases e))
      obtain ⟨fn, tmps, assign, body, hy, hR⟩ := HY.out [61] 45 _ hA.out (by decide)
      rw [show bv 45 = .int .u8 45 from rfl] at hy
      gi_wp2
      refine hR.mono ?_
      rintro e W3 (⟨rfl, hJ3, -⟩ | ⟨rfl, hJx3⟩)
      · gi_wp2
        go_roundw
        case rel => exact ⟨2, by omega, by go_num, hJ3⟩
        case measure => simp [intOf]
      · gi_wp2
        refine bodyPost_ret (results_none rfl _ _ _) rfl ?_
        exact ⟨⟨_, rfl⟩, .inr ⟨_, trivial, hJx3⟩⟩
    · gi_wp2
      go_end0
      first | exact ⟨⟨_, rfl⟩, .inl ⟨_, rfl, hJs⟩⟩ | exact ⟨⟨_, rfl⟩, .inl hJs⟩
theorem letters_stops (n : Nat) (hn : 1 ≤ n) (w : World) : SeqStopsK Fence.wide n Tryz.prog 133 #[] (fun x : UInt8 => #[bv x]) (fun _ _ => True) (fun xs => xs = letts) (fun _ => True) 2 w := fun l J Jx W _ hJ _ hY h0 =>
  letters_in n hn l J Jx W hJ hY h0
/-- the marks that loops over functions have left among the deferred calls: the youngest ahead -/
def Marks (B : Nat) : Nat → World → List Deferred → Prop
  | _, _, [] => True
  | T, W, d :: ds => ∃ D, d = { target := .collected D, args := #[] } ∧ B ≤ D ∧ D < T ∧ W.heap[D]? = some (.deferred (some [])) ∧ Marks B D W ds
theorem marks_below {B : Nat} : ∀ {T : Nat} {W W' : World} {ds : List Deferred}, Marks B T W ds → Below T W W' → Marks B T W' ds
  | _, _, _, [], _, _ => trivial
  | _, _, _, _ :: _, ⟨D, h1, h2, h3, h4, h5⟩, hb => ⟨D, h1, h2, h3, by rw [hb.block D h3]; exact h4, marks_below h5 (hb.mono (Nat.le_of_lt h3))⟩
theorem marks_mono {B : Nat} : ∀ {T T' : Nat} {W : World} {ds : List Deferred}, Marks B T W ds → T ≤ T' → Marks B T' W ds
  | _, _, _, [], _, _ => trivial
  | _, _, _, _ :: _, ⟨D, h1, h2, h3, h4, h5⟩, h => ⟨D, h1, h2, Nat.lt_of_lt_of_le h3 h, h4, h5⟩
theorem putObj_below (W : World) (D : Nat) (o : Obj) (h : D < W.heap.size) {B : Nat} (hB : B ≤ D) : Below B W (W.putObj D o) :=
  (Below.refl B W).grown (grownBy_putObj' W D o) (by omega) (fun k e => by cases e; exact hB)
theorem leaves_marks {F : Fence} {n : Nat} {fn : Func} {tmps : Array Value} {R : Ending → World → Prop} {B : Nat} : ∀ (ds : List Deferred) (T : Nat) (W : World), Marks B T W ds →
    (∀ W', Below B W W' → ∃ v, (results fn tmps).run Tryz.prog W' = .ok v W' ∧ R (.returned v) W') → LeavesInM F n Tryz.prog fn tmps R ds .returning W
  | [], _, W, _, h => h W (Below.refl _ _)
  | _ :: ds, _, W, ⟨D, h1, h2, h3, h4, h5⟩, h => by
    subst h1
    have hD := (Array.getElem?_eq_some_iff.1 h4).1
    refine ⟨by simp, .inl ⟨D, _, rfl, run_takeDeferred h4, ?_⟩⟩
    exact leaves_marks ds D _ (marks_below h5 (putObj_below W D _ hD (Nat.le_refl _))) fun W' hW' => h W' ((putObj_below W D _ hD h2).trans hW')

theorem leaves_marks2 {F : Fence} {n : Nat} {fn : Func} {tmps : Array Value} {R : Ending → World → Prop} {B : Nat} : ∀ (ds : List Deferred) (T : Nat) (W : World), Marks B T W ds →
    (∀ W', Below B W W' → (∀ (g : Nat) (o : Obj), W.heap[g]? = some o → o.isCells = true → W'.heap[g]? = some o) → ∃ v, (results fn tmps).run Tryz.prog W' = .ok v W' ∧ R (.returned v) W') → LeavesInM F n Tryz.prog fn tmps R ds .returning W
  | [], _, W, _, h => h W (Below.refl _ _) (fun _ _ h _ => h)
  | _ :: ds, _, W, ⟨D, h1, h2, h3, h4, h5⟩, h => by
    subst h1
    have hD := (Array.getElem?_eq_some_iff.1 h4).1
    refine ⟨by simp, .inl ⟨D, _, rfl, run_takeDeferred h4, ?_⟩⟩
    refine leaves_marks2 ds D _ (marks_below h5 (putObj_below W D _ hD (Nat.le_refl _))) fun W' hW' hc => h W' ((putObj_below W D _ hD h2).trans hW') (fun g o hg ho => hc g o ?_ ho)
    refine ((grownBy_putObj' W D (.deferred none)).block g (Array.getElem?_eq_some_iff.1 hg).1 (fun e => ?_)).trans hg
    injection e with e
    subst e
    rw [h4] at hg
    injection hg with hg
    subst hg
    cases ho
theorem cell_one_new2 (W : World) (z : Value) (t : TypeId) : ∀ j u, [z][j]? = some u → (W.alloc (.cells #[z] t)).cell? ((⟨W.heap.size, 0, none⟩ : Addr).add j) = some u := by
  intro j u hj
  match j, hj with
  | 0, hj => exact (box1 (heap_alloc_new W (.cells #[z] t))).trans hj
theorem wplIn_app_byte {F : Fence} {n : Nat} {ops : Array Oper} {rest : List Oper} {o : Oper} {a : Act} {Q : Exit → Act → World → Prop} {W : World} {z : UInt8}
    (s x : Operand) (v : Value) (B : Nat) (k : Nat) (xs : List Value)
    (hgd : o.guard = none) (ho : o.op = .call { callee := .builtin .append, args := #[s, x], argTypes := #[59, 59] })
    (hs : a.eval s = v) (hx : a.eval x = .slice (some ⟨W.heap.size, 0, none⟩) 1 1)
    (hown : W.ownsRow B 5 1 v k xs) (hlen : k ≤ 1000000) (hB : B ≤ W.heap.size)
    (h : ∀ v' w', w'.ownsRow B 5 1 v' (k + 1) (xs ++ [bv z]) → (W.alloc (.cells #[bv z] 5)).grownBy w' v.ownBlock → wpListIn F n Tryz.prog ops Q rest (a.put o.dst v') w') :
    wpListIn F n Tryz.prog ops Q (o :: rest) a (W.alloc (.cells #[bv z] 5)) := by
  cases hi0 : Tryz.prog.info? 5 with
  | none => have := info5; rw [hi0] at this; cases this
  | some i =>
    have hi := info5
    rw [hi0] at hi
    simp only [Option.map_some, Option.some.injEq, Prod.mk.injEq] at hi
    obtain ⟨h1, h2, h3⟩ := hi
    refine wpListIn_append_own _ hgd s x 59 ho B 5 i (.int .u8 0) 1 1 Tryz.underlying59 hi0 h1 h2 h3 rfl (by decide) v k xs hs (World.ownsRow.alloc hown _)
      ⟨W.heap.size, 0, none⟩ 1 1 [bv z] hx rfl (cell_one_new2 _ _ _) (by simp [bv, Value.oneCell']) (by unfold maxLen; omega) (by omega) (by simp; omega) ?_
    intro v' w' hown' hg _
    exact h v' w' hown' hg
set_option maxRecDepth 100000 in
set_option maxHeartbeats 2000000 in
theorem app162 (w : World) : Calls Tryz.prog 162 #[.slice none 0 0, .func (.func 133) #[] #[]] w fun e w' => ∃ v', e = .returned v' ∧ OwnV w' w.heap.size 5 v' (letts.map bv) ∧ Below w.heap.size w w' := by
  refine (callsIn_wide (n := 6)).1 ?_
  refine callsIn_of_wp_marks Tryz.func162 rfl trivial ?_ rfl
  simp only [Tryz.ntmps162, List.size_toArray, List.length_cons, List.length_nil, Nat.reduceAdd, Nat.reduceSub, Array.replicate_succ, Array.replicate_zero, List.push_toArray, List.append_toArray, List.nil_append, List.cons_append]
  gi_wp2
  obtain ⟨X, hX⟩ : ∃ X, X = w.heap.size := ⟨_, rfl⟩
  obtain ⟨W0, hW0⟩ : ∃ W0, W0 = w.alloc (.cells #[.slice none 0 0] 59) := ⟨_, rfl⟩
  have hbx : Boxed W0 X 59 (.slice none 0 0) := by rw [hW0, hX]; exact Boxed.new _ _ _
  have hb0 : Below w.heap.size w W0 := by rw [hW0]; exact ba _ _
  rw [← hX, ← hW0]
  have HX := hid hX
  have HB0 := hid hb0
  have HBX := hid hbx
  have HS0 : Hid (X < W0.heap.size) := hid hbx.lt
  clear hX hW0 hb0 hbx
  refine wpIn_rangeFunc_ownF rfl (by decide) (gf := 133) (lb := #[]) rfl trivial (enters_of Tryz.func133 (by kernel_rfl) rfl)
    (letters_stops 5 (by decide) W0) (fun _ _ => trivial) (fun _ _ _ _ _ _ _ _ => trivial) (Below.refl _ _) (fun _ => rfl)
    (fun xs W => (∃ v, Boxed W X 59 v ∧ W.ownsRow w.heap.size 5 1 v xs.length (xs.map bv) ∧ True) ∧ Below w.heap.size w W)
    (fun _ _ _ => False)
    (OwnFrom.and (Own.from (holdsRow_own w.heap.size X 59 5 1 (fun xs : List UInt8 => xs.length) (fun xs => xs.map bv) (fun _ _ => True)) _) (ownFrom_below (Nat.le_refl _) HB0.out.size))
    (fun _ _ _ _ _ hs _ _ => hs)
    ⟨⟨.slice none 0 0, HBX.out, World.ownsRow_nil _ _ _ _, trivial⟩, HB0.out⟩
    (fun x => { tmps := #[.slice none 0 0, .func (.func 133) #[] #[], .pointer (some ⟨X, 0, none⟩), undef, .slice none 0 0, bv x, .func (.func 133) #[] #[], bv x, undef, undef, undef, undef, undef], defers := [] }) ?assign ?body ?done ?stop
  case assign =>
    intro l x W K hK
    gi_wp2
    exact hK
  case body =>
    rintro l pre x W ⟨⟨v, hv, hr, -⟩, hB⟩ hpl
    have c1 := hv.cell
    obtain ⟨ra, rn, rc, rfl⟩ : ∃ a n c, v = .slice a n c := by
      obtain ⟨a, c, h⟩ := row_slice hr
      exact ⟨_, _, _, h⟩
    have HV := hid hv
    have HR := hid hr
    have HB := hid hB
    clear hv hr hB
    unfold bv
    gi_wp2_with (gi_at_builtin; refine wplIn_app_byte (z := x) (.tmp 8) (.tmp 10) (.slice ra rn rc) w.heap.size pre.length (pre.map bv) (by rfl) (by rfl) (by rfl) (by rfl) HR.out (by omega) HB.out.size ?_; intro v' w4 hown4 hgrow4; obtain ⟨g', cap', rfl⟩ := ownsRow_succ hown4; obtain ⟨q1, q2, q3, q4, q5⟩ := HV.out.appended (by decide) HR.out HB.out.size (by rw [← HX.out]; exact Nat.le_refl _) hown4 hgrow4; have f1 := q1.cell; have f2 := q1.frozen; have HQ := hid q2; have HQ3 := hid q3; have HQ4 := hid q4; have HQ5 := hid q5; clear q1 q2 q3 q4 q5 hown4 hgrow4)
    refine ⟨HQ4.out, trivial, ⟨_, HQ.out, ?_, trivial⟩, HB.out.trans HQ5.out⟩
    rw [List.length_append, List.map_append]
    exact HQ3.out
  case done =>
    rintro D ys W hD rfl ⟨⟨v, hv, hr, -⟩, hB⟩ hK
    have c1 := hv.cell
    obtain ⟨ra, rn, rc, rfl⟩ : ∃ a n c, v = .slice a n c := by
      obtain ⟨a, c, h⟩ := row_slice hr
      exact ⟨_, _, _, h⟩
    have HV := hid hv
    have HR := hid hr
    have HB := hid hB
    have HK := hid hK
    have HD := hid hD
    clear hv hr hB hK
    gi_wp2
    have hM : Marks w.heap.size W.heap.size W [{ target := .collected D, args := #[] }] := ⟨D, rfl, by have := HB0.out.size; omega, (Array.getElem?_eq_some_iff.1 HK.out).1, HK.out, trivial⟩
    refine leaves_marks2 (B := w.heap.size) _ _ _ hM fun W' hW' hc => ⟨_, results_tmp rfl _ _ _, ?_⟩
    refine ⟨_, rfl, ?_, HB.out.trans hW'⟩
    obtain ⟨h1, h2⟩ := HR.out
    refine ⟨h1, h2.imp_right ?_⟩
    rintro ⟨g, cap, cur, e, hB, hh, r⟩
    exact ⟨g, cap, cur, e, hB, hc g _ hh rfl, r⟩
  case stop =>
    rintro D c pre W _ _ h _
    exact h.elim
theorem letters_ok : LettersOk := fun w => by
  have HA := hid (app162 w)
  go_enter Tryz.func132, Tryz.ntmps132
  go_wp2_with (first | (go_at_call 162; refine HA.out.mono ?_; rintro e w1 ⟨v1, rfl, ho1, hb1⟩; have HO := hid ho1; have HB := hid hb1; obtain ⟨a1, n1, c1, rfl⟩ := ownV_sh ho1; clear ho1 hb1) | fail)
  go_ret
  exact ⟨_, rfl, HO.out, HB.out⟩
end Go.Proofs.YtpenleogafdbhaaGreatDoor

namespace Go.Proofs.YtpenleogafdbhaaGreatDoor
open Go.WideShapes Go.WideAt
abbrev Mi (α : Type) := List (Int × α)
def ilt (a b : Int) : Bool := decide (a < b)
theorem ints_irrefl (a : Int) : ilt a a = false := by simp [ilt]
theorem ints_trans (a b c : Int) (h : ilt a b = true) (k : ilt b c = true) : ilt a c = true := by unfold ilt at *; rw [decide_eq_true_eq] at *; omega
theorem ints_total (a b : Int) (h : a ≠ b) : ilt a b = true ∨ ilt b a = true := by unfold ilt; rw [decide_eq_true_eq, decide_eq_true_eq]; omega
section
variable {α : Type}
/-- the value of a key -/
def iget (k : Int) : Mi α → Option α
  | [] => none
  | p :: r => if p.1 = k then some p.2 else iget k r
theorem iget_cons (k : Int) (p : Int × α) (r : Mi α) : iget k (p :: r) = if p.1 = k then some p.2 else iget k r := rfl
/-- a pair put in at its place -/
def iins (x : Int × α) : Mi α → Mi α
  | [] => [x]
  | y :: r => if ilt x.1 y.1 = true then x :: y :: r else y :: iins x r
def idel (k : Int) (m : Mi α) : Mi α := m.filter fun p => !(p.1 == k)
def iput (k : Int) (v : α) (m : Mi α) : Mi α := iins (k, v) (idel k m)
/-- the keys rise -/
def ISrt (m : Mi α) : Prop := m.Pairwise fun a b => ilt a.1 b.1 = true
theorem isrt_nil : ISrt ([] : Mi α) := List.Pairwise.nil
theorem ii_ne {a b : Int} (h : ilt a b = true) : a ≠ b := fun e => by rw [e, ints_irrefl] at h; cases h
theorem ii_not {a b : Int} (h : ilt a b = true) : ilt b a = false := by
  cases e : ilt b a with
  | false => rfl
  | true => have := ints_trans _ _ _ h e; rw [ints_irrefl] at this; cases this
theorem imem_mins (x p : Int × α) : ∀ m : Mi α, p ∈ iins x m ↔ p = x ∨ p ∈ m
  | [] => by simp [iins]
  | y :: r => by
    unfold iins
    split
    · simp
    · rw [List.mem_cons, imem_mins x p r, List.mem_cons]
      constructor
      · rintro (h | h | h)
        · exact .inr (.inl h)
        · exact .inl h
        · exact .inr (.inr h)
      · rintro (h | h | h)
        · exact .inr (.inl h)
        · exact .inl h
        · exact .inr (.inr h)
theorem ilength_mins (x : Int × α) : ∀ m : Mi α, (iins x m).length = m.length + 1
  | [] => rfl
  | y :: r => by
    unfold iins
    split
    · rfl
    · rw [List.length_cons, ilength_mins x r, List.length_cons]
theorem isrt_mins (x : Int × α) : ∀ m : Mi α, ISrt m → (∀ p ∈ m, p.1 ≠ x.1) → ISrt (iins x m)
  | [], _, _ => List.pairwise_singleton _ _
  | y :: r, h, hn => by
    unfold iins
    obtain ⟨h1, h2⟩ := List.pairwise_cons.1 h
    split
    · rename_i hb
      refine List.pairwise_cons.2 ⟨fun p hp => ?_, h⟩
      rcases List.mem_cons.1 hp with rfl | hp
      · exact hb
      · exact ints_trans _ _ _ hb (h1 p hp)
    · rename_i hb
      refine List.pairwise_cons.2 ⟨fun p hp => ?_, isrt_mins x r h2 (fun p hp => hn p (List.mem_cons_of_mem _ hp))⟩
      rcases (imem_mins x p r).1 hp with rfl | hp
      · rcases ints_total _ _ (hn y List.mem_cons_self) with h' | h'
        · exact h'
        · exact absurd h' hb
      · exact h1 p hp
theorem isrt_mdel (k : Int) {m : Mi α} (h : ISrt m) : ISrt (idel k m) := List.Pairwise.filter _ h
theorem imem_mdel {k : Int} {m : Mi α} {p : Int × α} : p ∈ idel k m ↔ p ∈ m ∧ p.1 ≠ k := by
  unfold idel
  rw [List.mem_filter]
  simp
theorem isrt_mput (k : Int) (v : α) {m : Mi α} (h : ISrt m) : ISrt (iput k v m) :=
  isrt_mins _ _ (isrt_mdel k h) fun _ hp => (imem_mdel.1 hp).2
theorem imem_mput {k : Int} {v : α} {m : Mi α} {p : Int × α} : p ∈ iput k v m ↔ p = (k, v) ∨ (p ∈ m ∧ p.1 ≠ k) := by
  unfold iput
  rw [imem_mins, imem_mdel]
theorem iget_mem {k : Int} {v : α} : ∀ {m : Mi α}, iget k m = some v → (k, v) ∈ m
  | [], h => by cases h
  | p :: r, h => by
    unfold iget at h
    split at h
    · rename_i e
      cases h
      subst e
      exact List.mem_cons_self
    · exact List.mem_cons_of_mem _ (iget_mem h)
theorem imem_mget {k : Int} {v : α} : ∀ {m : Mi α}, ISrt m → (k, v) ∈ m → iget k m = some v
  | [], _, h => by cases h
  | p :: r, hs, h => by
    obtain ⟨h1, h2⟩ := List.pairwise_cons.1 hs
    unfold iget
    rcases List.mem_cons.1 h with rfl | h
    · rw [if_pos rfl]
    · rw [if_neg (ii_ne (h1 _ h))]
      exact imem_mget h2 h
theorem iget_none {k : Int} : ∀ {m : Mi α}, iget k m = none ↔ ∀ p ∈ m, p.1 ≠ k
  | [] => by simp [iget]
  | p :: r => by
    unfold iget
    split
    · rename_i e
      simp [e]
    · rename_i e
      rw [iget_none (m := r)]
      simp [e]
theorem iext {m m' : Mi α} (hs : ISrt m) (hs' : ISrt m') (h : ∀ k, iget k m = iget k m') : m = m' := by
  induction m generalizing m' with
  | nil =>
    cases m' with
    | nil => rfl
    | cons q r => have := h q.1; unfold iget at this; rw [if_pos rfl] at this; cases this
  | cons p l ih =>
    cases m' with
    | nil => have := h p.1; unfold iget at this; rw [if_pos rfl] at this; cases this
    | cons q r =>
      obtain ⟨h1, h2⟩ := List.pairwise_cons.1 hs
      obtain ⟨g1, g2⟩ := List.pairwise_cons.1 hs'
      have hp : p ∈ q :: r := iget_mem (by rw [← h p.1]; unfold iget; rw [if_pos rfl])
      have hq : q ∈ p :: l := iget_mem (by rw [h q.1]; unfold iget; rw [if_pos rfl])
      have e : p = q := by
        rcases List.mem_cons.1 hp with e | hp
        · exact e
        · rcases List.mem_cons.1 hq with e | hq
          · exact e.symm
          · have a := g1 _ hp
            have b := ii_not (h1 _ hq)
            rw [a] at b; cases b
      subst e
      rw [ih h2 g2 fun k => ?_]
      by_cases hk : p.1 = k
      · rw [iget_none.2 fun x hx => by rw [← hk]; exact (ii_ne (h1 x hx)).symm, iget_none.2 fun x hx => by rw [← hk]; exact (ii_ne (g1 x hx)).symm]
      · have := h k
        unfold iget at this
        rwa [if_neg hk, if_neg hk] at this
theorem iget_mdel_same (k : Int) (m : Mi α) : iget k (idel k m) = none := iget_none.2 fun _ hp => (imem_mdel.1 hp).2
theorem iget_mdel_other {k j : Int} (hne : j ≠ k) : ∀ m : Mi α, iget j (idel k m) = iget j m
  | [] => rfl
  | p :: r => by
    unfold idel
    rw [List.filter_cons]
    split
    · show (if p.1 = j then some p.2 else iget j (idel k r)) = if p.1 = j then some p.2 else iget j r
      rw [iget_mdel_other hne r]
    · rename_i e
      have e2 : p.1 = k := by simpa using e
      show iget j (idel k r) = if p.1 = j then some p.2 else iget j r
      rw [if_neg (by rw [e2]; exact hne.symm), iget_mdel_other hne r]
theorem iget_mins_same (x : Int × α) : ∀ m : Mi α, (∀ p ∈ m, p.1 ≠ x.1) → iget x.1 (iins x m) = some x.2
  | [], _ => by simp [iins, iget]
  | y :: r, h => by
    unfold iins
    split
    · simp [iget]
    · show (if y.1 = x.1 then some y.2 else iget x.1 (iins x r)) = _
      rw [if_neg (h y List.mem_cons_self), iget_mins_same x r fun p hp => h p (List.mem_cons_of_mem _ hp)]
theorem iget_mins_other (x : Int × α) {j : Int} (hne : j ≠ x.1) : ∀ m : Mi α, iget j (iins x m) = iget j m
  | [] => by simp [iins, iget, hne.symm]
  | y :: r => by
    unfold iins
    split
    · show (if x.1 = j then some x.2 else iget j (y :: r)) = _
      rw [if_neg hne.symm]
    · show (if y.1 = j then some y.2 else iget j (iins x r)) = if y.1 = j then some y.2 else iget j r
      rw [iget_mins_other x hne r]
theorem iget_mput_same (k : Int) (v : α) (m : Mi α) : iget k (iput k v m) = some v := iget_mins_same (k, v) _ fun _ hp => (imem_mdel.1 hp).2
theorem iget_mput_other {k j : Int} (hne : j ≠ k) (v : α) (m : Mi α) : iget j (iput k v m) = iget j m := by
  unfold iput
  rw [iget_mins_other (k, v) hne, iget_mdel_other hne]
theorem idel_none {k : Int} {m : Mi α} (h : iget k m = none) : idel k m = m := by
  unfold idel
  exact List.filter_eq_self.2 fun p hp => by simpa using iget_none.1 h p hp
theorem ilength_mdel {k : Int} : ∀ {m : Mi α}, ISrt m → (idel k m).length + (if (iget k m).isSome then 1 else 0) = m.length
  | [], _ => rfl
  | p :: r, hs => by
    obtain ⟨h1, h2⟩ := List.pairwise_cons.1 hs
    by_cases hk : p.1 = k
    · have e : idel k (p :: r) = idel k r := by
        unfold idel
        rw [List.filter_cons, if_neg (by simp [hk])]
      have e2 : iget k r = none := iget_none.2 fun x hx => by rw [← hk]; exact (ii_ne (h1 x hx)).symm
      rw [e, idel_none e2]
      unfold iget
      rw [if_pos hk]
      rfl
    · have e : idel k (p :: r) = p :: idel k r := by
        unfold idel
        rw [List.filter_cons, if_pos (by simp [hk])]
      have ih := ilength_mdel (k := k) h2
      rw [e]
      unfold iget
      rw [if_neg hk, List.length_cons, List.length_cons]
      omega
theorem ilength_mput {k : Int} {v : α} {m : Mi α} (hs : ISrt m) : (iput k v m).length = if (iget k m).isSome then m.length else m.length + 1 := by
  unfold iput
  rw [ilength_mins]
  have := ilength_mdel (k := k) hs
  split
  · rename_i h; rw [if_pos h] at this; omega
  · rename_i h; rw [if_neg h] at this; omega
/-- the map as a datum of the kit -/
def idm {H : Type} (f : α → DataW H) (m : Mi α) : DataW H := .map (m.map fun p => (.int .i64 p.1, f p.2))
section
variable {H : Type} (f : α → DataW H)
theorem isk (a b : Int) : Lit.sameKey (.int .i64 a) (.int .i64 b) = (a == b) := by unfold Lit.sameKey; by_cases h : a = b <;> simp [h]
theorem idm_filter (k : Int) (m : Mi α) : ((m.map fun p => (Lit.int .i64 p.1, f p.2)).filter fun p => !p.1.sameKey (.int .i64 k)) = (idel k m).map fun p => (Lit.int .i64 p.1, f p.2) := by
  unfold idel
  rw [List.filter_map]
  congr 1
  exact List.filter_congr fun p _ => by show (!(Lit.int .i64 p.1).sameKey (Lit.int .i64 k)) = _; rw [isk]
theorem idm_insert (x : Int × α) : ∀ m : Mi α, DataW.insert (Lit.int .i64 x.1, f x.2) (m.map fun p => (Lit.int .i64 p.1, f p.2)) = (iins x m).map fun p => (Lit.int .i64 p.1, f p.2)
  | [] => rfl
  | y :: r => by
    show (if Lit.before (.int .i64 x.1) (.int .i64 y.1) = true then _ else _) = _
    unfold iins
    rw [show Lit.before (.int .i64 x.1) (.int .i64 y.1) = ilt x.1 y.1 from rfl]
    split
    · rfl
    · rw [List.map_cons, ← idm_insert x r]
theorem idm_put (k : Int) (v : α) (m : Mi α) : (idm f m).put (.int .i64 k) (f v) = idm f (iput k v m) := by
  unfold idm DataW.put iput
  simp only
  rw [idm_filter, idm_insert f (k, v)]
theorem idm_del (k : Int) (m : Mi α) : (idm f m).del (.int .i64 k) = idm f (idel k m) := by
  unfold idm DataW.del
  simp only
  rw [idm_filter]
theorem idm_at (k : Int) (z : DataW H) : ∀ m : Mi α, (idm f m).atKey (.int .i64 k) z = match iget k m with | some v => f v | none => z
  | [] => rfl
  | p :: r => by
    have ih := idm_at k z r
    unfold idm DataW.atKey at ih ⊢
    simp only at ih ⊢
    rw [List.map_cons, List.find?_cons]
    unfold iget
    by_cases h : p.1 = k
    · rw [if_pos h, show Lit.sameKey (Lit.int .i64 p.1) (Lit.int .i64 k) = true by rw [isk, h]; simp]
    · rw [if_neg h, show Lit.sameKey (Lit.int .i64 p.1) (Lit.int .i64 k) = false by rw [isk]; simpa using h]
      exact ih
theorem idm_has (k : Int) : ∀ m : Mi α, Maps.has (idm f m) (.int .i64 k) = (iget k m).isSome
  | [] => rfl
  | p :: r => by
    have ih := idm_has k r
    unfold idm at ih ⊢
    rw [Maps.has_eq] at ih ⊢
    rw [List.map_cons, List.any_cons, ih]
    rw [iget_cons]
    by_cases h : p.1 = k
    · rw [if_pos h, show Lit.sameKey (Lit.int .i64 p.1) (Lit.int .i64 k) = true by rw [isk, h]; simp]; rfl
    · rw [if_neg h, show Lit.sameKey (Lit.int .i64 p.1) (Lit.int .i64 k) = false by rw [isk]; simpa using h]
      rfl
theorem idm_size (m : Mi α) : Maps.size (idm f m) = m.length := by
  unfold idm
  rw [Maps.size_eq, List.length_map]
end
end

open Go.RowKit Go.Maps Go.ChangeMaps Go.WideElems Go.WideMaps
/-- block b is a map from ints to values -/
def MapI (P : Program) (k : TypeId) (w : World) (b : Nat) (m : Mi Value) : Prop := ISrt m ∧ w.ownsMap P k Rv b m.length (idm .held m)
section
variable {P : Program} {k : TypeId} {w : World} {b : Nat} {m : Mi Value}
theorem MapI.lt (h : MapI P k w b m) : b < w.heap.size := h.2.lt
theorem MapI.block {w' : World} (h : MapI P k w b m) (hb : w'.heap[b]? = w.heap[b]?) : MapI P k w' b m := by
  obtain ⟨h1, es, clock, h2, h3⟩ := h
  exact ⟨h1, es, clock, hb.trans h2, h3⟩
theorem MapI.of {n : Nat} {D : DataW Value} (hs : ISrt m) (h : w.ownsMap P k Rv b n D) (e : D = idm .held m) : MapI P k w b m := by
  subst e
  have := own_tight h
  rw [idm_size] at this
  exact ⟨hs, this⟩
theorem mapI_made (w : World) (P : Program) (k : TypeId) : MapI P k (w.alloc (.map #[] 0)) w.heap.size [] := MapI.of isrt_nil (World.ownsMap_made w P k Rv) rfl
theorem MapI.kind (h : MapI P k w b m) : ∃ es clock, w.heap[b]? = some (.map es clock) := by
  obtain ⟨_, es, clock, h2, _⟩ := h
  exact ⟨es, clock, h2⟩
theorem iat_held (s : Int) (z : Value) (m : Mi Value) : (idm .held m).atKey (.int .i64 s) (.held z) = .held ((iget s m).getD z) := by
  rw [idm_at]
  cases iget s m <;> rfl
theorem MapI.look_ok {t e : TypeId} (h : MapI P k w b m) (hk : P.underlying k = some (.int .i64)) (ht : P.underlying t = some (.map k e)) {z : Value} (hz : (zeroValue e).run P w = .ok z w) {s : Int} (hs : (Lit.int .i64 s).wf = true) :
    (Instr.lookup t (.map (some b)) (.int .i64 s) true).run P w = .ok (.tuple #[(iget s m).getD z, .bool (iget s m).isSome]) w := by
  obtain ⟨v, ps, hrun, hv⟩ := h.2.look_ok (int_keyed hk) ht hz (zd := .held z) (zp := []) rfl (keyOf_int_mk hk hs)
  rw [iat_held] at hv
  rw [idm_has] at hrun
  unfold Rv at hv
  cases hv
  exact hrun
theorem MapI.len {t e : TypeId} (h : MapI P k w b m) (ht : P.underlying t = some (.map k e)) (ty : TypeId) : (Builtin.len_ #[t] ty #[.map (some b)]).run P w = .ok (.int .i64 (m.length : Int)) w := by
  have := h.2.len ht ty
  rwa [idm_size] at this
section
variable {ops : Array Oper} {rest : List Oper} {o : Oper} {a : Act} {Q : Exit → Act → World → Prop}
theorem wpi_look_ok (hg : o.guard = none) (x y : Operand) (t : TypeId) (hop : o.op = Op.lookup t x y true) (k e : TypeId) (hk : P.underlying k = some (.int .i64)) (ht : P.underlying t = some (.map k e)) {z : Value} (hz : (zeroValue e).run P w = .ok z w)
    (b : Nat) (m : Mi Value) (hm : a.eval x = .map (some b)) (hown : MapI P k w b m) (s : Int) (hx : a.eval y = .int .i64 s) (hs : (Lit.int .i64 s).wf = true)
    (hK : wpList P ops Q rest (a.put o.dst (.tuple #[(iget s m).getD z, .bool (iget s m).isSome])) w) : wpList P ops Q (o :: rest) a w := by
  refine wpList_plain hg fun K' hK' => ?_
  unfold Oper.wp
  simp [execOp, hop, hm, hx, hown.look_ok hk ht hz hs, Result.andThen]
  exact hK' _ _ hK
theorem wpi_put (hg : o.guard = none) (x y u : Operand) (t : TypeId) (hop : o.op = Op.mapUpdate t x y u) (k e : TypeId) (hk : P.underlying k = some (.int .i64)) (ht : P.underlying t = some (.map k e))
    (b : Nat) (m : Mi Value) (hm : a.eval x = .map (some b)) (hown : MapI P k w b m) (hn : m.length < maxLen) (s : Int) (hx : a.eval y = .int .i64 s) (hs : (Lit.int .i64 s).wf = true) (v : Value) (hu : a.eval u = v)
    (hK : ∀ w', MapI P k w' b (iput s v m) → w.mapTurned w' b → wpList P ops Q rest (a.put o.dst undef) w') : wpList P ops Q (o :: rest) a w :=
  wpList_mapUpdate_in w hg x y u t hop k e (int_keyed hk) ht Rv b m.length (idm .held m) hm hown.2 hn (.int .i64 s) v _ hx hu (keyOf_int_mk hk hs) (.held v) [] rfl
    (fun w' h1 h2 => hK w' (MapI.of (isrt_mput _ _ hown.1) h1 (idm_put _ _ _ _)) h2)
theorem wpi_del (hg : o.guard = none) (x y : Operand) (t k : TypeId) (hop : o.op = Op.call { callee := Callee.builtin Builtin.delete, args := #[x, y], argTypes := #[t, k] }) (e : TypeId) (hk : P.underlying k = some (.int .i64)) (ht : P.underlying t = some (.map k e))
    (b : Nat) (m : Mi Value) (hm : a.eval x = .map (some b)) (hown : MapI P k w b m) (s : Int) (hx : a.eval y = .int .i64 s) (hs : (Lit.int .i64 s).wf = true)
    (hK : ∀ w', MapI P k w' b (idel s m) → w.mapTurned w' b → wpList P ops Q rest (a.put o.dst (.tuple #[])) w') : wpList P ops Q (o :: rest) a w :=
  wpList_delete_own w hg x y t k hop e (int_keyed hk) ht Rv b m.length (idm .held m) hm hown.2 (.int .i64 s) _ hx (keyOf_int_mk hk hs)
    (fun w' h1 h2 => hK w' (MapI.of (isrt_mdel _ hown.1) h1 (idm_del _ _ _)) h2)
theorem wpi_len (hg : o.guard = none) (x : Operand) (t : TypeId) (hop : o.op = Op.call { callee := Callee.builtin Builtin.len, args := #[x], argTypes := #[t] }) (k e : TypeId) (ht : P.underlying t = some (.map k e))
    (b : Nat) (m : Mi Value) (hm : a.eval x = .map (some b)) (hown : MapI P k w b m)
    (hK : wpList P ops Q rest (a.put o.dst (.int .i64 (m.length : Int))) w) : wpList P ops Q (o :: rest) a w := by
  refine wpList_plain hg fun K' hK' => ?_
  unfold Oper.wp
  simp [execOp, hop, resolve, invoke, builtin, hm, hown.len ht o.type, Result.andThen]
  exact hK' _ _ hK
end
end
end Go.Proofs.YtpenleogafdbhaaGreatDoor

namespace Go.Proofs.YtpenleogafdbhaaGreatDoor
open Go.RowKit Go.Maps Go.ChangeMaps Go.WideElems Go.WideShapes Go.WideAt Go.WideMaps

def fnV (p : Nat × Array Value) : Value := .func (.func p.1) #[] p.2
set_option maxRecDepth 100000 in
set_option maxHeartbeats 4000000 in
/-- acts one after the other -/
theorem acts_any {sp dp : Nat} {tn : Int} {bk : Bool} {a3 a4 a5 a6 a7 a8 a9 : Value} (v : Value) (fs : List (Nat × Array Value)) (I : Nat → World → Prop) (X : Nat → World → Prop) (w : World)
    (hl : fs.length ≤ 1000)
    (hI : ∀ i W W', I (i + 1) W → W.heap[sp]? = some (.cells (stc dp tn bk a3 a4 a5 a6 a7 a8 a9) 109) → Chg (fun k => k = sp) W W' → I (i + 1) W') (hX : ∀ i W W', X i W → W.heap[sp]? = some (.cells (stc dp tn bk a3 a4 a5 a6 a7 a8 a9) 109) → Chg (fun k => k = sp) W W' → X i W')
    (hv0 : ∃ a c, v = .slice a fs.length c) (hv : ∀ i W, i < fs.length → I i W → IsV W v (fs.map fnV))
    (heg : ∀ p ∈ fs, ∀ args w, (callFunc p.1 args).run Tryz.prog w = .ok (.enter p.1 args) w)
    (hstep : ∀ i p W, fs[i]? = some p → I i W → W.heap[sp]? = some (.cells (stc dp tn bk a3 a4 a5 a6 a7 a8 a9) 109) → Calls Tryz.prog p.1 p.2 W fun e w' => ∃ er : Nat, e = .returned (.int .i64 (er : Int)) ∧ w'.heap[sp]? = some (.cells (stc dp tn bk a3 a4 a5 a6 a7 a8 a9) 109) ∧ (er = 0 → I (i + 1) w') ∧ (er ≠ 0 → X er w'))
    (h0 : I 0 w) (hs : w.heap[sp]? = some (.cells (stc dp tn bk a3 a4 a5 a6 a7 a8 a9) 109)) :
    Calls Tryz.prog 80 #[.pointer (some ⟨sp, 0, none⟩), v] w fun e w' => ∃ er : Nat, e = .returned (.int .i64 (er : Int)) ∧ w'.heap[sp]? = some (.cells (stc dp tn (bk || er == 8) a3 a4 a5 a6 a7 a8 a9) 109) ∧ (er = 0 → I fs.length w') ∧ (er ≠ 0 → X er w') := by
  obtain ⟨va, vc, rfl⟩ := hv0
  have HI := hid hI
  have HX := hid hX
  have HV := hid hv
  have HEG := hid heg
  have HST := hid hstep
  have H0 := hid h0
  have HS := hid hs
  clear hI hX hv heg hstep h0 hs
  obtain ⟨n, hn⟩ : ∃ n, n = fs.length := ⟨_, rfl⟩
  have HN := hid hn
  rw [← hn] at hl HV ⊢
  clear hn
  go_enter Tryz.func80, Tryz.ntmps80
  go_wp2_with fail
  go_loopw [10] (fun kv wr => ∃ k : Nat, kv = .int .i64 (k : Int) ∧ k ≤ n ∧ Hid (I k wr) ∧ Hid (wr.heap[sp]? = some (.cells (stc dp tn bk a3 a4 a5 a6 a7 a8 a9) 109))) (fun kv _ => n - (intOf kv).toNat)
  case atStart => exact ⟨0, rfl, Nat.zero_le _, H0, HS⟩
  case round =>
    obtain ⟨k, rfl, hk, HA, HB⟩ := hrel
    rename World => wr
    by_cases hlt : k < n
    · have hkl : k < fs.length := by rw [← HN.out]; exact hlt
      obtain ⟨G, rfl, -, e0⟩ := isV_at (HV.out k wr hlt HA.out) k (by rw [List.length_map]; exact hkl)
      obtain ⟨p, hp⟩ : ∃ p, fs[k]? = some p := ⟨_, List.getElem?_eq_getElem hkl⟩
      rw [List.getD_eq_getElem?_getD, List.getElem?_map, hp] at e0
      have e1 : wr.cell? ⟨G, k, none⟩ = some (.func (.func p.1) #[] p.2) := e0
      clear e0
      have HC := hid (HST.out k p wr hp HA.out HB.out)
      have eg := HEG.out p (List.mem_of_getElem? hp)
      clear hp hkl
      obtain ⟨g, lb⟩ := p
      dsimp only at e1 eg HC
      go_wp2_with fail
      go_at_fn g
      refine HC.out.mono ?_
      rintro e w1 ⟨er, rfl, hs1, hi1, hx1⟩
      have HF := hid (fail_any er w1 hs1)
      have HS1 := hid hs1
      have HI1 := hid hi1
      have HX1 := hid hx1
      clear hs1 hi1 hx1
      go_wp2_with fail
      go_at_call 141
      refine HF.out.mono ?_
      rintro e w2 ⟨rfl, hs2, hc2⟩
      have HS2 := hid hs2
      have HC2 := hid hc2
      clear hs2 hc2
      by_cases her : er = 0
      · have HIK := hid (HI1.out her)
        subst her
        go_wp2_with fail
        go_roundw
        case rel =>
          refine ⟨k + 1, by go_num, by omega, hid (HI.out _ _ _ HIK.out HS1.out HC2.out), hid ?_⟩
          have := HS2.out
          rwa [show (bk || (0 == 8)) = bk by simp] at this
        case measure => simp [intOf]; omega
      · have hne : ((er : Int) == 0) = false := by simp; omega
        have HER := hid her
        clear her
        go_wp2_with fail
        go_ret
        exact ⟨er, rfl, HS2.out, fun h => absurd h HER.out, fun h => HX.out _ _ _ (HX1.out h) HS1.out HC2.out⟩
    · obtain rfl : k = n := by omega
      go_wp2_with fail
      go_ret
      refine ⟨0, rfl, ?_, fun _ => HA.out, fun h => absurd rfl h⟩
      rw [show (bk || (0 == 8)) = bk by simp]
      exact HB.out
/-- what one act on the disk leaves -/
def Acted (sp dp mb : Nat) (L : Mp FileR) (d' : Dk) (w W : World) : Prop := ∃ L', DiskM W dp mb L' d' ∧ Chg (fun k => k = sp ∨ fpD dp mb L k) w W ∧ New w (fpD dp mb L) (fpD dp mb L')
theorem Acted.fail {sp dp mb : Nat} {L : Mp FileR} {d' : Dk} {w W W' : World} {cs : Array Value} (h : Acted sp dp mb L d' w W) (hs : W.heap[sp]? = some (.cells cs 109)) (hc : Chg (fun k => k = sp) W W') : Acted sp dp mb L d' w W' := by
  obtain ⟨L', h1, h2, h3⟩ := h
  refine ⟨L', h1.keep fun k hk => hc.block k (h1.lt k hk) fun e => ?_, h2.trans0 (hc.mono fun k e => .inl e), h3⟩
  rw [e] at hk
  rcases hk with e | e | ⟨p, hp, e | e⟩
  · have := h1.cells
    rw [← e, hs] at this
    simp at this
  · obtain ⟨es, clock, hm⟩ := h1.map.kind
    rw [← e, hs] at hm
    cases hm
  · have := (h1.file p hp).1
    rw [← e, hs] at this
    simp at this
  · obtain ⟨cs', hcs⟩ := row_type (h1.file p hp).2 _ e
    rw [hs] at hcs
    simp at hcs
theorem acts1_any {sp dp mb : Nat} {L : Mp FileR} {d' : Dk} {tn : Int} {bk : Bool} {a3 a4 a5 a6 a7 a8 a9 : Value} (f : Nat) (lb : Array Value) (g c er : Nat) (w : World)
    (eg : ∀ args w, (callFunc f args).run Tryz.prog w = .ok (.enter f args) w) (hg : w.cell? ⟨g, 0, none⟩ = some (.func (.func f) #[] lb))
    (hs : w.heap[sp]? = some (.cells (stc dp tn bk a3 a4 a5 a6 a7 a8 a9) 109))
    (hspd : ¬ fpD dp mb L sp)
    (hcall : Calls Tryz.prog f lb w fun e w' => e = .returned (.int .i64 (er : Int)) ∧ ∃ L', DiskM w' dp mb L' d' ∧ Chg (fpD dp mb L) w w' ∧ New w (fpD dp mb L) (fpD dp mb L')) :
    Calls Tryz.prog 80 #[.pointer (some ⟨sp, 0, none⟩), .slice (some ⟨g, 0, none⟩) 1 c] w fun e w' => e = .returned (.int .i64 (er : Int)) ∧ w'.heap[sp]? = some (.cells (stc dp tn (bk || er == 8) a3 a4 a5 a6 a7 a8 a9) 109) ∧ Acted sp dp mb L d' w w' := by
  refine (acts_any (.slice (some ⟨g, 0, none⟩) 1 c) [(f, lb)] (fun i W => i = 0 ∧ W = w ∨ i ≠ 0 ∧ er = 0 ∧ Acted sp dp mb L d' w W) (fun i W => i = er ∧ Acted sp dp mb L d' w W) w (show 1 ≤ 1000 by decide) ?_ ?_ ⟨_, _, rfl⟩ ?_ ?_ ?_ (.inl ⟨rfl, rfl⟩) hs).mono ?_
  · rintro i W W' (⟨h, -⟩ | ⟨-, h2, h3⟩) hsp hc
    · exact absurd h (Nat.succ_ne_zero _)
    · exact .inr ⟨Nat.succ_ne_zero _, h2, h3.fail hsp hc⟩
  · rintro i W W' ⟨h1, h2⟩ hsp hc
    exact ⟨h1, h2.fail hsp hc⟩
  · rintro i W hi (⟨-, rfl⟩ | ⟨h, -⟩)
    · exact ⟨_, _, rfl, (show (1 : Nat) ≤ 1000000 by decide), fun j hj => by
        have : j < 1 := hj
        obtain rfl : j = 0 := by omega
        exact ⟨g, rfl, hg⟩⟩
    · have hi : i < 1 := hi
      omega
  · intro p hp
    rw [List.mem_singleton] at hp
    rw [hp]
    exact eg
  · intro i p W hp hi hsp
    obtain ⟨rfl, hp'⟩ : i = 0 ∧ p = (f, lb) := by
      cases i with
      | zero => exact ⟨rfl, (Option.some.inj hp).symm⟩
      | succ i => cases hp
    subst hp'
    obtain rfl : W = w := by
      rcases hi with ⟨-, h⟩ | ⟨h, -⟩
      · exact h
      · exact absurd rfl h
    refine hcall.mono ?_
    rintro e w' ⟨rfl, L', h1, h2, h3⟩
    have hA : Acted sp dp mb L d' W w' := ⟨L', h1, h2.mono fun k e => .inr e, h3⟩
    exact ⟨er, rfl, (h2.block sp (heap_lt hs) hspd).trans hs, fun e => .inr ⟨by decide, e, hA⟩, fun e => ⟨rfl, hA⟩⟩
  · rintro e w' ⟨er', rfl, h1, h2, h3⟩
    by_cases he : er' = 0
    · rcases h2 he with ⟨h, -⟩ | ⟨-, h, hA⟩
      · cases h
      · subst he; subst h
        exact ⟨rfl, h1, hA⟩
    · obtain ⟨rfl, hA⟩ := h3 he
      exact ⟨rfl, h1, hA⟩
end Go.Proofs.YtpenleogafdbhaaGreatDoor

namespace Go.Proofs.YtpenleogafdbhaaGreatDoor
open Go.RowKit Go.Maps Go.ChangeMaps Go.WideElems Go.WideShapes Go.WideAt Go.WideMaps

/-- the blocks of maps that stores and disks own must be others -/
structure StM (w : World) (sp dp tb vb : Nat) (rv qv : Value) (R : List (Nat × Tab)) (V : Mi (Nat × Tab)) (s : St) : Prop where
  cells : w.heap[sp]? = some (.cells (stc dp s.turn s.broken (.int .i64 (s.head.log : Int)) rv (.int .i64 (s.head.next : Int)) (.map (some tb)) qv (.map (some vb)) (.int .i64 (s.next : Int))) 109)
  mem : MapM Tryz.prog 9 w tb (tabV s.mem)
  hruns : IsV w rv (s.head.runs.map iv)
  runs : IsV w qv (R.map fun p => .map (some p.1))
  run : ∀ p ∈ R, MapM Tryz.prog 9 w p.1 (tabV p.2)
  eqR : s.runs = R.map (·.2)
  views : MapI Tryz.prog 3 w vb (V.map fun p => (p.1, .map (some p.2.1)))
  view : ∀ p ∈ V, MapM Tryz.prog 9 w p.2.1 (tabV p.2.2)
  eqV : s.views = V.map fun p => (p.1, p.2.2)
  tv : tb ≠ vb
  rb : ∀ p ∈ R, p.1 ≠ tb ∧ p.1 ≠ vb
  wb : ∀ p ∈ V, p.2.1 ≠ tb ∧ p.2.1 ≠ vb
  hrt : ∀ k, rv.ownBlock = some k → ∃ cs, w.heap[k]? = some (.cells cs 3)
  qrt : ∀ k, qv.ownBlock = some k → ∃ cs, w.heap[k]? = some (.cells cs 105)
/-- what a store reads and does not write -/
def rdS (rv qv : Value) (R : List (Nat × Tab)) (V : Mi (Nat × Tab)) : Fp := fun k => rv.ownBlock = some k ∨ qv.ownBlock = some k ∨ (∃ p ∈ R, k = p.1) ∨ ∃ p ∈ V, k = p.2.1
def fpS (sp tb vb : Nat) : Fp := fun k => k = sp ∨ k = tb ∨ k = vb
theorem isV_keep {w w' : World} {v : Value} {xs : List Value} (h : IsV w v xs) (hk : ∀ k, v.ownBlock = some k → k < w.heap.size → w'.heap[k]? = w.heap[k]?) : IsV w' v xs := by
  obtain ⟨a, c, rfl, hl, hc⟩ := h
  refine ⟨a, c, rfl, hl, fun i hi => ?_⟩
  obtain ⟨g, rfl, hcell⟩ := hc i hi
  exact ⟨g, rfl, (cell_same (hk g rfl (World.block_lt_of_cell? w _ hcell))).trans hcell⟩
section
variable {w w' : World} {sp dp tb vb : Nat} {rv qv : Value} {R : List (Nat × Tab)} {V : Mi (Nat × Tab)} {s : St}
theorem StM.keep (h : StM w sp dp tb vb rv qv R V s) (hk : ∀ k, k < w.heap.size → fpS sp tb vb k ∨ rdS rv qv R V k → w'.heap[k]? = w.heap[k]?) : StM w' sp dp tb vb rv qv R V s :=
  ⟨(hk _ (heap_lt h.cells) (.inl (.inl rfl))).trans h.cells, h.mem.block (hk _ h.mem.lt (.inl (.inr (.inl rfl)))), isV_keep h.hruns fun k a b => hk k b (.inr (.inl a)), isV_keep h.runs fun k a b => hk k b (.inr (.inr (.inl a))),
    fun p hp => (h.run p hp).block (hk _ (h.run p hp).lt (.inr (.inr (.inr (.inl ⟨p, hp, rfl⟩))))), h.eqR, h.views.block (hk _ h.views.lt (.inl (.inr (.inr rfl)))), fun p hp => (h.view p hp).block (hk _ (h.view p hp).lt (.inr (.inr (.inr (.inr ⟨p, hp, rfl⟩))))), h.eqV, h.tv, h.rb, h.wb, fun k hk2 => (h.hrt k hk2).imp fun cs hc => (hk k (heap_lt hc) (.inr (.inl hk2))).trans hc, fun k hk2 => (h.qrt k hk2).imp fun cs hc => (hk k (heap_lt hc) (.inr (.inr (.inl hk2)))).trans hc⟩
theorem StM.below (h : StM w sp dp tb vb rv qv R V s) (hb : Below w.heap.size w w') : StM w' sp dp tb vb rv qv R V s := h.keep fun k hk _ => hb.block k hk
end
/-- the maps of a store are not the disk's -/
structure Sd (mb tb vb : Nat) (R : List (Nat × Tab)) (V : Mi (Nat × Tab)) : Prop where
  t : mb ≠ tb
  v : mb ≠ vb
  r : ∀ p ∈ R, mb ≠ p.1
  w : ∀ p ∈ V, mb ≠ p.2.1
section
variable {w w' : World} {sp dp tb vb mb dq : Nat} {rv qv : Value} {R : List (Nat × Tab)} {V : Mi (Nat × Tab)} {s : St} {L : Mp FileR} {d : Dk}
theorem StM.kinds (h : StM w sp dp tb vb rv qv R V s) (k : Nat) (hk : fpS sp tb vb k ∨ rdS rv qv R V k) : (∃ cs t, w.heap[k]? = some (.cells cs t) ∧ (t = 109 ∧ k = sp ∨ t = 3 ∨ t = 105)) ∨ ((∃ es c, w.heap[k]? = some (.map es c)) ∧ (k = tb ∨ k = vb ∨ (∃ p ∈ R, k = p.1) ∨ ∃ p ∈ V, k = p.2.1)) := by
  rcases hk with (rfl | rfl | rfl) | (hk | hk | ⟨p, hp, rfl⟩ | ⟨p, hp, rfl⟩)
  · exact .inl ⟨_, _, h.cells, .inl ⟨rfl, rfl⟩⟩
  · exact .inr ⟨h.mem.kind, .inl rfl⟩
  · exact .inr ⟨h.views.kind, .inr (.inl rfl)⟩
  · obtain ⟨cs, hc⟩ := h.hrt k hk
    exact .inl ⟨_, _, hc, .inr (.inl rfl)⟩
  · obtain ⟨cs, hc⟩ := h.qrt k hk
    exact .inl ⟨_, _, hc, .inr (.inr rfl)⟩
  · exact .inr ⟨(h.run p hp).kind, .inr (.inr (.inl ⟨p, hp, rfl⟩))⟩
  · exact .inr ⟨(h.view p hp).kind, .inr (.inr (.inr ⟨p, hp, rfl⟩))⟩
theorem DiskM.kinds (h : DiskM w dq mb L d) (k : Nat) (hk : fpD dq mb L k) : (∃ cs t, w.heap[k]? = some (.cells cs t) ∧ (t = 51 ∨ t = 123 ∨ t = 5)) ∨ ((∃ es c, w.heap[k]? = some (.map es c)) ∧ k = mb) := by
  rcases hk with rfl | rfl | ⟨p, hp, rfl | hk⟩
  · exact .inl ⟨_, _, h.cells, .inl rfl⟩
  · exact .inr ⟨h.map.kind, rfl⟩
  · exact .inl ⟨_, _, (h.file p hp).1, .inr (.inl rfl)⟩
  · obtain ⟨cs, hc⟩ := row_type (h.file p hp).2 k hk
    exact .inl ⟨_, _, hc, .inr (.inr rfl)⟩
theorem sep_sd (h : StM w sp dp tb vb rv qv R V s) (hd : DiskM w dq mb L d) (hs : Sd mb tb vb R V) : ∀ k, fpS sp tb vb k ∨ rdS rv qv R V k → fpD dq mb L k → False := by
  intro k h1 h2
  rcases h.kinds k h1 with ⟨cs, t, e, ht⟩ | ⟨⟨es, c, e⟩, ht⟩
  · rcases hd.kinds k h2 with ⟨cs', t', e', ht'⟩ | ⟨⟨es', c', e'⟩, -⟩
    · rw [e] at e'
      injection e' with e'
      injection e' with _ e'
      subst e'
      rcases ht with ⟨rfl, -⟩ | rfl | rfl <;> rcases ht' with h | h | h <;> exact absurd h (by decide)
    · rw [e] at e'
      cases e'
  · rcases hd.kinds k h2 with ⟨cs', t', e', -⟩ | ⟨-, rfl⟩
    · rw [e] at e'
      cases e'
    · rcases ht with rfl | rfl | ⟨p, hp, rfl⟩ | ⟨p, hp, rfl⟩
      · exact hs.t rfl
      · exact hs.v rfl
      · exact hs.r p hp rfl
      · exact hs.w p hp rfl
/-- the disk works: the store stands -/
theorem StM.disk (h : StM w sp dp tb vb rv qv R V s) (hd : DiskM w dq mb L d) (hs : Sd mb tb vb R V) (hc : Chg (fpD dq mb L) w w') : StM w' sp dp tb vb rv qv R V s :=
  h.keep fun k hk hr => hc.block k hk fun hf => sep_sd h hd hs k hr hf
/-- the store works: the disk stands -/
theorem DiskM.store (hd : DiskM w dq mb L d) (h : StM w sp dp tb vb rv qv R V s) (hs : Sd mb tb vb R V) (hc : Chg (fpS sp tb vb) w w') : DiskM w' dq mb L d :=
  hd.keep fun k hk => hc.block k (hd.lt k hk) fun hf => sep_sd h hd hs k (.inl hf) hk
end
end Go.Proofs.YtpenleogafdbhaaGreatDoor

namespace Go.Proofs.YtpenleogafdbhaaGreatDoor
open Go.RowKit Go.Maps Go.ChangeMaps Go.WideElems Go.WideShapes Go.WideAt Go.WideMaps
theorem RangeM.lenle {P : Program} {k : TypeId} {w : World} {b r : Nat} {m rem : Mp Value} (h : RangeM P k w b r m rem) : True := trivial
theorem cells_agg (x : Bs × Bool) : (cellV x).cells = #[.string (str x.1), .bool x.2] := rfl
theorem mdel_len1 {α : Type} {k : Bs} {v : α} {m : Mp α} (hs : Srt m) (h : (k, v) ∈ m) : (mdel k m).length + 1 = m.length := by
  have := length_mdel (k := k) hs
  rw [mem_mget hs h] at this
  exact this
set_option maxRecDepth 100000 in
set_option maxHeartbeats 8000000 in
/-- a table is copied over another one -/
theorem copy_any (db sb : Nat) (m src : Tab) (w : World) (hm : Srt m) (hs : Srt src) (hd : MapM Tryz.prog 9 w db (tabV m)) (hsb : MapM Tryz.prog 9 w sb (tabV src)) (hne : sb ≠ db) (hl : m.length + src.length ≤ 1000000) :
    Calls Tryz.prog 150 #[.map (some db), .map (some sb)] w fun e w' => e = .returned (.tuple #[]) ∧ MapM Tryz.prog 9 w' db (tabV (over m src)) ∧ Chg (fun k => k = db) w w' := by
  have HD := hid hd
  have HS := hid hsb
  have HL := hid hl
  have HNE := hid hne
  have HSM := hid hm
  have HSS := hid hs
  clear hd hsb hl hne hm hs
  go_enter Tryz.func150, Tryz.ntmps150
  go_wp2_with (first
    | (at_range; refine wpl_range rfl _ 105 rfl 9 138 Tryz.underlying9 Tryz.underlying105 sb (tabV src) rfl HS.out ?_; intro w0 hrg0 hb0 hs0)
    | fail)
  go_frame
  have HR0 := hid hrg0
  have HB0 := hid hb0
  clear hrg0 hb0 hs0
  go_loopw [] (fun wr => ∃ (rem : Mp Value) (cur : Tab), Hid (RangeM Tryz.prog 9 wr sb w.heap.size (tabV src) rem) ∧ Hid (MapM Tryz.prog 9 wr db (tabV cur)) ∧ Hid (Srt cur ∧ (∀ k, mget k cur = if (mget k rem).isSome = true then mget k m else (mget k src).or (mget k m)) ∧ cur.length + rem.length ≤ m.length + src.length) ∧ Hid (Chg (fun k => k = db) w wr)) (fun wr => wr.rangeLeft sb w.heap.size)
  case atStart =>
    refine ⟨_, m, HR0, hid (HD.out.block (HB0.out.block db HD.out.lt)), hid ⟨HSM.out, fun k => ?_, ?_⟩, hid (chg_below HB0.out)⟩
    · unfold tabV
      rw [mget_mmap]
      cases mget k src <;> rfl
    · unfold tabV
      rw [mmap_length]
      exact Nat.le_refl _
  case round =>
    obtain ⟨rem, cur, HR, HM, HI, HC⟩ := hrel
    rename World => wr
    go_wp2_with (first
      | (at_next; refine wpl_next rfl _ rfl 9 Tryz.underlying9 sb w.heap.size (tabV src) rem rfl HR.out ?_ ?_)
      | fail)
    · intro hrem
      have he : cur = over m src := mext HI.out.1 (srt_over src HSM.out) fun k => by
        rw [HI.out.2.1 k, hrem, mget_over k src m HSS.out]
        rfl
      have HF : Hid (MapM Tryz.prog 9 wr db (tabV (over m src))) := hid (he ▸ HM.out)
      clear he hrem
      go_wp2_with fail
      go_end0
      exact ⟨rfl, HF.out, HC.out⟩
    · intro s v w1 hmem hsl hrg1 hlt1 hg1 hsz1 hen
      obtain ⟨h1, h2, h3, _⟩ := HR.out
      obtain ⟨x, hx, rfl⟩ := mem_mmap.1 (h3 _ hmem)
      have hdlt : db < w.heap.size := HD.out.lt
      have HM1 : Hid (MapM Tryz.prog 9 w1 db (tabV cur)) := hid (HM.out.block (hg1.block db HM.out.lt fun e => by cases e; omega))
      have HC1 : Hid (Chg (fun k => k = db) w w1) := hid (HC.out.trans (chg_grown (F := fun k => k = w.heap.size) hg1 fun k e => (Option.some.inj e).symm) fun k e => .inr (Nat.le_of_eq e.symm))
      have HR1 := hid hrg1
      have HL1 := hid hlt1
      have hsome : (mget s.data.toList rem).isSome = true := by rw [mem_mget h2 hmem]; rfl
      have HI1 : Hid (Srt (mput s.data.toList x cur) ∧ (∀ k, mget k (mput s.data.toList x cur) = if (mget k (mdel s.data.toList rem)).isSome = true then mget k m else (mget k src).or (mget k m)) ∧ (mput s.data.toList x cur).length + (mdel s.data.toList rem).length ≤ m.length + src.length) := hid (by
        refine ⟨srt_mput _ _ HI.out.1, fun k => ?_, ?_⟩
        · by_cases hk : k = s.data.toList
          · rw [hk, mget_mput_same, mget_mdel_same, mem_mget HSS.out hx]
            rfl
          · rw [mget_mput_other hk, mget_mdel_other hk]
            exact HI.out.2.1 k
        · have a := len_mput_le s.data.toList x cur HI.out.1
          have b := mdel_len1 h2 hmem
          have c := HI.out.2.2
          omega)
      have HLN : Hid ((tabV cur).length < maxLen) := hid (by
        have c := HI.out.2.2
        have d := HL.out
        unfold tabV maxLen
        rw [mmap_length]
        omega)
      have HSL := hid hsl
      have HCE := hid (cells_agg x)
      have hlt0 : w.heap.size ≤ w1.heap.size := HC1.out.size
      clear h1 h2 h3 hmem hsl hrg1 hlt1 hg1 hsz1 hsome hx
      obtain ⟨x1, x2⟩ := x
      unfold cellV at hen ⊢
      dsimp only at hen ⊢
      go_wp2_with (first
        | (at_mapUpdate; refine wpl_put rfl _ _ _ 105 rfl 9 138 Tryz.underlying9 Tryz.underlying105 db (tabV cur) rfl (HM1.out.block (Below.heap_alloc _ _ _ HM1.out.lt)) HLN.out s rfl HSL.out _ rfl ?_; intro w4 hm4 ht4; have HM4 := hid hm4; have HT4 := hid ht4; clear hm4 ht4)
        | fail)
      have hiter : w.heap.size < w1.heap.size := HR1.out.lt
      have hb4 : w4.heap[sb]? = w1.heap[sb]? := (mapTurned_other HT4.out HNE.out).trans (Below.heap_alloc _ _ _ HR1.out.map.lt)
      have hr4 : w4.heap[w.heap.size]? = w1.heap[w.heap.size]? := (mapTurned_other HT4.out (by omega)).trans (Below.heap_alloc _ _ _ hiter)
      go_roundw
      case rel =>
        refine ⟨_, hid (HR1.out.block hb4 hr4), mput s.data.toList (x1, x2) cur, hid ?_, HI1, hid (HC1.out.trans0 ((chg_alloc _ _).trans0 (chg_turned HT4.out rfl)))⟩
        unfold tabV
        rw [mmap_mput]
        exact HM4.out
      case measure =>
        rw [rangeLeft_same hb4 hr4]
        exact HL1.out
end Go.Proofs.YtpenleogafdbhaaGreatDoor
