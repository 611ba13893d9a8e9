/-
  The walk over chapter 1: the iterator over the parts of a rhythm.
-/
import Derived.RangeFuncBox
import Derived.RangeFuncLeaves
import Derived.RangeFuncNested
import Derived.RangeFuncBound
import Derived.RangeFuncCalls
import Derived.Shelf.Abstract
import Derived.Shelf.RegionOpen
import Derived.WalkKit
import Derived.OwnWalkIn
import Derived.TacticsInMore
import Derived.LoopNIn
import Derived.LoopIn
import Derived.Test.YtpoekblolicehaaDoorBaseE
namespace Go.Proofs.YtpoekblolicehaaDoor
open Go.RowKit Go.Shelf

attribute [local go_sem] Oper.semAt_some

/-- a position at which a part of m letters begins -/
abbrev Px (s : ByteArray) (m : Nat) := { i : Nat // i + m ≤ s.size }
/-- the positions below k -/
def pxs (s : ByteArray) (m : Nat) : Nat → List (Px s m)
  | 0 => []
  | k + 1 => if h : k + m ≤ s.size then pxs s m k ++ [⟨k, h⟩] else pxs s m k
theorem pxs_succ (s : ByteArray) (m k : Nat) (h : k + m ≤ s.size) : pxs s m (k + 1) = pxs s m k ++ [⟨k, h⟩] := by rw [pxs, dif_pos h]
theorem pxs_length (s : ByteArray) (m : Nat) : ∀ k, (pxs s m k).length ≤ k
  | 0 => Nat.le_refl _
  | k + 1 => by
    have := pxs_length s m k
    rw [pxs]
    split
    · rw [List.length_append]; simp; omega
    · omega
/-- two blocks stand as they stood -/
def Keep2 (a b : Nat) (W W' : World) : Prop := W'.heap[a]? = W.heap[a]? ∧ W'.heap[b]? = W.heap[b]?
theorem keep2_refl (a b : Nat) (W : World) : Keep2 a b W W := ⟨rfl, rfl⟩
theorem keep2_t {a b : Nat} {A B C : World} (h : Keep2 a b A B) (k : Keep2 a b B C) : Keep2 a b A C := ⟨k.1.trans h.1, k.2.trans h.2⟩
theorem keep2_cell {a b : Nat} {A B : World} (h : Keep2 a b A B) : B.cell? ⟨a, 0, none⟩ = A.cell? ⟨a, 0, none⟩ ∧ B.cell? ⟨b, 0, none⟩ = A.cell? ⟨b, 0, none⟩ :=
  ⟨World.cell?_of_block h.1, World.cell?_of_block h.2⟩
theorem keep2_below {a b n : Nat} {A B : World} (h : Below n A B) (ha : a < n) (hb : b < n) : Keep2 a b A B := ⟨h.block a ha, h.block b hb⟩
theorem keep2_set (a b : Nat) (W : World) (p : Addr) (u : Value) (ha : a ≠ p.block) (hb : b ≠ p.block) : Keep2 a b W (W.setCell p u) := ⟨Below.heap_setCell _ _ _ _ ha, Below.heap_setCell _ _ _ _ hb⟩
theorem keep2_b {a b : Nat} {w : World} (ha : a < w.heap.size) (hb : b < w.heap.size) (W : World) (l : Nat) (o o' : Obj) (hl : w.heap.size ≤ l) (h : W.heap[l]? = some o) (h1 : o.isCells = false) (h2 : o.isWalk = false) : Keep2 a b W (W.putObj l o') :=
  keep2_below (belowK_b (Nat.le_refl _) W l o o' hl h h1 h2) ha hb

set_option maxRecDepth 100000 in
set_option maxHeartbeats 2000000 in
theorem parts1_in (F : Fence) (n : Nat) (h69 : F.fn 69) (hro : F.round = none) (hn : 1 ≤ n) (l Bl Bs : Nat) (s : ByteArray) (m : Nat) (hs : s.size ≤ 1000) (hm : m ≤ 1000) (J Jx : List (Px s m) → World → Prop)
    (hY : ∀ pre x W, J pre W → pre.length < s.size + 1 → YieldAt F (n - 1) Tryd.prog l #[.int .i64 (x.1 : Int), .string (s.extract x.1 (x.1 + m))] W fun e W' =>
      (e = .returned (.bool true) ∧ J (pre ++ [x]) W' ∧ Keep2 Bl Bs W W') ∨ (e = .returned (.bool false) ∧ Jx (pre ++ [x]) W'))
    (W : World) (hBl : W.cell? ⟨Bl, 0, none⟩ = some (.int .i64 m)) (hBs : W.cell? ⟨Bs, 0, none⟩ = some (.string s)) (h0 : J [] W) :
    CallsIn F n Tryd.prog 69 #[.func (.yield l) #[] #[], .pointer (some ⟨Bl, 0, none⟩), .pointer (some ⟨Bs, 0, none⟩)] W fun e W' => (∃ v, e = .returned v) ∧
      ((∃ ys, ys = pxs s m (s.size + 1 - m) ∧ J ys W') ∨ (∃ pre, (∃ k, pre = pxs s m k) ∧ Jx pre W')) := by
  refine callsIn_of_wp Tryd.func69 rfl h69 ?_ hro
  simp only [Tryd.ntmps69, List.size_toArray, List.length_cons, List.length_nil, Nat.reduceAdd, Nat.reduceSub, Array.replicate_succ, Array.replicate_zero, List.push_toArray, List.append_toArray, List.nil_append, List.cons_append]
  gi_wp2
  gi_loopw [4] (fun i wr => ∃ k : Nat, k ≤ s.size + 1 - m ∧ i = .int .i64 k ∧ J (pxs s m k) wr ∧ Keep2 Bl Bs W wr)
    (fun i _ => s.size + 1 - (intOf i).toNat)
  case atStart => exact ⟨0, Nat.zero_le _, rfl, h0, keep2_refl _ _ _⟩
  case round =>
    obtain ⟨k, hk, rfl, hJs, hnx⟩ := hrel
    have hc1 : wr.cell? ⟨Bl, 0, none⟩ = some (.int .i64 m) := (keep2_cell hnx).1.trans hBl
    have hc2 : wr.cell? ⟨Bs, 0, none⟩ = some (.string s) := (keep2_cell hnx).2.trans hBs
    have hw : IntKind.i64.wrap ((k : Int) + (m : Int)) = (k : Int) + m := IntWalk.i64_in _ (by omega)
    by_cases hlt : k + m ≤ s.size
    · obtain ⟨fn, tmps, assign, body, hy, hR⟩ := hY _ ⟨k, hlt⟩ wr hJs (by have := pxs_length s m k; omega)
      dsimp only at hy
      have i1 : (k : Int) + m ≤ s.size := by omega
      gi_wp2
      refine hR.mono ?_
      rintro e W3 (⟨rfl, hJ3, hk3⟩ | ⟨rfl, hJx3⟩)
      · gi_wp2
        go_roundw
        case rel => exact ⟨k + 1, by omega, by go_num, by rw [pxs_succ _ _ _ hlt]; exact hJ3, keep2_t hnx hk3⟩
        case measure => simp [intOf]; omega
      · gi_wp2
        refine bodyPost_ret (results_none rfl _ _ _) rfl ?_
        exact ⟨⟨_, rfl⟩, .inr ⟨_, ⟨k + 1, (pxs_succ _ _ _ hlt).symm⟩, hJx3⟩⟩
    · have i2 : ¬ (k : Int) + m ≤ s.size := by omega
      obtain rfl : k = s.size + 1 - m := by omega
      gi_wp2
      go_end0
      first | exact ⟨⟨_, rfl⟩, .inl ⟨_, rfl, hJs⟩⟩ | exact ⟨⟨_, rfl⟩, .inl hJs⟩

set_option maxHeartbeats 1000000 in
/-- parts(s, m): both are boxed; the function value captures the boxes -/
theorem parts_in (F : Fence) (n : Nat) (h64 : F.fn 64) (hro : F.round = none) (s : ByteArray) (m : Int) (w : World) :
    CallsIn F n Tryd.prog 64 #[.string s, .int .i64 m] w fun e w' => e = .returned (.func (.func 69) #[] #[.pointer (some ⟨w.heap.size + 1, 0, none⟩), .pointer (some ⟨w.heap.size, 0, none⟩)]) ∧ w' = (w.alloc (.cells #[.string s] 9)).alloc (.cells #[.int .i64 m] 3) := by
  refine callsIn_of_wp Tryd.func64 rfl h64 ?_ hro
  simp only [Tryd.ntmps64, List.size_toArray, List.length_cons, List.length_nil, Nat.reduceAdd, Nat.reduceSub, Array.replicate_succ, Array.replicate_zero, List.push_toArray, List.append_toArray, List.nil_append, List.cons_append]
  gi_wp2
  go_ret
  refine ⟨?_, ?_⟩
  · simp
  · rfl

theorem parts_stops (F : Fence) (n : Nat) (h69 : F.fn 69) (hro : F.round = none) (hn : 1 ≤ n) (Bl Bs : Nat) (s : ByteArray) (m : Nat) (hs : s.size ≤ 1000) (hm : m ≤ 1000) (w : World) (hbl : Bl < w.heap.size) (hbs : Bs < w.heap.size)
    (hBl : w.cell? ⟨Bl, 0, none⟩ = some (.int .i64 m)) (hBs : w.cell? ⟨Bs, 0, none⟩ = some (.string s)) :
    SeqStopsK F n Tryd.prog 69 #[.pointer (some ⟨Bl, 0, none⟩), .pointer (some ⟨Bs, 0, none⟩)] (fun x : Px s m => #[Value.int .i64 (x.1 : Int), Value.string (s.extract x.1 (x.1 + m))]) (Keep2 Bl Bs) (fun ys => ys = pxs s m (s.size + 1 - m))
      (fun pre => ∃ k, pre = pxs s m k) (s.size + 1) w := fun l J Jx W hW _ _ hY h0 =>
  parts1_in F n h69 hro hn l Bl Bs s m hs hm J Jx hY W ((hW.cell (p := ⟨Bl, 0, none⟩) hbl).trans hBl) ((hW.cell (p := ⟨Bs, 0, none⟩) hbs).trans hBs) h0
end Go.Proofs.YtpoekblolicehaaDoor
