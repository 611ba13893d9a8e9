/-
  Bytes turned round (51).
-/
import Derived.Test.YtlhmidecjiihcaaDoorWalkF
import Derived.Test.YtlhmidecjiihcaaDoorShelf
namespace Go.Proofs.YtlhmidecjiihcaaDoor
open Go.RowKit
/-- the digits of a number, the last one first: at most f -/
def digR : Nat → Nat → List UInt8
  | 0, _ => []
  | f + 1, a => if a = 0 then [] else UInt8.ofNat (48 + a % 10) :: digR f (a / 10)
/-- a number in decimal -/
def dec (a : Nat) : List UInt8 := if a = 0 then [48] else (digR 9 a).reverse
theorem digR_len : ∀ f a, (digR f a).length ≤ f
  | 0, _ => Nat.le_refl _
  | f + 1, a => by
    unfold digR
    split
    · exact Nat.zero_le _
    · exact Nat.succ_le_succ (digR_len f _)
theorem digR_zero : ∀ f, digR f 0 = []
  | 0 => rfl
  | f + 1 => by unfold digR; rw [if_pos rfl]
theorem digR_pos {f a : Nat} (h : a ≠ 0) : digR (f + 1) a = UInt8.ofNat (48 + a % 10) :: digR f (a / 10) := by
  show (if a = 0 then _ else _) = _
  rw [if_neg h]
def b8 (x : UInt8) : Value := .int .u8 (x.toNat : Int)
theorem info5 : (Tryd.prog.info? 5).map (fun i => (i.zero, i.size, i.bytes)) = some (some (.int .u8 0), 1, 1) := by kernel_rfl
theorem wpl_app_b {ops : Array Oper} {rest : List Oper} {o : Oper} {a : Act} {Q : Exit → Act → World → Prop} {W : World} (z : Int) (s y : Operand) (v : Value) (B : Nat) (xs : List Value)
    (hgd : o.guard = none) (ho : o.op = .call { callee := .builtin .append, args := #[s, y], argTypes := #[96, 96] })
    (hs : a.eval s = v) (hx : a.eval y = .slice (some ⟨W.heap.size, 0, none⟩) 1 1)
    (hown : OwnV W B 5 v xs) (hlen : xs.length < 1000000) (hB : B ≤ W.heap.size)
    (h : ∀ v' w', OwnV w' B 5 v' (xs ++ [.int .u8 z]) → Below B W w' → W.grownBy w' v.ownBlock → wpList Tryd.prog ops Q rest (a.put o.dst v') w') :
    wpList Tryd.prog ops Q (o :: rest) a (W.alloc (.cells #[.int .u8 z] 5)) :=
  wpl_app_v 96 5 (.int .u8 0) 1 info5 rfl Tryd.underlying96 (by decide) (.int .u8 z) rfl s y v B xs hgd ho hs hx hown hlen hB h
open Go.Sort Go.Lib in
theorem revb_any (B g c : Nat) (l : List UInt8) (w : World) (ho : OwnV w B 5 (.slice (some ⟨g, 0, none⟩) l.length c) (l.map b8)) :
    Calls Tryd.prog 51 #[.slice (some ⟨g, 0, none⟩) l.length c] w fun e w' => e = .returned (.tuple #[]) ∧ (∀ j (hj : j < l.reverse.length), w'.cell? ((⟨g, 0, none⟩ : Addr).add j) = some (.int .u8 (l.reverse[j].toNat : Int))) ∧ w.grownBy w' (some g) := by
  have hcell : ∀ j, j < l.length → w.cell? ⟨g, j, none⟩ = some (b8 (l.getD j 0)) := fun j hj => by rw [ownV_cell ho j (by simpa using hj), getD_map b8 l 0 j hj]
  have hfr := ownV_frozen ho
  have hmax : l.length ≤ 9223372036854775807 := by
    obtain ⟨_, h | ⟨g', cap, cur, hv, _, _, hn, hm, _⟩⟩ := ho
    · cases h.1
    · rw [List.length_map] at hn; unfold maxLen at hm; omega
  have hH : Holds b8 w g 0 l.toArray := fun j hj => by
    have hj' : j < l.length := by simpa using hj
    refine ⟨?_, hfr _⟩
    rw [Nat.zero_add, hcell j hj', List.getD_eq_getElem?_getD, List.getElem?_eq_getElem hj']
    simp [hj']
  refine (Tryd.slices_Reverse b8 (fun x => rfl) g 0 c l w hH hmax).mono ?_
  rintro e w' ⟨rfl, n, rfl⟩
  have hH2 := holds_putRow b8 (Sort.ahead w n) g 0 l.toArray l.reverse.toArray (holds_ahead b8 w n g 0 l.toArray hH) (by simp)
  refine ⟨rfl, fun j hj => ?_, rfl, rfl, rfl, by simp [Sort.ahead], fun k hk hne => ?_⟩
  · have hadd : (⟨g, 0, none⟩ : Addr).add j = ⟨g, 0 + j, none⟩ := by unfold Addr.add; split <;> simp_all
    have h := (hH2 j (by simpa using hj)).1
    rw [hadd, h]
    simp only [List.size_toArray, List.getElem!_toArray, b8]
    rw [getElem!_pos _ j hj]
  · have : g ≠ k := fun e => hne (by rw [e])
    simp [putRow, mapBlock, Sort.ahead, Array.getElem?_modify, this]
end Go.Proofs.YtlhmidecjiihcaaDoor
