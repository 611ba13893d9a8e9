/-
  Lists of strings.
-/
import Derived.Test.YtpoekblolicehaaDoorBaseD
import Derived.Test.YtpoekblolicehaaDoorWalkL
namespace Go.Proofs.YtpoekblolicehaaDoor
open Go.RowKit

def strB (l : Str) : ByteArray := ⟨l.toArray⟩
theorem strB_data (s : ByteArray) : strB s.data.toList = s := by
  obtain ⟨⟨l⟩⟩ := s
  rfl
theorem strB_list (l : Str) : (strB l).data.toList = l := rfl
theorem strB_toList (l : Str) : (strB l).toList = l := by rw [toList_data]; rfl
theorem strB_size (l : Str) : (strB l).size = l.length := by
  rw [← data_size]; rfl
theorem strB_take (s : ByteArray) (n : Nat) : s.extract 0 n = strB (s.data.toList.take n) := by
  rw [← strB_data (s.extract 0 n), Lib.extract_from_zero]
theorem strB_drop (s : ByteArray) (n : Nat) : s.extract n s.size = strB (s.data.toList.drop n) := by
  rw [← strB_data (s.extract n s.size), Lib.extract_data, List.take_of_length_le (by rw [List.length_drop]; exact Nat.le_refl _)]
def strs (xs : List Str) : List Value := xs.map fun x => Value.string (strB x)
theorem strs_length (xs : List Str) : (strs xs).length = xs.length := by simp [strs]
theorem strs_append (xs : List Str) (z : Str) : strs (xs ++ [z]) = strs xs ++ [.string (strB z)] := by simp [strs]
def sx (xs : List Str) (k : Nat) : Str := xs.getD k []
theorem strs_getD (xs : List Str) (i : Nat) (h : i < xs.length) : (strs xs).getD i undef = .string (strB (sx xs i)) := by
  simp [strs, sx, h]
def IsStrs (w : World) (v : Value) (xs : List Str) : Prop :=
  ∃ a c, v = .slice a xs.length c ∧ xs.length ≤ maxLen ∧ ∀ i, i < xs.length → ∃ g, a = some ⟨g, 0, none⟩ ∧ w.cell? ⟨g, i, none⟩ = some (.string (strB (sx xs i)))
theorem isStrs_below {w w' : World} {v : Value} {xs : List Str} (h : IsStrs w v xs) (hb : Below w.heap.size w w') : IsStrs w' v xs := by
  obtain ⟨a, c, rfl, hl, hc⟩ := h
  refine ⟨a, c, rfl, hl, fun i hi => ?_⟩
  obtain ⟨g, ha, hcell⟩ := hc i hi
  exact ⟨g, ha, by rw [hb.cell (World.block_lt_of_cell? w _ hcell)]; exact hcell⟩
theorem own_isStrs {w : World} {B : Nat} {e : TypeId} {v : Value} {xs : List Str} (h : Own w B e v (strs xs)) : IsStrs w v xs := by
  obtain ⟨a, c, hv, hl, hc⟩ := own_isList h
  rw [strs_length] at hv hl hc
  refine ⟨a, c, hv, hl, fun i hi => ?_⟩
  obtain ⟨g, ha, hcell⟩ := hc i hi
  exact ⟨g, ha, by rw [hcell, strs_getD xs i hi]⟩
theorem info9 : (Tryd.prog.info? 9).map (fun i => (i.zero, i.size, i.bytes)) = some (some (.string ⟨#[]⟩), 1, 16) := by kernel_rfl
/-- append of one string -/
theorem wpl_app_str {ops : Array Oper} {rest : List Oper} {o : Oper} {a : Act} {Q : Exit → Act → World → Prop} {W : World} {z : ByteArray}
    (s x : Operand) (v : Value) (B : Nat) (xs : List Str)
    (hgd : o.guard = none) (ho : o.op = .call { callee := .builtin .append, args := #[s, x], argTypes := #[57, 57] })
    (hs : a.eval s = v) (hx : a.eval x = .slice (some ⟨W.heap.size, 0, none⟩) 1 1)
    (hown : Own W B 9 v (strs xs)) (hlen : xs.length < 1099511627776) (hB : B ≤ W.heap.size)
    (h : ∀ v' w', Own w' B 9 v' (strs (xs ++ [z.data.toList])) → Below B W w' → wpList Tryd.prog ops Q rest (a.put o.dst v') w') :
    wpList Tryd.prog ops Q (o :: rest) a (W.alloc (.cells #[.string z] 9)) :=
  wpl_app hgd s x 57 9 ho (.string ⟨#[]⟩) 16 info9 rfl Tryd.underlying57 v B (strs xs) hs hown (.string z) rfl hx (by rw [strs_length]; omega) (by rw [strs_length]; unfold maxLen; omega) hB
    (fun v' w' h1 h2 => h v' w' (by rw [strs_append, strB_data]; exact h1) h2)
theorem binOp_string_leq (t : TypeId) (a b : ByteArray) : binOp .leq t (.string a) (.string b) = pure (.bool (slt up a.toList b.toList || a.toList == b.toList)) := by simp [binOp, Op.stringOp, bytesLess_slt]
end Go.Proofs.YtpoekblolicehaaDoor
