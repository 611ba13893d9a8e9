/-
  Own slices of strings, and own slices of those; own slices of numbers.
-/
import Derived.Test.YtjonbhimbhidpaaDoorWalkK
namespace Go.Proofs.YtjonbhimbhidpaaDoor
open Go.RowKit

def strs (xs : List Str) : List Value := xs.map fun x => Value.string (strB x)
theorem strs_length (xs : List Str) : (strs xs).length = xs.length := by simp [strs]
theorem strs_append (xs : List Str) (z : Str) : strs (xs ++ [z]) = strs xs ++ [.string (strB z)] := by simp [strs]
/-- the call's own slice of strings -/
def OwnT (w : World) (B : Nat) (v : Value) (xs : List Str) : Prop := w.ownsRow B 9 1 v xs.length (strs xs)
theorem ownT_nil (w : World) (B : Nat) : OwnT w B (.slice none 0 0) [] := World.ownsRow_nil _ _ _ _
theorem ownT_made (w : World) (B : Nat) (hB : B ≤ w.heap.size) : OwnT (w.alloc (.cells #[] 9)) B (.slice (some ⟨w.heap.size, 0, none⟩) 0 0) [] := World.ownsRow_made w #[] 0 hB (by decide) rfl
theorem ownT_lt {w : World} {B : Nat} {v : Value} {xs : List Str} (h : OwnT w B v xs) : ∀ k, v.ownBlock = some k → B ≤ k ∧ k < w.heap.size := h.lt
theorem row_mono {w : World} {B B' n size : Nat} {e : TypeId} {v : Value} {xs : List Value} (h : w.ownsRow B e size v n xs) (hb : B' ≤ B) : w.ownsRow B' e size v n xs := by
  obtain ⟨h1, h2⟩ := h
  refine ⟨h1, h2.imp_right ?_⟩
  rintro ⟨g, cap, cur, rfl, hB, r⟩
  exact ⟨g, cap, cur, rfl, Nat.le_trans hb hB, r⟩
theorem ownT_mono {w : World} {B B' : Nat} {v : Value} {xs : List Str} (h : OwnT w B v xs) (hb : B' ≤ B) : OwnT w B' v xs := row_mono h hb
theorem row_below {w w' : World} {B n size : Nat} {e : TypeId} {v : Value} {xs : List Value} (h : w.ownsRow B e size v n xs) (hb : Below w.heap.size w w') : w'.ownsRow B e size v n xs := by
  have hlt := h.lt
  obtain ⟨h1, h2⟩ := h
  refine ⟨h1, h2.imp_right ?_⟩
  rintro ⟨g, cap, cur, rfl, hB, hh, r⟩
  exact ⟨g, cap, cur, rfl, hB, by rw [hb.block g (hlt g rfl).2]; exact hh, r⟩
theorem ownT_below {w w' : World} {B : Nat} {v : Value} {xs : List Str} (h : OwnT w B v xs) (hb : Below w.heap.size w w') : OwnT w' B v xs := row_below h hb
theorem row_slice {w : World} {B n size : Nat} {e : TypeId} {v : Value} {xs : List Value} (h : w.ownsRow B e size v n xs) : ∃ a c, v = .slice a n c := by
  obtain ⟨_, ⟨rfl, h2⟩ | ⟨g, cap, cur, rfl, _⟩⟩ := h
  · exact ⟨none, 0, by rw [h2]⟩
  · exact ⟨_, _, rfl⟩
theorem row_cells1 {w : World} {B n : Nat} {e : TypeId} {v : Value} {xs : List Value} (h : w.ownsRow B e 1 v n xs) : ∃ a c, v = .slice a n c ∧ n ≤ maxLen ∧ xs.length = n ∧ ∀ i, i < n → ∃ g, a = some ⟨g, 0, none⟩ ∧ w.cell? ⟨g, i, none⟩ = xs[i]? ∧ ∃ cs, w.heap[g]? = some (.cells cs e) := by
  obtain ⟨h1, h2 | ⟨g, cap, cur, rfl, hB, hh, hn, hm, hs, ht⟩⟩ := h
  · obtain ⟨rfl, h0⟩ := h2
    refine ⟨none, 0, by rw [h0], by omega, by omega, fun i hi => by omega⟩
  · refine ⟨_, cap, rfl, by omega, by omega, fun i hi => ⟨g, rfl, ?_, cur, hh⟩⟩
    rw [World.cell?, hh, ← ht, List.getElem?_take, if_pos (by omega)]
    simp
theorem ownT_isStrs {w : World} {B : Nat} {v : Value} {xs : List Str} (h : OwnT w B v xs) (hl : xs.length ≤ 1000000) : IsStrs w v xs := by
  obtain ⟨a, c, rfl, _, _, hc⟩ := row_cells1 h
  refine ⟨a, c, rfl, hl, fun i hi => ?_⟩
  obtain ⟨g, ha, hcell, _⟩ := hc i hi
  refine ⟨g, ha, hcell.trans ?_⟩
  simp [strs, hi]
theorem info9 : (Tryd.prog.info? 9).map (fun i => (i.zero, i.size, i.bytes)) = some (some (.string ⟨#[]⟩), 1, 16) := by kernel_rfl
theorem info71 : (Tryd.prog.info? 71).map (fun i => (i.zero, i.size, i.bytes)) = some (some (.slice none 0 0), 1, 24) := by kernel_rfl
theorem info3 : (Tryd.prog.info? 3).map (fun i => (i.zero, i.size, i.bytes)) = some (some (.int .i64 0), 1, 8) := by kernel_rfl
theorem app_below {w w' : World} {v v' : Value} {B : Nat} (ha : AppTo w v w' v') (hB : B ≤ w.heap.size) (hv : ∀ k, v.ownBlock = some k → B ≤ k) : Below B w w' := (Below.refl B w).grown ha.grown hB hv
/-- append of one string -/
theorem wpl_app_str {ops : Array Oper} {rest : List Oper} {o : Oper} {a : Act} {Q : Exit → Act → World → Prop} {W : World} (z : Str)
    (s x : Operand) (v : Value) (B : Nat) (xs : List Str)
    (hgd : o.guard = none) (ho : o.op = .call { callee := .builtin .append, args := #[s, x], argTypes := #[71, 71] })
    (hs : a.eval s = v) (hx : a.eval x = .slice (some ⟨W.heap.size, 0, none⟩) 1 1)
    (hown : OwnT W B v xs) (hlen : xs.length < 1000000) (hB : B ≤ W.heap.size)
    (h : ∀ v' w', OwnT w' B v' (xs ++ [z]) → Below B W w' → wpList Tryd.prog ops Q rest (a.put o.dst v') w') :
    wpList Tryd.prog ops Q (o :: rest) a (W.alloc (.cells #[.string (strB z)] 9)) :=
  wpl_appn hgd s x 71 9 ho (.string ⟨#[]⟩) 1 16 info9 rfl (by decide) Tryd.underlying71 v B xs.length (strs xs) hs hown [.string (strB z)] rfl (by simp [Value.oneCell']) hx
    (by omega) (by unfold maxLen; omega) hB
    (fun v' w' h1 h2 => h v' w' (by unfold OwnT; rw [strs_append, List.length_append]; exact h1) (((Below.refl B W).alloc hB _).trans (app_below h2 (by simp; omega) (fun k hk => (hown.lt k hk).1))))

/-- the call's own slice of slices of strings -/
def OwnG (w : World) (B : Nat) (v : Value) (g : Grid) : Prop :=
  ∃ us : List Value, w.ownsRow B 71 1 v g.length us ∧ us.length = g.length ∧ ∀ i, i < g.length → OwnT w B (us.getD i undef) (g.getD i [])
theorem ownG_nil (w : World) (B : Nat) : OwnG w B (.slice none 0 0) [] := ⟨[], World.ownsRow_nil _ _ _ _, rfl, fun i h => by simp at h⟩
theorem ownG_made (w : World) (B : Nat) (hB : B ≤ w.heap.size) : OwnG (w.alloc (.cells #[] 71)) B (.slice (some ⟨w.heap.size, 0, none⟩) 0 0) [] := ⟨[], World.ownsRow_made w #[] 0 hB (by decide) rfl, rfl, fun i h => by simp at h⟩
theorem ownG_lt {w : World} {B : Nat} {v : Value} {g : Grid} (h : OwnG w B v g) : ∀ k, v.ownBlock = some k → B ≤ k ∧ k < w.heap.size := by
  obtain ⟨us, h, _⟩ := h
  exact h.lt
theorem ownG_slice {w : World} {B : Nat} {v : Value} {g : Grid} (h : OwnG w B v g) : ∃ a c, v = .slice a g.length c := by
  obtain ⟨us, h, _⟩ := h
  exact row_slice h
theorem ownT_slice {w : World} {B : Nat} {v : Value} {xs : List Str} (h : OwnT w B v xs) : ∃ a c, v = .slice a xs.length c := row_slice h
theorem ownG_below {w w' : World} {B : Nat} {v : Value} {g : Grid} (h : OwnG w B v g) (hb : Below w.heap.size w w') : OwnG w' B v g := by
  obtain ⟨us, h1, h2, h3⟩ := h
  exact ⟨us, row_below h1 hb, h2, fun i hi => ownT_below (h3 i hi) hb⟩
theorem ownG_mono {w : World} {B B' : Nat} {v : Value} {g : Grid} (h : OwnG w B v g) (hb : B' ≤ B) : OwnG w B' v g := by
  obtain ⟨us, h1, h2, h3⟩ := h
  exact ⟨us, row_mono h1 hb, h2, fun i hi => ownT_mono (h3 i hi) hb⟩
theorem ownG_isGrid {w : World} {B : Nat} {v : Value} {g : Grid} (h : OwnG w B v g) (hl : g.length ≤ 1000000) (hl2 : ∀ p ∈ g, p.length ≤ 1000000) : IsGrid w v g := by
  obtain ⟨us, h1, h2, h3⟩ := h
  obtain ⟨a, c, rfl, _, _, hc⟩ := row_cells1 h1
  refine ⟨a, c, rfl, hl, fun i hi => ?_⟩
  obtain ⟨gb, ha, hcell, _⟩ := hc i hi
  have hu : us[i]? = some (us.getD i undef) := by simp [h2 ▸ hi]
  refine ⟨gb, us.getD i undef, ha, hcell.trans hu, ownT_isStrs (h3 i hi) (hl2 _ ?_)⟩
  simp [hi]
theorem ownT_type {w : World} {B : Nat} {v : Value} {xs : List Str} (h : OwnT w B v xs) : ∀ k, v.ownBlock = some k → ∃ cs, w.heap[k]? = some (.cells cs 9) := by
  obtain ⟨_, ⟨rfl, h2⟩ | ⟨g, cap, cur, rfl, hB, hh, _⟩⟩ := h
  · intro k hk; simp [Value.ownBlock] at hk
  · intro k hk
    simp [Value.ownBlock] at hk
    subst hk
    exact ⟨_, hh⟩
theorem ownG_type {w : World} {B : Nat} {v : Value} {g : Grid} (h : OwnG w B v g) : ∀ k, v.ownBlock = some k → ∃ cs, w.heap[k]? = some (.cells cs 71) := by
  obtain ⟨us, ⟨_, ⟨rfl, h2⟩ | ⟨g, cap, cur, rfl, hB, hh, _⟩⟩, _⟩ := h
  · intro k hk; simp [Value.ownBlock] at hk
  · intro k hk
    simp [Value.ownBlock] at hk
    subst hk
    exact ⟨_, hh⟩
/-- append of one row -/
theorem wpl_app_row {ops : Array Oper} {rest : List Oper} {o : Oper} {a : Act} {Q : Exit → Act → World → Prop} {W : World} (u : Value) (z : List Str)
    (s x : Operand) (v : Value) (B : Nat) (g : Grid)
    (hgd : o.guard = none) (ho : o.op = .call { callee := .builtin .append, args := #[s, x], argTypes := #[22, 22] })
    (hs : a.eval s = v) (hx : a.eval x = .slice (some ⟨W.heap.size, 0, none⟩) 1 1)
    (hown : OwnG W B v g) (hu : OwnT W B u z) (hlen : g.length < 1000000) (hB : B ≤ W.heap.size)
    (h : ∀ v' w', OwnG w' B v' (g ++ [z]) → Below B W w' → wpList Tryd.prog ops Q rest (a.put o.dst v') w') :
    wpList Tryd.prog ops Q (o :: rest) a (W.alloc (.cells #[u] 71)) := by
  have hty := ownG_type hown
  have hlt := ownG_lt hown
  obtain ⟨us, h1, h2, h3⟩ := hown
  have hu1 : u.oneCell' = true := by obtain ⟨a, c, rfl⟩ := ownT_slice hu; rfl
  refine wpl_appn hgd s x 22 71 ho (.slice none 0 0) 1 24 info71 rfl (by decide) Tryd.underlying22 v B g.length us hs h1 [u] rfl (by simpa using hu1) hx
    (by omega) (by unfold maxLen; omega) hB ?_
  intro v' w' g1 g2
  have hkeep : ∀ (q : Value) (ys : List Str), OwnT W B q ys → OwnT w' B q ys := by
    intro q ys hq
    have hqt := ownT_type hq
    have hql := ownT_lt hq
    have hq2 : OwnT (W.alloc (.cells #[u] 71)) B q ys := ownT_below hq ((Below.refl _ _).alloc (Nat.le_refl _) _)
    refine World.ownsRow.kept hq2 g2.grown ?_
    cases hk : q.ownBlock with
    | none => exact .inl rfl
    | some k =>
      refine .inr fun e => ?_
      obtain ⟨c1, e1⟩ := hqt k hk
      obtain ⟨c2, e2⟩ := hty k e.symm
      rw [e1] at e2
      simp at e2
  refine h v' w' ⟨us ++ [u], by rw [List.length_append]; exact g1, by simp [h2], fun i hi => ?_⟩ (((Below.refl B W).alloc hB _).trans (app_below g2 (by simp; omega) (fun k hk => (hlt k hk).1)))
  rw [List.length_append] at hi
  by_cases hi2 : i < g.length
  · have e1 : (us ++ [u]).getD i undef = us.getD i undef := by simp [List.getD, List.getElem?_append, h2 ▸ hi2]
    have e2 : (g ++ [z]).getD i [] = g.getD i [] := by simp [List.getD, List.getElem?_append, hi2]
    rw [e1, e2]
    exact hkeep _ _ (h3 i hi2)
  · obtain rfl : i = g.length := by simp at hi; omega
    have e1 : (us ++ [u]).getD g.length undef = u := by rw [← h2]; simp [List.getD]
    have e2 : (g ++ [z]).getD g.length [] = z := by simp [List.getD]
    rw [e1, e2]
    exact hkeep _ _ hu
end Go.Proofs.YtjonbhimbhidpaaDoor
