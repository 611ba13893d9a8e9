/-
  Words for the law of more moves and jolts of chapter 6.
-/
import Derived.Test.YtjonbhimbhidpaaDoorBaseS
namespace Go.Proofs.YtjonbhimbhidpaaDoor
open Go.RowKit
theorem heap_alloc3a (w : World) (a b c : Obj) : (((w.alloc a).alloc b).alloc c).heap[w.heap.size]? = some a := by
  rw [Below.heap_alloc _ _ _ (by simp; omega), Below.heap_alloc _ _ _ (by simp)]
  exact heap_alloc_new _ _
theorem heap_alloc3b (w : World) (a b c : Obj) : (((w.alloc a).alloc b).alloc c).heap[w.heap.size + 1]? = some b := by
  rw [Below.heap_alloc _ _ _ (by simp), show w.heap.size + 1 = (w.alloc a).heap.size by simp]
  exact heap_alloc_new _ _
theorem heap_alloc3c (w : World) (a b c : Obj) : (((w.alloc a).alloc b).alloc c).heap[w.heap.size + 2]? = some c := by
  rw [show w.heap.size + 2 = ((w.alloc a).alloc b).heap.size by simp]
  exact heap_alloc_new _ _
theorem rd_row {w : World} {B n size : Nat} {e : TypeId} {v : Value} {xs : List Value} (h : w.ownsRow B e size v n xs) (h1 : ∀ u ∈ xs, u.oneCell' = true) : Rd w v n size xs := by
  obtain ⟨hl, ⟨rfl, h2⟩ | ⟨g, cap, cur, rfl, hB, hh, hn, hm, hs, ht⟩⟩ := h
  · exact ⟨hl, h1, .inl ⟨rfl, h2⟩⟩
  · refine ⟨hl, h1, .inr ⟨⟨g, 0, none⟩, cap, rfl, fun _ => heap_lt hh, fun j u hj => ?_⟩⟩
    have hjl : j < n * size := by
      have := (List.getElem?_eq_some_iff.1 hj).1
      omega
    rw [← ht, List.getElem?_take, if_pos hjl] at hj
    have e1 : (Addr.add ⟨g, 0, none⟩ j) = ⟨g, j, none⟩ := by
      unfold Addr.add
      split
      · subst_vars; rfl
      · simp
    rw [e1, World.cell?, hh]
    simpa using hj
theorem rd_take {w : World} {a : Option Addr} {n c size k : Nat} {xs : List Value} (h : Rd w (.slice a n c) n size xs) (hk : k ≤ n) (h0 : a = none → k = 0 ∧ c = 0) : Rd w (.slice a k c) k size (xs.take (k * size)) := by
  obtain ⟨hl, h1, h2⟩ := h
  have hks : k * size ≤ n * size := Nat.mul_le_mul_right _ hk
  refine ⟨by rw [List.length_take]; omega, fun u hu => h1 u (List.mem_of_mem_take hu), ?_⟩
  rcases h2 with ⟨e, rfl⟩ | ⟨ad, c', e, hlt, hc⟩
  · cases e
    obtain ⟨rfl, _⟩ := h0 rfl
    exact .inl ⟨rfl, rfl⟩
  · cases e
    refine .inr ⟨ad, c, rfl, fun hp => hlt ?_, fun j u hj => hc j u ?_⟩
    · rw [List.length_take] at hp; omega
    · rw [List.getElem?_take] at hj
      split at hj
      · exact hj
      · cases hj
theorem isJl_take {w : World} {a : Option Addr} {n c : Nat} {js : List (Int × Int)} (h : IsJl w (.slice a n c) js) (k : Nat) (hk : k ≤ js.length) : IsJl w (.slice a k c) (js.take k) := by
  obtain ⟨a', c', e, hl, hc⟩ := h
  cases e
  refine ⟨a, c, by rw [List.length_take, Nat.min_eq_left hk], by rw [List.length_take]; omega, fun i hi => ?_⟩
  rw [List.length_take] at hi
  obtain ⟨g, hg, c0, c1⟩ := hc i (by omega)
  have e1 : jlAt (js.take k) i = jlAt js i := by
    unfold jlAt
    simp [List.getD, show i < k by omega]
  exact ⟨g, hg, by rw [e1]; exact c0, by rw [e1]; exact c1⟩
theorem mv_slice {w : World} {v : Value} {ms : List Mv} (h : IsMv w v ms) : ∃ a c, v = .slice a ms.length c := by
  obtain ⟨a, c, rfl, _⟩ := h
  exact ⟨a, c, rfl⟩
theorem row_cap {w : World} {B n size c : Nat} {e : TypeId} {a : Option Addr} {m : Nat} {xs : List Value} (h : w.ownsRow B e size (.slice a m c) n xs) : m = n ∧ m ≤ c ∧ c ≤ maxLen ∧ (a = none → m = 0 ∧ c = 0) := by
  obtain ⟨hl, ⟨h2, rfl⟩ | ⟨g, cap, cur, h2, hB, hh, hn, hm, hs, ht⟩⟩ := h
  · cases h2
    exact ⟨rfl, by omega, by decide, fun _ => ⟨rfl, rfl⟩⟩
  · cases h2
    exact ⟨rfl, hn, hm, fun e => (by cases e)⟩
/-- two boxes just made, filled one after the other -/
theorem two_store {W : World} {p q : Nat} {u v z x1 x2 x3 y1 y2 y3 : Value} (hne : p ≠ q) (hp : W.heap[p]? = some (.cells #[x1, x2, x3] 26)) (hq : W.heap[q]? = some (.cells #[y1, y2, y3] 26)) :
    ((((((W.setCell ⟨p, 0, none⟩ u).setCell ⟨p, 1, none⟩ v).setCell ⟨p, 2, none⟩ z).setCell ⟨q, 0, none⟩ u).setCell ⟨q, 1, none⟩ v).setCell ⟨q, 2, none⟩ z).heap[p]? = some (.cells #[u, v, z] 26) ∧
    ((((((W.setCell ⟨p, 0, none⟩ u).setCell ⟨p, 1, none⟩ v).setCell ⟨p, 2, none⟩ z).setCell ⟨q, 0, none⟩ u).setCell ⟨q, 1, none⟩ v).setCell ⟨q, 2, none⟩ z).heap[q]? = some (.cells #[u, v, z] 26) := by
  constructor
  · rw [Below.heap_setCell _ _ _ _ hne, Below.heap_setCell _ _ _ _ hne, Below.heap_setCell _ _ _ _ hne]
    exact store3 hp
  · refine store3 (a := y1) (b := y2) (c := y3) ?_
    rw [Below.heap_setCell _ _ _ _ (Ne.symm hne), Below.heap_setCell _ _ _ _ (Ne.symm hne), Below.heap_setCell _ _ _ _ (Ne.symm hne)]
    exact hq
theorem cells2_of {W : World} {g : Nat} {a b : Value} {t : TypeId} (h : W.heap[g]? = some (.cells #[a, b] t)) : W.cell? ⟨g, 0, none⟩ = some a ∧ W.cell? ⟨g, 1, none⟩ = some b := by
  constructor <;> simp [World.cell?, h]
theorem two_made (w : World) (a b : Obj) : w.heap.size ≠ (w.alloc a).heap.size ∧ ((w.alloc a).alloc b).heap[w.heap.size]? = some a ∧ ((w.alloc a).alloc b).heap[(w.alloc a).heap.size]? = some b ∧ w.heap.size ≤ (w.alloc a).heap.size := by
  refine ⟨by simp, ?_, heap_alloc_new _ _, by simp⟩
  rw [Below.heap_alloc _ _ _ (by simp)]
  exact heap_alloc_new _ _
theorem two_keep {W : World} {p q : Nat} {u v z y1 y2 y3 : Value} (hne : p ≠ q) (hq : W.heap[q]? = some (.cells #[y1, y2, y3] 26)) :
    (((W.setCell ⟨p, 0, none⟩ u).setCell ⟨p, 1, none⟩ v).setCell ⟨p, 2, none⟩ z).heap[q]? = some (.cells #[y1, y2, y3] 26) := by
  rw [Below.heap_setCell _ _ _ _ (Ne.symm hne), Below.heap_setCell _ _ _ _ (Ne.symm hne), Below.heap_setCell _ _ _ _ (Ne.symm hne)]
  exact hq
theorem isMv_snoc {w : World} {B : Nat} {v : Value} {ms : List Mv} {m : Mv} (h : w.ownsRow B 53 4 v (ms.length + 1) (mcells ms ++ [.int .i64 m.1, .int .i64 m.2.1, .int .i64 m.2.2.1, .int .i64 m.2.2.2])) (hl : ms.length ≤ 1000) : IsMv w v (ms ++ [m]) := by
  have e : (ms ++ [m]).length = ms.length + 1 := by simp
  exact row_isMv (by rw [e, mcells_snoc]; exact h) (by rw [e]; omega)
theorem isJl_snoc {w : World} {B : Nat} {v : Value} {js : List (Int × Int)} {m : Int × Int} {n : Nat} (h : w.ownsRow B 55 2 v (n + 1) (jcells js ++ [.int .i64 m.1, .int .i64 m.2])) (hn : n = js.length) (hl : js.length ≤ 1000) : IsJl w v (js ++ [m]) := by
  subst hn
  have e : (js ++ [m]).length = js.length + 1 := by simp
  exact row_isJl (by rw [e, jcells_snoc]; exact h) (by rw [e]; omega)
theorem in_kk {w : World} {v : Value} {o : Ov} (hok : o.Ok) (hg : IsGrid w v (o.gridOf o.KK)) (c : Sp) (hc : o.ex c = true) :
    Calls Tryd.prog 29 #[v, spv c] w fun e w' => e = .returned (.bool (o.KK c)) ∧ Below w.heap.size w w' := by
  have h := rIn_any v _ o c w hg hok (form_gridOf o o.KK) hc
  rwa [inG_gridOf o o.KK c hc] at h
set_option maxHeartbeats 1000000 in
theorem formL_any (vs vm vj u : Value) (o : Ov) (g : Grid) (w : World) (ho : IsOv w vs vm vj o) (hd : o.Dim) (hg : IsGrid w u g) (hs : ShortG g) :
    Calls Tryd.prog 27 #[.agg #[vs, vm, vj], u] w fun e w' => e = .returned (.bool (formB o.P o.R o.C g)) ∧ Below w.heap.size w w' := by
  have hB := (Below.refl w.heap.size w).alloc (Nat.le_refl _) (.cells #[vs, vm, vj] 26)
  have cf := hid (form_any vs vm vj u o g _ (isOv_below ho hB) hd (isGrid_below hg hB) hs)
  have HB := hid hB
  obtain ⟨⟨a1, k1, rfl, -, -⟩, ⟨a2, k2, rfl, -, -⟩, ⟨a3, k3, rfl, -, -⟩⟩ := ho
  obtain ⟨a4, k4, rfl, -, -⟩ := hg
  clear hB
  go_enter Tryd.func27, Tryd.ntmps27
  go_wp2_with (first | (go_at_call 37; refine cf.out.mono ?_; rintro e w5 ⟨rfl, hb5⟩; have HB5 := hid hb5; clear hb5) | fail)
  go_ret
  exact ⟨rfl, HB.out.trans (HB5.out.mono (by simp))⟩
theorem form_kk {w : World} {vs vm vj u : Value} {o o' : Ov} (ho : IsOv w vs vm vj o) (hok : o.Ok) (hs : o'.safe = o.safe) (hg : IsGrid w u (o'.gridOf o'.KK)) :
    Calls Tryd.prog 27 #[.agg #[vs, vm, vj], u] w fun e w' => e = .returned (.bool true) ∧ Below w.heap.size w w' := by
  have hf : formB o.P o.R o.C (o'.gridOf o'.KK) = true := by
    have h := form_gridOf o' o'.KK
    have eP : o'.P = o.P := by unfold Ov.P; rw [hs]
    have eR : o'.R = o.R := by unfold Ov.R; rw [hs]
    have eC : o'.C = o.C := by unfold Ov.C; rw [hs]
    rwa [eP, eR, eC] at h
  have h := formL_any vs vm vj u o _ w ho (dim_of_ok hok) hg (short_form hf hok.c.2)
  rwa [hf] at h
theorem ex_safe {o o' : Ov} (hs : o'.safe = o.safe) (c : Sp) : o'.ex c = o.ex c := by
  unfold Ov.ex Ov.P Ov.R Ov.C
  rw [hs]
theorem K0_safe {o o' : Ov} (hs : o'.safe = o.safe) (c : Sp) : o'.K 0 c = o.K 0 c := by
  simp only [Ov.K]
  rw [ex_safe hs, hs]
/-- Kernel of a valid oven, as a set -/
theorem kernel_set {w : World} (vs vm vj : Value) (o : Ov) (ho : IsOv w vs vm vj o) (hok : o.Ok) :
    Calls Tryd.prog 25 #[.agg #[vs, vm, vj]] w fun e w' => ∃ a n c, e = .returned (.tuple #[.slice a n c, .int .i64 0]) ∧ IsGrid w' (.slice a n c) (o.gridOf o.KK) ∧ Below w.heap.size w w' := by
  refine (kernel_ok (w0 := w) (Below.refl _ _) vs vm vj o ho hok (valid_ok hok)).mono ?_
  rintro e w' ⟨a, c, rfl, hg, hb⟩
  exact ⟨a, _, c, rfl, gridOf_isGrid hok hg, hb⟩
end Go.Proofs.YtjonbhimbhidpaaDoor
