/-
  Words on memory for chapter 12: rows of lists, made in a region that draws.
-/
import Derived.Test.YtaedbkdimpdngaaWalkX
namespace Go.Proofs.Ytaedbkdimpdngaa
open Go.RowKit
section
variable {md : Region.Mode} {ops : Array Oper} {Q : Exit → Act → World → Prop} {S : World → Prop} {fuel : Nat} {listed : Array Bool} {a : Act} {w : World} {i : Nat} {o : Oper} {rs : List Nat}
theorem node_none46 (d : Nat) (hi : ops[i]? = some o) (hgd : o.guard = none) (ho : o.op = .buildSlice 46 0 #[]) (hd : o.dst = some d)
    (hS : S (w.alloc (.cells #[] 24)))
    (h : S (w.alloc (.cells #[] 24)) → wpAnyH Try.prog md ops Q S fuel (listed.setIfInBounds i true) (a.put (some d) (.slice (some ⟨w.heap.size, 0, none⟩) 0 0)) (w.alloc (.cells #[] 24)))
    (hs : AllReadyH Try.prog md ops Q S fuel listed a w rs) : AllReadyH Try.prog md ops Q S fuel listed a w (i :: rs) := by
  refine AllReadyH.cons hi (fun K hK => ?_) hs
  have hw : Region.wanted o (yielded ops a.tmps) = true := by simp [Region.wanted, hgd]
  rw [if_pos hw]
  have hk := hK.out _ _ hS h
  unfold Oper.wp execOp
  simp [ho, go_sem]
  rw [hd]
  exact hk
theorem node_app46n (d B : Nat) (ks kx : Nat) (v : Value) (xs : List Value) (src : Value) (m : Nat) (us : List Value)
    (hi : ops[i]? = some o) (hgd : o.guard = none) (ho : o.op = .call { callee := .builtin .append, args := #[.tmp ks, .tmp kx], argTypes := #[46, 46] }) (hd : o.dst = some d)
    (hs' : a.tmps[ks]?.getD undef = v) (hx : a.tmps[kx]?.getD undef = src) (hsrc : Rd w src m 1 us)
    (hown : OwnV w B 24 v xs) (hB : B ≤ w.heap.size) (hlen : xs.length ≤ 1000000 ∧ m ≤ 1000000)
    (h : ∀ v' w', OwnV w' B 24 v' (xs ++ us) → w.grownBy w' v.ownBlock → S w' ∧ wpAnyH Try.prog md ops Q S fuel (listed.setIfInBounds i true) (a.put (some d) v') w')
    (hs : AllReadyH Try.prog md ops Q S fuel listed a w rs) : AllReadyH Try.prog md ops Q S fuel listed a w (i :: rs) := by
  refine AllReadyH.cons hi (fun K hK => ?_) hs
  have hw : Region.wanted o (yielded ops a.tmps) = true := by simp [Region.wanted, hgd]
  rw [if_pos hw]
  have hinf := info24
  cases hi0 : Try.prog.info? 24 with
  | none => rw [hi0] at hinf; cases hinf
  | some inf =>
    rw [hi0] at hinf
    simp only [Option.map_some, Option.some.injEq, Prod.mk.injEq] at hinf
    obtain ⟨e1, e2, e3⟩ := hinf
    have a1 : a.eval (.tmp ks) = v := by simpa [Act.eval] using hs'
    have a2 : a.eval (.tmp kx) = src := by simpa [Act.eval] using hx
    obtain ⟨r1, r2, ⟨rfl, rfl⟩ | ⟨ad, c, rfl, hlt, hc⟩⟩ := hsrc
    · have hr := run_append_owned_none (P := Try.prog) w B 46 o.type 24 inf 1 Try.underlying46 hi0 _ xs.length xs hown
      unfold Oper.wp execOp
      simp only [ho, resolve, invoke, builtin, Sem.run_bind, Sem.run_pure, Result.andThen_ok, List.map_toArray, List.map_cons, List.map_nil, a1, a2, hr]
      have hus : us = [] := List.length_eq_zero_iff.1 (by simpa using r1)
      subst hus
      show K (a.put o.dst v) w
      rw [hd]
      have h2 := h v w (by rw [List.append_nil]; exact hown) ⟨rfl, rfl, rfl, Nat.le_refl _, fun _ _ _ => rfl⟩
      exact hK.out _ _ h2.1 (fun _ => h2.2)
    · refine wp_append_own w (.tmp ks) (.tmp kx) 46 ho B 24 inf (.slice none 0 0) 1 24 Try.underlying46 hi0 e1 e2 e3 rfl (by decide) v xs.length xs a1 hown ad m c us a2 r1 hc r2 (by unfold maxLen; omega) (by omega) hB ?_
      intro v' w' hv hgr _
      rw [hd]
      have hul : us.length = m := by simpa using r1
      have h2 := h v' w' (by unfold OwnV; rw [List.length_append, hul]; exact hv) hgr
      exact hK.out _ _ h2.1 (fun _ => h2.2)
theorem node_build46 (d k : Nat) (z : Option Addr) (zn zc : Nat) (hi : ops[i]? = some o) (hgd : Region.wanted o (yielded ops a.tmps) = true) (ho : o.op = .buildSlice 46 1 #[(0, .tmp k)]) (hd : o.dst = some d)
    (hp : a.tmps[k]?.getD undef = .slice z zn zc) (hS : S (w.alloc (.cells #[.slice z zn zc] 24)))
    (h : S (w.alloc (.cells #[.slice z zn zc] 24)) → wpAnyH Try.prog md ops Q S fuel (listed.setIfInBounds i true) (a.put (some d) (.slice (some ⟨w.heap.size, 0, none⟩) 1 1)) (w.alloc (.cells #[.slice z zn zc] 24)))
    (hs : AllReadyH Try.prog md ops Q S fuel listed a w rs) : AllReadyH Try.prog md ops Q S fuel listed a w (i :: rs) := by
  refine AllReadyH.cons hi (fun K hK => ?_) hs
  rw [if_pos hgd]
  have hk := hK.out _ _ hS h
  unfold Oper.wp execOp
  simp [ho, go_sem, hp]
  rw [hd]
  exact hk
end
theorem ownV_capN {w : World} {B : Nat} {e : TypeId} {a : Option Addr} {n c : Nat} {xs : List Value} (h : OwnV w B e (.slice a n c) xs) : n ≤ c := by
  unfold OwnV World.ownsRow at h
  obtain ⟨_, h | ⟨g, c', cs, hv, _, _, hc, _⟩⟩ := h
  · have := h.1; simp_all
  · cases hv
    have := hc
    omega
/-- the call's own row of lists -/
def OwnRows (w : World) (B : Nat) (v : Value) (us : List Value) (Ls : List (List Nat)) : Prop :=
  us.length = Ls.length ∧ OwnV w B 24 v us ∧ ∀ j, j < Ls.length → IsV w (us.getD j undef) ((Ls.getD j []).map iv)
theorem ownRows_below {w w' : World} {B : Nat} {v : Value} {us : List Value} {Ls : List (List Nat)} (h : OwnRows w B v us Ls) (hb : Below w.heap.size w w') : OwnRows w' B v us Ls :=
  ⟨h.1, ownV_below h.2.1 hb, fun j hj => isV_below (h.2.2 j hj) hb⟩
theorem ownRows_isLL {w : World} {B : Nat} {v : Value} {us : List Value} {Ls : List (List Nat)} (h : OwnRows w B v us Ls) (hl : Ls.length ≤ 1000000) : IsLL w v Ls :=
  ⟨us, h.1, ownV_isV h.2.1 (by rw [h.1]; exact hl), h.2.2⟩
theorem ownRows_one {w : World} {B : Nat} {v : Value} {us : List Value} {Ls : List (List Nat)} (h : OwnRows w B v us Ls) : ∀ u ∈ us, u.oneCell' = true := fun u hu => by
  obtain ⟨i, hi, rfl⟩ := List.mem_iff_getElem.1 hu
  obtain ⟨a, c, e⟩ := isV_slice (h.2.2 i (by rw [← h.1]; exact hi))
  rw [List.getD_eq_getElem?_getD, List.getElem?_eq_getElem hi] at e
  change us[i] = _ at e
  rw [e]; rfl
/-- one list more, in its place -/
theorem ownRows_ins {w : World} {B : Nat} {v : Value} {us : List Value} {Ls : List (List Nat)} {x : List Nat} {lv : Value} {k : Nat} (h1 : us.length = Ls.length) (h2 : ∀ j, j < Ls.length → IsV w (us.getD j undef) ((Ls.getD j []).map iv)) (hk : k ≤ us.length)
    (hx : IsV w lv (x.map iv)) (ho : OwnV w B 24 v (us.take k ++ [lv] ++ us.drop k)) : OwnRows w B v (us.take k ++ [lv] ++ us.drop k) (Ls.take k ++ [x] ++ Ls.drop k) := by
  have hl1 : (us.take k).length = k := by rw [List.length_take]; omega
  have hl2 : (Ls.take k).length = k := by rw [List.length_take]; omega
  refine ⟨by simp; omega, ho, fun j hj => ?_⟩
  have hj2 : j < Ls.length + 1 := by simp at hj; omega
  rw [List.append_assoc, List.append_assoc, List.getD_eq_getElem?_getD, List.getD_eq_getElem?_getD]
  by_cases hjk : j < k
  · rw [List.getElem?_append_left (by omega), List.getElem?_append_left (by omega), List.getElem?_take_of_lt hjk, List.getElem?_take_of_lt hjk, ← List.getD_eq_getElem?_getD, ← List.getD_eq_getElem?_getD]
    exact h2 j (by omega)
  · have e1 : (us.take k ++ ([lv] ++ us.drop k))[j]? = ([lv] ++ us.drop k)[j - k]? := by rw [List.getElem?_append_right (by omega), hl1]
    have e2 : (Ls.take k ++ ([x] ++ Ls.drop k))[j]? = ([x] ++ Ls.drop k)[j - k]? := by rw [List.getElem?_append_right (by omega), hl2]
    rw [e1, e2]
    by_cases he : j = k
    · subst he
      rw [Nat.sub_self]
      exact hx
    · obtain ⟨m, hm⟩ : ∃ m, j - k = m + 1 := ⟨j - k - 1, by omega⟩
      rw [hm]
      simp only [List.singleton_append, List.getElem?_cons_succ, List.getElem?_drop]
      have e : k + m = j - 1 := by omega
      rw [e, ← List.getD_eq_getElem?_getD, ← List.getD_eq_getElem?_getD]
      exact h2 (j - 1) (by omega)
theorem insL_at {x : List Nat} : ∀ {Ls : List (List Nat)} {k : Nat}, k ≤ Ls.length → (∀ j, j < k → ltL (Ls.getD j []) x = true) → (k < Ls.length → ltL (Ls.getD k []) x = false) → insL x Ls = Ls.take k ++ [x] ++ Ls.drop k
  | [], k, hk, _, _ => by
    have h0 : k = 0 := by simpa using hk
    subst h0; rfl
  | y :: Ls, 0, _, _, h2 => by
    have h3 : ltL y x = false := h2 (by simp)
    rw [insL_cons, h3]; rfl
  | y :: Ls, k + 1, hk, h1, h2 => by
    have h3 : ltL y x = true := h1 0 (by omega)
    have h4 := insL_at (x := x) (Ls := Ls) (k := k) (by simpa using hk) (fun j hj => h1 (j + 1) (by omega)) (fun hj => h2 (by simpa using hj))
    rw [insL_cons, h3, if_pos rfl, h4]; rfl
theorem lists_snoc (l : List Nat) (i : Nat) (h : i < l.length) : lists (l.take (i + 1)) = insL (elems (l.getD i 0)) (lists (l.take i)) := by
  rw [List.take_succ_eq_append_getElem h]
  unfold lists
  rw [List.foldl_append, List.getD_eq_getElem?_getD, List.getElem?_eq_getElem h]
  rfl
theorem lists_len (l : List Nat) : (lists l).length = l.length := by rw [(lists_perm l).length_eq, List.length_map]
end Go.Proofs.Ytaedbkdimpdngaa
