/-
  Words on memory for chapter 12: appends of many numbers in a region that draws.
-/
import Derived.Test.YtaedbkdimpdngaaWalkV
namespace Go.Proofs.Ytaedbkdimpdngaa
open Go.RowKit
section
variable {md : Region.Mode} {ops : Array Oper} {Q : Exit → Act → World → Prop} {S : World → Prop} {fuel : Nat} {listed : Array Bool} {a : Act} {w : World} {i : Nat} {o : Oper} {rs : List Nat}
theorem node_none24 (d : Nat) (hi : ops[i]? = some o) (hgd : o.guard = none) (ho : o.op = .buildSlice 24 0 #[]) (hd : o.dst = some d)
    (hS : S (w.alloc (.cells #[] 3)))
    (h : S (w.alloc (.cells #[] 3)) → wpAnyH Try.prog md ops Q S fuel (listed.setIfInBounds i true) (a.put (some d) (.slice (some ⟨w.heap.size, 0, none⟩) 0 0)) (w.alloc (.cells #[] 3)))
    (hs : AllReadyH Try.prog md ops Q S fuel listed a w rs) : AllReadyH Try.prog md ops Q S fuel listed a w (i :: rs) := by
  refine AllReadyH.cons hi (fun K hK => ?_) hs
  have hw : Region.wanted o (yielded ops a.tmps) = true := by simp [Region.wanted, hgd]
  rw [if_pos hw]
  have hk := hK.out _ _ hS h
  unfold Oper.wp execOp
  simp [ho, go_sem]
  rw [hd]
  exact hk
theorem node_app24n (d B : Nat) (ks kx : Nat) (v : Value) (xs : List Value) (src : Value) (m : Nat) (us : List Value)
    (hi : ops[i]? = some o) (hgd : o.guard = none) (ho : o.op = .call { callee := .builtin .append, args := #[.tmp ks, .tmp kx], argTypes := #[24, 24] }) (hd : o.dst = some d)
    (hs' : a.tmps[ks]?.getD undef = v) (hx : a.tmps[kx]?.getD undef = src) (hsrc : Rd w src m 1 us)
    (hown : OwnV w B 3 v xs) (hB : B ≤ w.heap.size) (hlen : xs.length ≤ 1000000 ∧ m ≤ 1000000)
    (h : ∀ v' w', OwnV w' B 3 v' (xs ++ us) → w.grownBy w' v.ownBlock → S w' ∧ wpAnyH Try.prog md ops Q S fuel (listed.setIfInBounds i true) (a.put (some d) v') w')
    (hs : AllReadyH Try.prog md ops Q S fuel listed a w rs) : AllReadyH Try.prog md ops Q S fuel listed a w (i :: rs) := by
  refine AllReadyH.cons hi (fun K hK => ?_) hs
  have hw : Region.wanted o (yielded ops a.tmps) = true := by simp [Region.wanted, hgd]
  rw [if_pos hw]
  have hinf := info3
  cases hi0 : Try.prog.info? 3 with
  | none => rw [hi0] at hinf; cases hinf
  | some inf =>
    rw [hi0] at hinf
    simp only [Option.map_some, Option.some.injEq, Prod.mk.injEq] at hinf
    obtain ⟨e1, e2, e3⟩ := hinf
    have a1 : a.eval (.tmp ks) = v := by simpa [Act.eval] using hs'
    have a2 : a.eval (.tmp kx) = src := by simpa [Act.eval] using hx
    obtain ⟨r1, r2, ⟨rfl, rfl⟩ | ⟨ad, c, rfl, hlt, hc⟩⟩ := hsrc
    · have hr := run_append_owned_none (P := Try.prog) w B 24 o.type 3 inf 1 Try.underlying24 hi0 _ xs.length xs hown
      unfold Oper.wp execOp
      simp only [ho, resolve, invoke, builtin, Sem.run_bind, Sem.run_pure, Result.andThen_ok, List.map_toArray, List.map_cons, List.map_nil, a1, a2, hr]
      have hus : us = [] := List.length_eq_zero_iff.1 (by simpa using r1)
      subst hus
      show K (a.put o.dst v) w
      rw [hd]
      have h2 := h v w (by rw [List.append_nil]; exact hown) ⟨rfl, rfl, rfl, Nat.le_refl _, fun _ _ _ => rfl⟩
      exact hK.out _ _ h2.1 (fun _ => h2.2)
    · refine wp_append_own w (.tmp ks) (.tmp kx) 24 ho B 3 inf (.int .i64 0) 1 8 Try.underlying24 hi0 e1 e2 e3 rfl (by decide) v xs.length xs a1 hown ad m c us a2 r1 hc r2 (by unfold maxLen; omega) (by omega) hB ?_
      intro v' w' hv hgr _
      rw [hd]
      have hul : us.length = m := by simpa using r1
      have h2 := h v' w' (by unfold OwnV; rw [List.length_append, hul]; exact hv) hgr
      exact hK.out _ _ h2.1 (fun _ => h2.2)
end
/-- a part of an own list as a source of an append -/
theorem ownV_rd {w : World} {B : Nat} {e : TypeId} {g n c : Nat} {xs : List Value} (h : OwnV w B e (.slice (some ⟨g, 0, none⟩) n c) xs) (h1 : ∀ u ∈ xs, u.oneCell' = true) (i j : Nat) (hij : i ≤ j) (hj : j ≤ xs.length) (c' : Nat) :
    Rd w (.slice (some ⟨g, i, none⟩) (j - i) c') (j - i) 1 ((xs.drop i).take (j - i)) := by
  refine ⟨by rw [List.length_take, List.length_drop]; omega, fun u hu => h1 u (List.mem_of_mem_drop (List.mem_of_mem_take hu)), .inr ⟨⟨g, i, none⟩, c', rfl, fun _ => (ownV_le h).2, fun k u hk => ?_⟩⟩
  have hk2 := (List.getElem?_eq_some_iff.1 hk).1
  rw [List.length_take, List.length_drop] at hk2
  have hadd : (⟨g, i, none⟩ : Addr).add k = ⟨g, i + k, none⟩ := by
    unfold Addr.add
    split <;> simp_all
  rw [hadd, ownV_cell h (i + k) (by omega)]
  rw [List.getElem?_take_of_lt (by omega), List.getElem?_drop] at hk
  rw [List.getD_eq_getElem?_getD, hk]
  rfl
end Go.Proofs.Ytaedbkdimpdngaa
