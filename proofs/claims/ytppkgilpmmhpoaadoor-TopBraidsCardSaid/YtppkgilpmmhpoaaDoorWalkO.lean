/-
  Room for some numbers (29); appends of many numbers.
-/
import Derived.Test.YtppkgilpmmhpoaaDoorBaseE
import Derived.Test.YtppkgilpmmhpoaaDoorBaseD
import Derived.Lib.AppendZerosOnto
namespace Go.Proofs.YtppkgilpmmhpoaaDoor
open Go.RowKit
/-- append of some numbers to an own slice -/
theorem wpl_app_rd {ops : Array Oper} {rest : List Oper} {o : Oper} {a : Act} {Q : Exit → Act → World → Prop} {W : World} (s x : Operand) (v : Value) (B : Nat) (xs : List Value) (src : Value) (m : Nat) (us : List Value)
    (hgd : o.guard = none) (ho : o.op = .call { callee := .builtin .append, args := #[s, x], argTypes := #[22, 22] })
    (hs : a.eval s = v) (hx : a.eval x = src) (hown : OwnV W B 3 v xs) (hsrc : Rd W src m 1 us) (hlen : xs.length ≤ 1000000 ∧ m ≤ 1000000) (hB : B ≤ W.heap.size)
    (h : ∀ v' w', OwnV w' B 3 v' (xs ++ us) → W.grownBy w' v.ownBlock → wpList Tryd.prog ops Q rest (a.put o.dst v') w') :
    wpList Tryd.prog ops Q (o :: rest) a W := by
  have hinf := info3
  cases hi0 : Tryd.prog.info? 3 with
  | none => rw [hi0] at hinf; cases hinf
  | some inf =>
    rw [hi0] at hinf
    simp only [Option.map_some, Option.some.injEq, Prod.mk.injEq] at hinf
    obtain ⟨e1, e2, e3⟩ := hinf
    obtain ⟨r1, r2, ⟨rfl, rfl⟩ | ⟨ad, c, rfl, hlt, hc⟩⟩ := hsrc
    · have hr := run_append_owned_none (P := Tryd.prog) W B 22 o.type 3 inf 1 Tryd.underlying22 hi0 _ xs.length xs hown
      refine wpList_plain hgd fun K hK => ?_
      unfold Oper.wp execOp
      simp only [ho, resolve, invoke, builtin, Sem.run_bind, Sem.run_pure, Result.andThen_ok, List.map_toArray, List.map_cons, List.map_nil, hs, hx, hr]
      have hus : us = [] := List.length_eq_zero_iff.1 (by simpa using r1)
      subst hus
      exact hK _ _ (h v W (by rw [List.append_nil]; exact hown) ⟨rfl, rfl, rfl, Nat.le_refl _, fun _ _ _ => rfl⟩)
    · refine wpList_plain hgd fun K hK => ?_
      refine wp_append_own W s x 22 ho B 3 inf (.int .i64 0) 1 8 Tryd.underlying22 hi0 e1 e2 e3 rfl (by decide) v xs.length xs hs hown ad m c us hx r1 hc r2 (by unfold maxLen; omega) (by omega) hB ?_
      intro v' w' hv hgr _
      have hul : us.length = m := by simpa using r1
      exact hK _ _ (h v' w' (by unfold OwnV; rw [List.length_append, hul]; exact hv) hgr)
/-- room for n numbers -/
theorem grow_any (n : Nat) (w : World) (hn : 0 < n ∧ n ≤ 1000) :
    Calls Tryd.prog 29 #[.slice none 0 0, .int .i64 (n : Int)] w fun e w' => ∃ v, e = .returned v ∧ OwnV w' w.heap.size 3 v [] ∧ Below w.heap.size w w' := by
  obtain ⟨hn0, hn1⟩ := hn
  have hinf := info3
  cases hi0 : Tryd.prog.info? 3 with
  | none => rw [hi0] at hinf; cases hinf
  | some inf =>
    rw [hi0] at hinf
    simp only [Option.map_some, Option.some.injEq, Prod.mk.injEq] at hinf
    obtain ⟨e1, e2, e3⟩ := hinf
    have hold : (Builtin.firstCells inf.size 0 (.slice none 0 0)).run Tryd.prog w.drew = .ok ([] : List Value).toArray w.drew := run_firstCells_none w.drew inf.size 0 0 0
    have hrz : ∀ ty, (Builtin.append_ #[22, 3] ty #[.slice none 0 0, .int .i64 (n : Int)]).run Tryd.prog w = .ok (.slice (some ⟨w.heap.size, 0, none⟩) n (grownCap w n 0 3)) (w.drew.alloc (.cells (([] : List Value).toArray ++ Builtin.zeroCells (Value.int .i64 0).cells n ++ Builtin.zeroCells (Value.int .i64 0).cells (grownCap w n 0 3 - n)) 3)) := fun ty => by
      have h := Lib.run_append_grow_zeros w 22 3 ty 3 inf (.int .i64 0) .i64 .i64 Tryd.underlying22 Tryd.underlying3 hi0 e1 none 0 0 [] hold n hn0 (by omega) (by omega) (by omega) (by rw [e3]; omega) (growslice_fits (by omega) (by rw [e3]; omega))
      rw [Nat.zero_add] at h
      exact h
    have hGn : n ≤ grownCap w n 0 3 := grownCap_ge w _ _ _
    have hGm := grownCap_le_maxLen w n 0 3 (by unfold maxLen; omega)
    obtain ⟨G, hG⟩ : ∃ G, G = grownCap w n 0 3 := ⟨_, rfl⟩
    rw [← hG] at hrz hGn hGm
    have hG63 : G ≤ 9223372036854775807 := by unfold maxLen at hGm; omega
    obtain ⟨cs, hcs⟩ : ∃ cs, cs = ([] : List Value).toArray ++ Builtin.zeroCells (Value.int .i64 0).cells n ++ Builtin.zeroCells (Value.int .i64 0).cells (G - n) := ⟨_, rfl⟩
    have HCS : Hid (cs.size = G * 1) := by
      show _ = _
      rw [hcs, Array.size_append, Array.size_append, size_zeroCells, size_zeroCells]
      simp [Value.cells]
      omega
    have HGM := hid hGm
    rw [← hcs] at hrz
    have HOW : Hid (OwnV (w.drew.alloc (.cells cs 3)) w.heap.size 3 (.slice (some ⟨w.heap.size, 0, none⟩) 0 G) []) := by
      refine ⟨rfl, .inr ⟨w.heap.size, G, cs, rfl, Nat.le_refl _, heap_alloc_new w.drew _, Nat.zero_le _, HGM.out, HCS.out, by simp⟩⟩
    have HBL : Hid (Below w.heap.size w (w.drew.alloc (.cells cs 3))) := ((Below.refl _ w).drew).alloc (Nat.le_refl _) _
    clear hcs hG hold hGm hi0 e1 e2 e3
    have h1 : ¬ ((n : Int) < 0) := by omega
    have h4 : (n : Int) > 0 := by omega
    go_enter Tryd.func29, Tryd.ntmps29
    go_wp2_with (at_builtin; refine Lib.wpList_append_run _ rfl _ _ _ _ rfl _ _ rfl rfl _ _ (hrz _) ?_)
    all_goals (go_ret; exact ⟨_, rfl, HOW.out, HBL.out⟩)
end Go.Proofs.YtppkgilpmmhpoaaDoor
