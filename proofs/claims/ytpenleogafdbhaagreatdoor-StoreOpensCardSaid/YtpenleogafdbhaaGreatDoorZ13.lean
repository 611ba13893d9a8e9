/-
  Appends of many values; clones of slices.
  Replace: a new head, new runs.
  Acts leave good disks; the acts of replace, one after the other.
  A store that replace has turned.
  Nodes of regions: a slice of one string, an append.
  Whether a name is in a list of names.
-/
import Derived.Test.YtpenleogafdbhaaGreatDoorZ12
import Derived.Laws.AppendOwnNone
import Derived.BigRegion
namespace Go.Proofs.YtpenleogafdbhaaGreatDoor
open Go.RowKit Go.Maps Go.ChangeMaps Go.WideElems Go.WideShapes Go.WideAt Go.WideMaps
/-- a source of values -/
def SrcV (w : World) (v : Value) (us : List Value) : Prop := (v = .slice none 0 0 ∧ us = []) ∨ ∃ ad c, v = .slice (some ad) us.length c ∧ ∀ (j : Nat) u, us[j]? = some u → w.cell? (ad.add j) = some u
theorem add0 (g j : Nat) : (⟨g, 0, none⟩ : Addr).add j = ⟨g, j, none⟩ := by unfold Addr.add; split <;> simp_all
theorem ownV_src {w : World} {B : Nat} {e : TypeId} {v : Value} {xs : List Value} (h : OwnV w B e v xs) : SrcV w v xs := by
  have h0 := h
  obtain ⟨_, ⟨rfl, h3⟩ | ⟨g, cap, cur, rfl, hB, _⟩⟩ := h
  · exact .inl ⟨rfl, List.eq_nil_of_length_eq_zero h3⟩
  · refine .inr ⟨_, _, rfl, fun j u hj => ?_⟩
    have hl := (List.getElem?_eq_some_iff.1 hj).1
    rw [add0, ownV_cell h0 j hl, List.getD_eq_getElem?_getD, hj]
    rfl
theorem isV_src {w : World} {a : Addr} {c : Nat} {xs : List Value} {n : Nat} (h : IsV w (.slice (some a) n c) xs) : SrcV w (.slice (some a) n c) xs := by
  obtain ⟨a', c', hv, _, hc⟩ := h
  cases hv
  refine .inr ⟨_, _, rfl, fun j u hj => ?_⟩
  have hl := (List.getElem?_eq_some_iff.1 hj).1
  obtain ⟨g, hg, hcell⟩ := hc j hl
  cases hg
  rw [add0, hcell, List.getD_eq_getElem?_getD, hj]
  rfl
theorem SrcV.below {w w' : World} {v : Value} {us : List Value} (h : SrcV w v us) (hb : Below w.heap.size w w') : SrcV w' v us := by
  rcases h with h | ⟨ad, c, rfl, hc⟩
  · exact .inl h
  · exact .inr ⟨ad, c, rfl, fun j u hj => (hb.cell (World.block_lt_of_cell? w _ (hc j u hj))).trans (hc j u hj)⟩
theorem wpl_app_vs {ops : Array Oper} {rest : List Oper} {o : Oper} {a : Act} {Q : Exit → Act → World → Prop} {W : World} (t e : TypeId) (z0 : Value) (bytes : Nat)
    (hinf : (Tryz.prog.info? e).map (fun i => (i.zero, i.size, i.bytes)) = some (some z0, 1, bytes)) (hz : z0.cells.size = 1) (ht : Tryz.prog.underlying t = some (.slice e)) (hb24 : bytes ≤ 24)
    (s y : Operand) (v u : Value) (B : Nat) (xs us : List Value)
    (hgd : o.guard = none) (ho : o.op = .call { callee := .builtin .append, args := #[s, y], argTypes := #[t, t] })
    (hs : a.eval s = v) (hy : a.eval y = u) (hu1 : ∀ x ∈ us, x.oneCell' = true)
    (hown : OwnV W B e v xs) (hsrc : SrcV W u us) (hlen : xs.length ≤ 1000000) (hlen2 : us.length ≤ 1000000) (hB : B ≤ W.heap.size)
    (h : ∀ v' w', OwnV w' B e v' (xs ++ us) → Below B W w' → W.grownBy w' v.ownBlock → wpList Tryz.prog ops Q rest (a.put o.dst v') w') :
    wpList Tryz.prog ops Q (o :: rest) a W := by
  cases hi0 : Tryz.prog.info? e with
  | none => rw [hi0] at hinf; cases hinf
  | some i =>
    rw [hi0] at hinf
    simp only [Option.map_some, Option.some.injEq, Prod.mk.injEq] at hinf
    obtain ⟨h1, h2, h3⟩ := hinf
    rcases hsrc with ⟨hu0, rfl⟩ | ⟨ad, c, rfl, hc⟩
    · rw [hu0] at hy
      refine wpList_append_own_none hgd s y t ho B e i 1 ht hi0 v xs.length xs hs hown hy ?_
      exact h v W (by rw [List.append_nil]; exact hown) (Below.refl _ _) ⟨rfl, rfl, rfl, Nat.le_refl _, fun _ _ _ => rfl⟩
    · have hmx : (9223372036854775807 : Nat) = maxLen := rfl
      refine wpList_append_own_at W hgd s y t ho B e i z0 1 bytes ht hi0 h1 h2 h3 hz (by decide) v xs.length xs hs hown ad us.length c us hy (by rw [Nat.mul_one]) hc hu1 (by omega) (by
        have : (xs.length + us.length) * bytes ≤ 2000000 * 24 := Nat.mul_le_mul (by omega) hb24
        omega) hB ?_
      intro v' w' r1 r2 _ r4
      refine h v' w' (by unfold OwnV; rw [List.length_append]; exact r1) ?_ r2
      exact (Below.refl B W).grown r2 hB fun k hk => (hown.lt k hk).1
theorem info3 : (Tryz.prog.info? 3).map (fun i => (i.zero, i.size, i.bytes)) = some (some (.int .i64 0), 1, 8) := by kernel_rfl
theorem info105 : (Tryz.prog.info? 105).map (fun i => (i.zero, i.size, i.bytes)) = some (some (.map none), 1, 8) := by kernel_rfl
set_option maxRecDepth 100000 in
set_option maxHeartbeats 2000000 in
theorem cloneI_any (v : Value) (us : List Value) (w : World) (hv : IsV w v us) (h1 : ∀ x ∈ us, x.oneCell' = true) (hl : us.length ≤ 1000000) :
    Calls Tryz.prog 138 #[v] w fun e w' => ∃ v', e = .returned v' ∧ OwnV w' w.heap.size 3 v' us ∧ Below w.heap.size w w' := by
  obtain ⟨a, c, rfl⟩ := isV_slice hv
  have heq := Go.Lib.run_eql_slice_nil w 25 3 a us.length c 0 0 Tryz.underlying25
  cases a with
  | none =>
    have hu : us = [] := by
      cases us with
      | nil => rfl
      | cons x r => obtain ⟨g, hg, -⟩ := isV_at hv 0 (by simp); cases hg
    subst hu
    dsimp only [Option.isNone_none, List.length_nil] at heq ⊢
    clear hv
    go_enter Tryz.func138, Tryz.ntmps138
    go_wp2_with fail
    go_ret
    exact ⟨_, rfl, ownV_nil _ _ _, Below.refl _ _⟩
  | some ad =>
    dsimp only [Option.isNone_some] at heq
    have HS := hid ((isV_src hv).below (ba w (.cells #[] 3)))
    have HL := hid hl
    have H1 := hid h1
    obtain ⟨n, hn⟩ : ∃ n, n = us.length := ⟨_, rfl⟩
    rw [← hn] at HS heq ⊢
    have HN := hid hn
    clear hv hl h1 hn
    go_enter Tryz.func138, Tryz.ntmps138
    go_upto_region 3 with fail
    go_wp2_with (first
      | (at_builtin; refine wpl_app_vs 25 3 (.int .i64 0) 8 info3 rfl Tryz.underlying25 (by decide) _ _ (.slice (some ⟨w.heap.size, 0, none⟩) 0 0) (.slice (some ad) n c) w.heap.size [] us (by rfl) (by rfl) (by rfl) (by rfl) H1.out (ownV_made w w.heap.size 3 (Nat.le_refl _)) HS.out (Nat.zero_le _) HL.out (ba w _).size ?_; intro v5 w5 ho5 hb5 hg5; have HO5 := hid ho5; have HB5 := hid ((ba w (.cells #[] 3)).trans hb5); obtain ⟨a5, n5, c5, rfl⟩ := ownV_sh ho5; clear ho5 hb5 hg5)
      | fail)
    go_ret
    exact ⟨_, rfl, HO5.out, HB5.out⟩
set_option maxRecDepth 100000 in
set_option maxHeartbeats 2000000 in
theorem cloneT_any (v : Value) (us : List Value) (w : World) (hv : IsV w v us) (h1 : ∀ x ∈ us, x.oneCell' = true) (hl : us.length ≤ 1000000) :
    Calls Tryz.prog 117 #[v] w fun e w' => ∃ v', e = .returned v' ∧ OwnV w' w.heap.size 105 v' us ∧ Below w.heap.size w w' := by
  obtain ⟨a, c, rfl⟩ := isV_slice hv
  have heq := Go.Lib.run_eql_slice_nil w 106 105 a us.length c 0 0 Tryz.underlying106
  cases a with
  | none =>
    have hu : us = [] := by
      cases us with
      | nil => rfl
      | cons x r => obtain ⟨g, hg, -⟩ := isV_at hv 0 (by simp); cases hg
    subst hu
    dsimp only [Option.isNone_none, List.length_nil] at heq ⊢
    clear hv
    go_enter Tryz.func117, Tryz.ntmps117
    go_wp2_with fail
    go_ret
    exact ⟨_, rfl, ownV_nil _ _ _, Below.refl _ _⟩
  | some ad =>
    dsimp only [Option.isNone_some] at heq
    have HS := hid ((isV_src hv).below (ba w (.cells #[] 105)))
    have HL := hid hl
    have H1 := hid h1
    obtain ⟨n, hn⟩ : ∃ n, n = us.length := ⟨_, rfl⟩
    rw [← hn] at HS heq ⊢
    have HN := hid hn
    clear hv hl h1 hn
    go_enter Tryz.func117, Tryz.ntmps117
    go_upto_region 3 with fail
    go_wp2_with (first
      | (at_builtin; refine wpl_app_vs 106 105 (.map none) 8 info105 rfl Tryz.underlying106 (by decide) _ _ (.slice (some ⟨w.heap.size, 0, none⟩) 0 0) (.slice (some ad) n c) w.heap.size [] us (by rfl) (by rfl) (by rfl) (by rfl) H1.out (ownV_made w w.heap.size 105 (Nat.le_refl _)) HS.out (Nat.zero_le _) HL.out (ba w _).size ?_; intro v5 w5 ho5 hb5 hg5; have HO5 := hid ho5; have HB5 := hid ((ba w (.cells #[] 105)).trans hb5); obtain ⟨a5, n5, c5, rfl⟩ := ownV_sh ho5; clear ho5 hb5 hg5)
      | fail)
    go_ret
    exact ⟨_, rfl, HO5.out, HB5.out⟩
end Go.Proofs.YtpenleogafdbhaaGreatDoor

namespace Go.Proofs.YtpenleogafdbhaaGreatDoor
open Go.RowKit Go.Maps Go.ChangeMaps Go.WideElems Go.WideShapes Go.WideAt Go.WideMaps
section
variable {md : Region.Mode} {ops : Array Oper} {Q : Exit → Act → World → Prop} {S : World → Prop} {fuel : Nat} {listed : Array Bool} {a : Act} {w : World} {i : Nat} {o : Oper} {rs : List Nat}
theorem node_alloc103 (d : Nat) (hi : ops[i]? = some o) (hgd : o.guard = none) (ho : o.op = .alloc 103) (hd : o.dst = some d) (hS : S (w.alloc (.cells #[.int .i64 0, .slice none 0 0, .int .i64 0] 103)))
    (h : S (w.alloc (.cells #[.int .i64 0, .slice none 0 0, .int .i64 0] 103)) → wpAnyH Tryz.prog md ops Q S fuel (listed.setIfInBounds i true) (a.put (some d) (.pointer (some ⟨w.heap.size, 0, none⟩))) (w.alloc (.cells #[.int .i64 0, .slice none 0 0, .int .i64 0] 103)))
    (hs : AllReadyH Tryz.prog md ops Q S fuel listed a w rs) : AllReadyH Tryz.prog md ops Q S fuel listed a w (i :: rs) := by
  refine AllReadyH.cons hi (fun K hK => ?_) hs
  have hw : Region.wanted o (yielded ops a.tmps) = true := by simp [Region.wanted, hgd]
  rw [if_pos hw]
  have hk := hK.out _ _ hS h
  unfold Oper.wp execOp
  simp [ho, go_sem]
  rw [hd]
  exact hk
theorem node_store103 (k j X : Nat) (x y z : Value) (n m : Int) (a2 : Option Addr) (n2 c2 : Nat)
    (hi : ops[i]? = some o) (hgd : o.guard = none) (ho : o.op = .store 103 (.tmp k) (.tmp j)) (hd : o.dst = none)
    (hp : a.tmps[k]?.getD undef = .pointer (some ⟨X, 0, none⟩)) (hv : a.tmps[j]?.getD undef = .agg #[.int .i64 n, .slice a2 n2 c2, .int .i64 m])
    (hh : w.heap[X]? = some (.cells #[x, y, z] 103))
    (hS : S (((w.setCell ⟨X, 0, none⟩ (.int .i64 n)).setCell ⟨X, 1, none⟩ (.slice a2 n2 c2)).setCell ⟨X, 2, none⟩ (.int .i64 m)))
    (h : wpAnyH Tryz.prog md ops Q S fuel (listed.setIfInBounds i true) a (((w.setCell ⟨X, 0, none⟩ (.int .i64 n)).setCell ⟨X, 1, none⟩ (.slice a2 n2 c2)).setCell ⟨X, 2, none⟩ (.int .i64 m)))
    (hs : AllReadyH Tryz.prog md ops Q S fuel listed a w rs) : AllReadyH Tryz.prog md ops Q S fuel listed a w (i :: rs) := by
  refine AllReadyH.cons hi (fun K hK => ?_) hs
  have hw : Region.wanted o (yielded ops a.tmps) = true := by simp [Region.wanted, hgd]
  rw [if_pos hw]
  obtain ⟨k0, k1, k2⟩ := cells3_of hh
  obtain ⟨f0, f1, f2⟩ := free3_of hh
  have hk := hK.out _ _ hS (fun _ => h)
  unfold Oper.wp execOp
  simp [ho, go_sem, hp, hv, k0, k1, k2, f0, f1, f2]
  rw [hd]
  exact hk
end
theorem alloc_set3 (w : World) (x y z a b c : Value) (e : TypeId) : Below w.heap.size w ((((w.alloc (.cells #[x, y, z] e)).setCell ⟨w.heap.size, 0, none⟩ a).setCell ⟨w.heap.size, 1, none⟩ b).setCell ⟨w.heap.size, 2, none⟩ c) ∧
    ((((w.alloc (.cells #[x, y, z] e)).setCell ⟨w.heap.size, 0, none⟩ a).setCell ⟨w.heap.size, 1, none⟩ b).setCell ⟨w.heap.size, 2, none⟩ c).heap[w.heap.size]? = some (.cells #[a, b, c] e) := by
  have h := heap_alloc_new w (.cells #[x, y, z] e)
  refine ⟨?_, ?_⟩
  · exact (((ba w _).setCell (Nat.le_refl _) _).setCell (Nat.le_refl _) _).setCell (Nat.le_refl _) _
  · have h3 := modify_at (off := 2) (v := c) (modify_at (off := 1) (v := b) (modify_at (off := 0) (v := a) h))
    simpa using h3
theorem ownB_isB {w : World} {B : Nat} {v : Value} {bs : Bs} (h : OwnV w B 5 v (bs.map bv)) : IsB w v bs := by
  have h0 := h
  obtain ⟨_, ⟨rfl, h3⟩ | ⟨g, cap, cur, rfl, hB, hh, hn, _⟩⟩ := h
  · rw [List.length_map] at h3
    obtain rfl := List.eq_nil_of_length_eq_zero h3
    exact isB_nil _ _ _
  · rw [List.length_map] at hn ⊢
    refine ⟨_, _, rfl, hn, fun _ => ⟨g, 0, rfl, fun j hj => ?_⟩⟩
    rw [List.length_map] at h0
    rw [Nat.zero_add, ownV_cell h0 j (by rw [List.length_map]; exact hj), getD_map bv bs 0 j hj]
theorem ownV_built (w : World) (e : TypeId) (xs : List Value) (h1 : ∀ x ∈ xs, x.oneCell' = true) (hl : xs.length ≤ 1000) (B : Nat) (hB : B ≤ w.heap.size) : OwnV (w.alloc (.cells xs.toArray e)) B e (.slice (some ⟨w.heap.size, 0, none⟩) xs.length xs.length) xs := by
  refine ⟨by simp, .inr ⟨w.heap.size, xs.length, xs.toArray, rfl, hB, heap_alloc_new _ _, Nat.le_refl _, ?_, by simp, by simp⟩⟩
  exact Nat.le_trans hl (by decide)
/-- what replace has made ahead of its acts -/
structure Rep (w0 : World) (dp : Nat) (s : St) (b9 bh fb : Nat) (F : Tab) (restv hv tabsv : Value) (rest hr : List Nat) (R1 : List (Nat × Tab)) (w : World) : Prop where
  bw : Below w0.heap.size w0 w
  x9 : w.heap[b9]? = some (.cells #[.pointer (some ⟨dp, 0, none⟩)] 31)
  xh : w.heap[bh]? = some (.cells #[.int .i64 (s.head.next : Int), hv, .int .i64 ((s.head.next + 2 : Nat) : Int)] 103)
  hv : OwnV w w0.heap.size 3 hv (hr.map iv)
  rest : OwnV w w0.heap.size 3 restv (rest.map iv)
  tabs : OwnV w w0.heap.size 105 tabsv (R1.map fun p => .map (some p.1))
  fm : MapM Tryz.prog 9 w fb (tabV F)
  l9 : w0.heap.size ≤ b9
  lh : w0.heap.size ≤ bh
  nb : b9 ≠ bh
theorem Rep.below {w0 : World} {dp : Nat} {s : St} {b9 bh fb : Nat} {F : Tab} {restv hv tabsv : Value} {rest hr : List Nat} {R1 : List (Nat × Tab)} {w w' : World} (h : Rep w0 dp s b9 bh fb F restv hv tabsv rest hr R1 w) (hb : Below w.heap.size w w') : Rep w0 dp s b9 bh fb F restv hv tabsv rest hr R1 w' :=
  ⟨h.bw.trans (hb.mono h.bw.size), (hb.block _ (heap_lt h.x9)).trans h.x9, (hb.block _ (heap_lt h.xh)).trans h.xh, ownV_below h.hv hb, ownV_below h.rest hb, ownV_below h.tabs hb, h.fm.block (hb.block _ h.fm.lt), h.l9, h.lh, h.nb⟩

theorem Rep.other {w0 : World} {dp : Nat} {s : St} {b9 bh fb : Nat} {F : Tab} {restv hv tabsv : Value} {rest hr : List Nat} {R1 : List (Nat × Tab)} {w : World} (h : Rep w0 dp s b9 bh fb F restv hv tabsv rest hr R1 w) {k : Nat} {cs : Array Value} {t : TypeId} (hk : w.heap[k]? = some (.cells cs t)) (ht : t ≠ 103) : k ≠ bh := fun e => by
  rw [e, h.xh] at hk
  injection hk with hk
  injection hk with _ hk
  exact ht hk.symm
theorem Rep.setH {w0 : World} {dp : Nat} {s : St} {b9 bh fb : Nat} {F : Tab} {restv hv tabsv : Value} {rest hr : List Nat} {R1 : List (Nat × Tab)} {w : World} (h : Rep w0 dp s b9 bh fb F restv hv tabsv rest hr R1 w) (v : Value) (hr2 : List Nat) (ho : OwnV w w0.heap.size 3 v (hr2.map iv)) : Rep w0 dp s b9 bh fb F restv v tabsv rest hr2 R1 (w.setCell ⟨bh, 1, none⟩ v) := by
  have row : ∀ {e : TypeId} {u : Value} {xs : List Value}, e ≠ 103 → OwnV w w0.heap.size e u xs → OwnV (w.setCell ⟨bh, 1, none⟩ v) w0.heap.size e u xs := fun he hu => ownV_keep hu fun k hk => set_other (by
    obtain ⟨cs, hcs⟩ := row_type hu k hk
    exact h.other hcs he)
  refine ⟨h.bw.trans (((Below.refl _ w).setCell (p := ⟨bh, 1, none⟩) h.lh v)), (set_other h.nb).trans h.x9, by rw [modify_at h.xh]; rfl, row (by decide) ho, row (by decide) h.rest, row (by decide) h.tabs, h.fm.block (set_other fun e => ?_), h.l9, h.lh, h.nb⟩
  obtain ⟨es, c, hm⟩ := h.fm.kind
  have e : fb = bh := e
  rw [e, h.xh] at hm
  cases hm
/-- other tables -/
theorem Rep.tabs2 {w0 : World} {dp : Nat} {s : St} {b9 bh fb : Nat} {F : Tab} {restv hv tabsv : Value} {rest hr : List Nat} {R1 : List (Nat × Tab)} {w : World} (h : Rep w0 dp s b9 bh fb F restv hv tabsv rest hr R1 w) {tv2 : Value} {R2 : List (Nat × Tab)} (ho : OwnV w w0.heap.size 105 tv2 (R2.map fun p => .map (some p.1))) : Rep w0 dp s b9 bh fb F restv hv tv2 rest hr R2 w :=
  ⟨h.bw, h.x9, h.xh, h.hv, h.rest, ho, h.fm, h.l9, h.lh, h.nb⟩
theorem info42 : (Tryz.prog.info? 42).map (fun i => (i.zero, i.size, i.bytes)) = some (some .nilFunc, 1, 8) := by kernel_rfl
end Go.Proofs.YtpenleogafdbhaaGreatDoor

namespace Go.Proofs.YtpenleogafdbhaaGreatDoor
open Go.RowKit Go.Maps Go.ChangeMaps Go.WideElems Go.WideShapes Go.WideAt Go.WideMaps
theorem ready0 {d : Dk} {s : Bs} (h : ¬ d.ready s ≠ 0) : d.down = false ∧ badName s = false := by
  unfold Dk.ready at h
  cases hb : badName s <;> cases hd : d.down <;> simp [hb, hd] at h ⊢
theorem append_ok8 {d : Dk} (ok : d.Ok) (s b : Bs) : (d.append s b).2.Ok := by
  unfold Dk.append
  by_cases hr : d.ready s ≠ 0
  · rw [if_pos hr]; exact ok
  · rw [if_neg hr]
    obtain ⟨-, hn⟩ := ready0 hr
    by_cases hf : d.full s b
    · rw [if_pos hf]; exact ok
    · rw [if_neg hf]
      unfold Dk.full at hf
      refine Dk.Ok.act ⟨srt_mput _ _ ok.srt, ?_, ?_, ok.left, ok.opened, fun p hp => ?_, fun p hp => ?_⟩
      · show (mput _ _ d.files).length ≤ 60
        have h1 := len_mput_le s (⟨((mget s d.files).getD ⟨[], 0⟩).data ++ b, ((mget s d.files).getD ⟨[], 0⟩).safe⟩ : Fl) d.files ok.srt
        cases hg : mget s d.files with
        | none =>
          rw [hg] at hf h1
          simp at hf
          omega
        | some f =>
          rw [len_mput_has ok.srt hg]
          exact ok.few
      · rw [size_eq]
        have h1 := sizeF_mput s (⟨((mget s d.files).getD ⟨[], 0⟩).data ++ b, ((mget s d.files).getD ⟨[], 0⟩).safe⟩ : Fl) d.files ok.srt
        rw [size_eq] at hf
        show sizeF (mput _ _ d.files) ≤ _
        cases hg : mget s d.files with
        | none => rw [hg] at h1 hf; simp [lenO] at h1 hf; simp; omega
        | some f => rw [hg] at h1 hf; simp [lenO] at h1 hf; simp; omega
      · rcases mem_mput.1 hp with rfl | ⟨hp, -⟩
        · show ((mget s d.files).getD ⟨[], 0⟩).safe ≤ (((mget s d.files).getD ⟨[], 0⟩).data ++ b).length
          cases hg : mget s d.files with
          | none => exact Nat.zero_le _
          | some f =>
            have := ok.safe _ (mget_mem hg)
            rw [List.length_append]
            exact Nat.le_trans this (Nat.le_add_right _ _)
        · exact ok.safe p hp
      · rcases mem_mput.1 hp with rfl | ⟨hp, -⟩
        · exact hn
        · exact ok.name p hp
theorem remove_ok8 {d : Dk} (ok : d.Ok) (s : Bs) : (d.remove s).2.Ok := by
  by_cases hr : d.ready s ≠ 0
  · unfold Dk.remove; rw [if_pos hr]; exact ok
  · obtain ⟨hu, hn⟩ := ready0 hr
    cases hf : mget s d.files with
    | none => unfold Dk.remove; rw [if_neg hr, hf]; exact ok
    | some f => exact (remove_res ok hu hn (by rw [hf]; rfl)).1.ok
theorem rename_ok8 {d : Dk} (ok : d.Ok) (s t : Bs) : (d.rename s t).2.Ok := by
  by_cases hr : d.ready2 s t ≠ 0
  · unfold Dk.rename; rw [if_pos hr]; exact ok
  · cases hf : mget s d.files with
    | none => unfold Dk.rename; rw [if_neg hr, hf]; exact ok
    | some f =>
      unfold Dk.ready2 at hr
      have h : ¬ (badName s = true ∨ badName t = true ∨ s = t) := fun h => by rw [if_pos h] at hr; exact hr (by decide)
      rw [if_neg h] at hr
      refine (rename_res ok ?_ ?_ ?_ (fun e => h (.inr (.inr e))) hf).1.ok
      · cases hd : d.down with
        | false => rfl
        | true => rw [hd] at hr; exact absurd (by decide) hr
      · cases hb : badName s with
        | false => rfl
        | true => exact absurd (.inl hb) h
      · cases hb : badName t with
        | false => rfl
        | true => exact absurd (.inr (.inl hb)) h
def ls3 (h : Hd) : List (Dk → Nat × Dk) := [fun d => d.append nFresh h.bytes, fun d => d.sync nFresh, fun d => d.rename nFresh nHead]
theorem acts_ok8 : ∀ (ls : List (Dk → Nat × Dk)) (d : Dk), (∀ f ∈ ls, ∀ d : Dk, d.Ok → (f d).2.Ok) → d.Ok → (acts ls d).2.Ok
  | [], _, _, h => h
  | f :: r, d, hf, h => by
    rw [acts_cons]
    split
    · exact hf f List.mem_cons_self d h
    · exact acts_ok8 r _ (fun g hg => hf g (List.mem_cons_of_mem _ hg)) (hf f List.mem_cons_self d h)
theorem removes_ok8 {d : Dk} (h : d.Ok) : ∀ l, (acts (removes l) d).2.Ok := fun l => acts_ok8 _ d (fun f hf d h => by
  have : ∀ l : List Bs, f ∈ removes l → ∃ s, f = fun d => d.remove s := by
    intro l
    induction l with
    | nil => intro h; cases h
    | cons s r ih =>
      intro h
      rcases List.mem_cons.1 (show f ∈ (fun d => d.remove s) :: removes r from h) with e | h
      · exact ⟨s, e⟩
      · exact ih h
  obtain ⟨s, rfl⟩ := this l hf
  exact remove_ok8 h s) h
theorem ls3_ok8 (h : Hd) : ∀ f ∈ ls3 h, ∀ d : Dk, d.Ok → (f d).2.Ok := fun f hf => by
  simp only [ls3, List.mem_cons, List.not_mem_nil, or_false] at hf
  rcases hf with rfl | rfl | rfl
  · exact fun d h => append_ok8 h _ _
  · exact fun d h => sync_ok8 h _
  · exact fun d h => rename_ok8 h _ _
def fs3 (b9 bh : Nat) : List (Nat × Array Value) := [(168, #[.pointer (some ⟨b9, 0, none⟩), .pointer (some ⟨bh, 0, none⟩)]), (170, #[.pointer (some ⟨b9, 0, none⟩)]), (171, #[.pointer (some ⟨b9, 0, none⟩)])]
section
variable {w0 w : World} {sp dp mb tb vb : Nat} {L : Mp FileR} {rv qv : Value} {R : List (Nat × Tab)} {V : Mi (Nat × Tab)} {s : St} {d : Dk}
variable {b9 bh fb : Nat} {F : Tab} {restv hv tabsv : Value} {rest hr : List Nat} {R1 : List (Nat × Tab)}
theorem headActs (E0 : Env w0 sp dp mb tb vb L rv qv R V s d) (HR : Rep w0 dp s b9 bh fb F restv hv tabsv rest hr R1 w) (hrn : ∀ r ∈ hr, r < 100000000) (hrl : hr.length ≤ 1000) (hnx : s.head.next + 2 < 100000000)
    (v : Value) (B : Nat) (fs0 : List (Nat × Array Value)) (ls0 : List (Dk → Nat × Dk)) (h0 : fs0.length = ls0.length) (hl0 : fs0.length ≤ 10) (hva : OwnV w B 42 v ((fs0 ++ fs3 b9 bh).map fnV)) (hB : w0.heap.size ≤ B)
    (heg : ∀ p ∈ fs0, ∀ args w, (callFunc p.1 args).run Tryz.prog w = .ok (.enter p.1 args) w) (hok : ∀ f ∈ ls0, ∀ d : Dk, d.Ok → (f d).2.Ok)
    (hstep : ∀ (i : Nat) p f W L' d', fs0[i]? = some p → ls0[i]? = some f → DiskM W dp mb L' d' → d'.Ok → Chg (fun k => k = sp ∨ fpD dp mb L k) w W → New w (fpD dp mb L) (fpD dp mb L') → Calls Tryz.prog p.1 p.2 W (DoneD dp mb L' (f d') W)) :
    Calls Tryz.prog 80 #[.pointer (some ⟨sp, 0, none⟩), v] w fun e w' => e = .returned (.int .i64 ((acts (ls0 ++ ls3 ⟨s.head.next, hr, s.head.next + 2⟩) d).1 : Int)) ∧
      w'.heap[sp]? = some (.cells (stc dp s.turn (s.broken || (acts (ls0 ++ ls3 ⟨s.head.next, hr, s.head.next + 2⟩) d).1 == 8) (.int .i64 (s.head.log : Int)) rv (.int .i64 (s.head.next : Int)) (.map (some tb)) qv (.map (some vb)) (.int .i64 (s.next : Int))) 109) ∧
      Acted sp dp mb L (acts (ls0 ++ ls3 ⟨s.head.next, hr, s.head.next + 2⟩) d).2 w w' := by
  have E := E0.below HR.bw
  have hfoot : ∀ k, w0.heap.size ≤ k → ¬ (k = sp ∨ fpD dp mb L k) := fun k hk h => by
    have := E0.lt k (h.elim (fun e => .inl (.inl e)) .inr)
    omega
  refine actsL_any v (fs0 ++ fs3 b9 bh) (ls0 ++ ls3 ⟨s.head.next, hr, s.head.next + 2⟩) w (by rw [List.length_append, List.length_append, h0]; rfl) (by rw [List.length_append]; show fs0.length + 3 ≤ 1000; omega) (ownV_isV hva (by rw [List.length_map, List.length_append]; show fs0.length + 3 ≤ 1000000; omega)) ?_ ?_ ?_ ?_ E.dk E.ok E.st.cells E.sp_nd
  · intro k hk
    have h := hfoot k (Nat.le_trans hB (ownV_lt hva k hk).1)
    exact ⟨fun e => h (.inl e), fun e => h (.inr e)⟩
  · intro p hp
    rcases List.mem_append.1 hp with hp | hp
    · exact heg p hp
    · simp only [fs3, List.mem_cons, List.not_mem_nil, or_false] at hp
      rcases hp with rfl | rfl | rfl
      · exact enters168
      · exact enters170
      · exact enters171
  · intro f hf
    rcases List.mem_append.1 hf with hf | hf
    · exact hok f hf
    · simp only [ls3, List.mem_cons, List.not_mem_nil, or_false] at hf
      rcases hf with rfl | rfl | rfl
      · exact fun d h => append_ok8 h _ _
      · exact fun d h => sync_ok8 h _
      · exact fun d h => rename_ok8 h _ _
  · intro i p f W L' d' hp hf hd hok' hc hnw
    by_cases hi : i < fs0.length
    · rw [List.getElem?_append_left hi] at hp
      rw [List.getElem?_append_left (by omega)] at hf
      exact hstep i p f W L' d' hp hf hd hok' hc hnw
    · rw [List.getElem?_append_right (by omega)] at hp
      rw [List.getElem?_append_right (by omega), ← h0] at hf
      have hk : ∀ k, w0.heap.size ≤ k → k < w.heap.size → W.heap[k]? = w.heap[k]? := fun k h1 h2 => hc.block k h2 (hfoot k h1)
      have h9 := (hk b9 HR.l9 (heap_lt HR.x9)).trans HR.x9
      have hh := (hk bh HR.lh (heap_lt HR.xh)).trans HR.xh
      have hhv : OwnV W w0.heap.size 3 hv (hr.map iv) := ownV_keep HR.hv fun k hk2 => hk k (ownV_lt HR.hv k hk2).1 (ownV_lt HR.hv k hk2).2
      have hG : Glb W := E.g.chg hc fun k hk2 => E.lo k (hk2.elim (fun e => .inl (.inl e)) .inr)
      have hb : ∀ k, w0.heap.size ≤ k → k < w.heap.size → ¬ fpD dp mb L' k := fun k h1 h2 h3 => (hnw k h3).elim (fun h => hfoot k h1 (.inr h)) fun h => absurd h2 (Nat.not_lt.2 h)
      match i - fs0.length, hp, hf with
      | 0, hp, hf =>
        cases hp; cases hf
        exact act168 b9 bh ⟨s.head.next, hr, s.head.next + 2⟩ hv W h9 hh hd hok' (ownV_isV hhv (by rw [List.length_map]; show hr.length ≤ _; omega)) (by show s.head.next < _; omega) (by show s.head.next + 2 < _; omega) hrn hrl hG (hb b9 HR.l9 (heap_lt HR.x9)) (hb bh HR.lh (heap_lt HR.xh))
      | 1, hp, hf => cases hp; cases hf; exact act170 b9 W h9 hd hok'
      | 2, hp, hf => cases hp; cases hf; exact act171 b9 W h9 hd hok'
      | n + 3, hp, hf => cases hp
end
end Go.Proofs.YtpenleogafdbhaaGreatDoor

namespace Go.Proofs.YtpenleogafdbhaaGreatDoor
open Go.RowKit Go.Maps Go.ChangeMaps Go.WideElems Go.WideShapes Go.WideAt Go.WideMaps
theorem turned5 {w : World} {sp dp : Nat} {tn : Int} {bk : Bool} {a3 a4 a5 a6 a7 a8 a9 b3 b4 b5 b6 b7 : Value} (h : w.heap[sp]? = some (.cells (stc dp tn bk a3 a4 a5 a6 a7 a8 a9) 109)) :
    ((((((w.alloc (.map #[] 0)).setCell ⟨sp, 3, none⟩ b3).setCell ⟨sp, 4, none⟩ b4).setCell ⟨sp, 5, none⟩ b5).setCell ⟨sp, 7, none⟩ b7).setCell ⟨sp, 6, none⟩ b6).heap[sp]? = some (.cells (stc dp tn bk b3 b4 b5 b6 b7 a8 a9) 109) ∧
    Chg (fun k => k = sp) w ((((((w.alloc (.map #[] 0)).setCell ⟨sp, 3, none⟩ b3).setCell ⟨sp, 4, none⟩ b4).setCell ⟨sp, 5, none⟩ b5).setCell ⟨sp, 7, none⟩ b7).setCell ⟨sp, 6, none⟩ b6) ∧
    MapM Tryz.prog 9 ((((((w.alloc (.map #[] 0)).setCell ⟨sp, 3, none⟩ b3).setCell ⟨sp, 4, none⟩ b4).setCell ⟨sp, 5, none⟩ b5).setCell ⟨sp, 7, none⟩ b7).setCell ⟨sp, 6, none⟩ b6) w.heap.size (tabV []) := by
  have h0 := ((ba w (.map #[] 0)).block sp (heap_lt h)).trans h
  have hn : w.heap.size ≠ sp := fun e => by
    have := heap_lt h
    omega
  have hm := mapM_made w Tryz.prog 9
  have hc : Chg (fun k => k = sp) w (w.alloc (.map #[] 0)) := chg_alloc w _
  generalize w.alloc (.map #[] 0) = u at *
  refine ⟨?_, ((((hc.trans0 (chg_set rfl)).trans0 (chg_set rfl)).trans0 (chg_set rfl)).trans0 (chg_set rfl)).trans0 (chg_set rfl), ?_⟩
  · have h3 := modify_at (off := 3) (v := b3) h0
    generalize u.setCell ⟨sp, 3, none⟩ b3 = u3 at *
    have h4 := modify_at (off := 4) (v := b4) h3
    generalize u3.setCell ⟨sp, 4, none⟩ b4 = u4 at *
    have h5 := modify_at (off := 5) (v := b5) h4
    generalize u4.setCell ⟨sp, 5, none⟩ b5 = u5 at *
    have h7 := modify_at (off := 7) (v := b7) h5
    generalize u5.setCell ⟨sp, 7, none⟩ b7 = u7 at *
    have h6 := modify_at (off := 6) (v := b6) h7
    rw [h6]
    rfl
  · exact hm.block ((set_other hn).trans ((set_other hn).trans ((set_other hn).trans ((set_other hn).trans (set_other hn)))))
section
variable {w0 w13 w14 w16 : World} {sp dp mb tb vb : Nat} {L : Mp FileR} {rv qv : Value} {R : List (Nat × Tab)} {V : Mi (Nat × Tab)} {s s2 : St} {d d1 : Dk}
variable {b9 bh fb tb' : Nat} {F : Tab} {restv hv tabsv : Value} {rest hr : List Nat} {R1 : List (Nat × Tab)}
theorem replaced (E0 : Env w0 sp dp mb tb vb L rv qv R V s d) (HR : Rep w0 dp s b9 bh fb F restv hv tabsv rest hr R1 w13) (hA : Acted sp dp mb L d1 w13 w14) (ok1 : d1.Ok) {cs : Array Value} (hs14 : w14.heap[sp]? = some (.cells cs 109)) (hc : Chg (fun k => k = sp) w14 w16)
    (hsp : w16.heap[sp]? = some (.cells (stc dp s2.turn s2.broken (.int .i64 (s2.head.log : Int)) hv (.int .i64 (s2.head.next : Int)) (.map (some tb')) tabsv (.map (some vb)) (.int .i64 (s2.next : Int))) 109))
    (hm : MapM Tryz.prog 9 w16 tb' (tabV s2.mem)) (htb : w14.heap.size ≤ tb') (hfb : w0.heap.size ≤ fb) (hR1 : ∀ p ∈ R1, p = (fb, F) ∨ p ∈ R) (hRl : R1.length ≤ 20) (hFl : F.length ≤ 2000) (hrl : hr.length ≤ 1000) (hrn : ∀ r ∈ hr, r < 100000000) (hnx : s.head.next + 2 < 100000000)
    (q1 : s2.mem = []) (q2 : s2.head = ⟨s.head.next, hr, s.head.next + 2⟩) (q3 : s2.runs = R1.map (·.2)) (q4 : s2.views = s.views) : Does w0 w16 sp dp mb tb vb L rv qv R V s2 d1 := by
  have hA16 := hA.fail hs14 hc
  obtain ⟨L', hd, hch, hn⟩ := hA16
  have E := E0.below HR.bw
  have hz : w0.heap.size ≤ w13.heap.size := HR.bw.size
  have hz2 : w13.heap.size ≤ w14.heap.size := by obtain ⟨_, _, h, _⟩ := hA; exact h.size
  -- what stood before and is no foot stands
  have old : ∀ k, k < w0.heap.size → k ≠ sp → ¬ fpD dp mb L k → w16.heap[k]? = w0.heap[k]? := fun k h1 h2 h3 => (hch.block k (by omega) fun e => e.elim h2 h3).trans (HR.bw.block k h1)
  -- what is new since then stands
  have neu : ∀ k, w0.heap.size ≤ k → k < w13.heap.size → w16.heap[k]? = w13.heap[k]? := fun k h1 h2 => hch.block k h2 fun e => by
    have := E0.lt k (e.elim (fun e => .inl (.inl e)) .inr)
    omega
  have hhv : OwnV w16 w0.heap.size 3 hv (hr.map iv) := ownV_keep HR.hv fun k hk => neu k (ownV_lt HR.hv k hk).1 (ownV_lt HR.hv k hk).2
  have htv : OwnV w16 w0.heap.size 105 tabsv (R1.map fun p => .map (some p.1)) := ownV_keep HR.tabs fun k hk => neu k (ownV_lt HR.tabs k hk).1 (ownV_lt HR.tabs k hk).2
  have hfm : MapM Tryz.prog 9 w16 fb (tabV F) := HR.fm.block (neu fb hfb HR.fm.lt)
  have mapsp : ∀ {k : Nat}, (∃ es c, w0.heap[k]? = some (.map es c)) → k ≠ sp := fun ⟨es, c, h⟩ e => by
    rw [e, E0.st.cells] at h
    cases h
  have rdk : ∀ k, rdS rv qv R V k → (∃ es c, w0.heap[k]? = some (.map es c)) → w16.heap[k]? = w0.heap[k]? := fun k h1 h2 => by
    obtain ⟨es, c, h3⟩ := h2
    exact old k (heap_lt h3) (mapsp ⟨es, c, h3⟩) fun h => E0.sep k (.inr h1) h
  have hvb : vb < w0.heap.size := E0.st.views.lt
  have hmb : mb < w0.heap.size := E0.dk.map.lt
  have hst : StM w16 sp dp tb' vb hv tabsv R1 V s2 := by
    refine ⟨hsp, hm, by rw [q2]; exact ownV_isV hhv (by rw [List.length_map]; show hr.length ≤ _; omega), ownV_isV htv (by rw [List.length_map]; omega), fun p hp => ?_, q3, ?_, fun p hp => ?_, by rw [q4]; exact E0.st.eqV, by omega, fun p hp => ?_, fun p hp => ⟨?_, (E0.st.wb p hp).2⟩, fun k hk => row_type hhv k hk, fun k hk => row_type htv k hk⟩
    · rcases hR1 p hp with rfl | hp
      · exact hfm
      · exact (E0.st.run p hp).block (rdk _ (.inr (.inr (.inl ⟨p, hp, rfl⟩))) (E0.st.run p hp).kind)
    · exact E0.st.views.block (old vb hvb (mapsp E0.st.views.kind) fun h => E0.sep vb (.inl (.inr (.inr rfl))) h)
    · exact (E0.st.view p hp).block (rdk _ (.inr (.inr (.inr ⟨p, hp, rfl⟩))) (E0.st.view p hp).kind)
    · rcases hR1 p hp with rfl | hp
      · have := HR.fm.lt
        exact ⟨by show fb ≠ _; omega, by show fb ≠ _; omega⟩
      · have := (E0.st.run p hp).lt
        exact ⟨by omega, (E0.st.rb p hp).2⟩
    · have := (E0.st.view p hp).lt
      omega
  refine ⟨tb', L', hv, tabsv, R1, ⟨hst, hd, ⟨by omega, E0.sd.v, fun p hp => ?_, E0.sd.w⟩, ok1, E.g.chg hch fun k hk => E0.lo k (hk.elim (fun e => .inl (.inl e)) .inr), ?_, ⟨by rw [q1]; exact Nat.zero_le _, fun p hp => ?_, hRl⟩, ⟨by rw [q2]; show s.head.next < _; omega, by rw [q2]; exact hnx, by rw [q2]; exact hrn⟩⟩, ?_, ?_, ?_⟩
  · rcases hR1 p hp with rfl | hp
    · show mb ≠ fb
      omega
    · exact E0.sd.r p hp
  · rintro k ((rfl | rfl | rfl) | hk)
    · exact E0.lo _ (.inl (.inl rfl))
    · have := E0.g.size; omega
    · exact E0.lo _ (.inl (.inr (.inr rfl)))
    · rcases hn k hk with h | h
      · exact E0.lo k (.inr h)
      · have := E0.g.size; omega
  · rcases hR1 p hp with rfl | hp
    · exact hFl
    · exact E0.sm.run p hp
  · exact (chg_below HR.bw).trans0 (hch.mono fun k e => e.elim (fun e => .inl (.inl e)) .inr)
  · rintro k ((rfl | rfl | rfl) | hk)
    · exact .inl (.inl (.inl rfl))
    · exact .inr (by omega)
    · exact .inl (.inl (.inr (.inr rfl)))
    · exact (hn k hk).imp .inr fun h => Nat.le_trans hz h
  · rintro k (hk | hk | ⟨p, hp, rfl⟩ | hk)
    · exact .inr (.inr (ownV_lt hhv k hk).1)
    · exact .inr (.inr (ownV_lt htv k hk).1)
    · rcases hR1 p hp with rfl | hp
      · exact .inr (.inr hfb)
      · exact .inl (.inr (.inr (.inl ⟨p, hp, rfl⟩)))
    · exact .inl (.inr (.inr (.inr hk)))
end
end Go.Proofs.YtpenleogafdbhaaGreatDoor

namespace Go.Proofs.YtpenleogafdbhaaGreatDoor
open Go.RowKit Go.Maps Go.ChangeMaps Go.WideElems Go.WideShapes Go.WideAt Go.WideMaps
section
variable {md : Region.Mode} {ops : Array Oper} {Q : Exit → Act → World → Prop} {S : World → Prop} {fuel : Nat} {listed : Array Bool} {a : Act} {w : World} {i : Nat} {o : Oper} {rs : List Nat}
theorem node_build99 (d k : Nat) (z : ByteArray) (hi : ops[i]? = some o) (hgd : Region.wanted o (yielded ops a.tmps) = true) (ho : o.op = .buildSlice 99 1 #[(0, .tmp k)]) (hd : o.dst = some d)
    (hp : a.tmps[k]?.getD undef = .string z) (hS : S (w.alloc (.cells #[.string z] 9)))
    (h : S (w.alloc (.cells #[.string z] 9)) → wpAnyH Tryz.prog md ops Q S fuel (listed.setIfInBounds i true) (a.put (some d) (.slice (some ⟨w.heap.size, 0, none⟩) 1 1)) (w.alloc (.cells #[.string z] 9)))
    (hs : AllReadyH Tryz.prog md ops Q S fuel listed a w rs) : AllReadyH Tryz.prog md ops Q S fuel listed a w (i :: rs) := by
  refine AllReadyH.cons hi (fun K hK => ?_) hs
  rw [if_pos hgd]
  have hk := hK.out _ _ hS h
  unfold Oper.wp execOp
  simp [ho, go_sem, hp]
  rw [hd]
  exact hk
theorem node_appVs (t e : TypeId) (z0 : Value) (bytes : Nat)
    (hinf : (Tryz.prog.info? e).map (fun i => (i.zero, i.size, i.bytes)) = some (some z0, 1, bytes)) (hz : z0.cells.size = 1) (ht : Tryz.prog.underlying t = some (.slice e)) (hb24 : bytes ≤ 24)
    (d k1 k2 : Nat) (v u : Value) (B : Nat) (xs us : List Value) (hi : ops[i]? = some o) (hgd : Region.wanted o (yielded ops a.tmps) = true)
    (ho : o.op = .call { callee := .builtin .append, args := #[.tmp k1, .tmp k2], argTypes := #[t, t] }) (hd : o.dst = some d)
    (hs1 : a.tmps[k1]?.getD undef = v) (hy : a.tmps[k2]?.getD undef = u) (hu1 : ∀ x ∈ us, x.oneCell' = true)
    (hown : OwnV w B e v xs) (hsrc : SrcV w u us) (hlen : xs.length ≤ 1000000) (hlen2 : us.length ≤ 1000000) (hB : B ≤ w.heap.size)
    (h : ∀ v' w', OwnV w' B e v' (xs ++ us) → Below B w w' → w.grownBy w' v.ownBlock → S w' ∧ wpAnyH Tryz.prog md ops Q S fuel (listed.setIfInBounds i true) (a.put (some d) v') w')
    (hs : AllReadyH Tryz.prog md ops Q S fuel listed a w rs) : AllReadyH Tryz.prog md ops Q S fuel listed a w (i :: rs) := by
  refine AllReadyH.cons hi (fun K hK => ?_) hs
  rw [if_pos hgd]
  have hrun : ∃ v' w', (Builtin.append_ #[t, t] o.type #[v, u]).run Tryz.prog w = .ok v' w' ∧ OwnV w' B e v' (xs ++ us) ∧ w.grownBy w' v.ownBlock := by
    cases hi0 : Tryz.prog.info? e with
    | none => rw [hi0] at hinf; cases hinf
    | some i =>
      rw [hi0] at hinf
      simp only [Option.map_some, Option.some.injEq, Prod.mk.injEq] at hinf
      obtain ⟨h1, h2, h3⟩ := hinf
      rcases hsrc with ⟨hu0, rfl⟩ | ⟨ad, c, rfl, hc⟩
      · rw [hu0]
        exact ⟨v, w, run_append_owned_none (P := Tryz.prog) (w := w) B t o.type e i 1 ht hi0 v xs.length xs hown, by rw [List.append_nil]; exact hown, ⟨rfl, rfl, rfl, Nat.le_refl _, fun _ _ _ => rfl⟩⟩
      · have hmx : (9223372036854775807 : Nat) = maxLen := rfl
        obtain ⟨v', w', hr, r1, r2, _, _⟩ := run_append_own_at (P := Tryz.prog) w B t o.type e i z0 1 bytes ht hi0 h1 h2 h3 hz (by decide) v xs.length xs hown ad us.length c us (by rw [Nat.mul_one]) hc hu1 (by omega) (by
          have : (xs.length + us.length) * bytes ≤ 2000000 * 24 := Nat.mul_le_mul (by omega) hb24
          omega) hB
        exact ⟨v', w', hr, by unfold OwnV; rw [List.length_append]; exact r1, r2⟩
  obtain ⟨v', w', hr, r1, r2⟩ := hrun
  obtain ⟨hS, hk0⟩ := h v' w' r1 ((Below.refl B w).grown r2 hB fun k hk => (hown.lt k hk).1) r2
  have hk := hK.out _ _ hS (fun _ => hk0)
  have hk' : K (a.put o.dst v') w' := by rw [hd]; exact hk
  have hs1' : a.eval (.tmp k1) = v := by simpa [Act.eval] using hs1
  have hy' : a.eval (.tmp k2) = u := by simpa [Act.eval] using hy
  unfold Oper.wp execOp
  simp only [ho, resolve, invoke, builtin, Sem.run_bind, Sem.run_pure, Result.andThen_ok, List.map_toArray, List.map_cons, List.map_nil, hs1', hy', hr]
  exact hk'
end
end Go.Proofs.YtpenleogafdbhaaGreatDoor

namespace Go.Proofs.YtpenleogafdbhaaGreatDoor
open Go.RowKit Go.Maps Go.ChangeMaps Go.WideElems Go.WideShapes Go.WideAt Go.WideMaps
theorem contains_str (l : List Bs) (x : Bs) : Lib.containsS (l.map str) (str x) = l.contains x := by
  rw [Bool.eq_iff_iff, Lib.containsS_iff, List.contains_iff_mem, List.mem_map]
  constructor
  · rintro ⟨y, hy, h⟩
    have h2 : y = x := by
      have h2 : (str y).data.toList = (str x).data.toList := by rw [h]
      rwa [str_list, str_list] at h2
    rw [← h2]; exact hy
  · intro h
    exact ⟨x, h, rfl⟩
theorem contains_any (v : Value) (l : List Bs) (x : Bs) (B : Nat) (w : World) (ho : OwnV w B 9 v (l.map sv)) (hl : l.length ≤ 1000000) :
    Calls Tryz.prog 72 #[v, sv x] w fun e w' => e = .returned (.bool (l.contains x)) ∧ w' = w := by
  cases l with
  | nil =>
    obtain ⟨a, c, rfl⟩ := ownV_slice ho
    exact Tryz.slices_Contains_string_empty a c (str x) w
  | cons y r =>
    obtain ⟨g, c, rfl, -, -⟩ := ownV_some ho (by simp)
    have h := Tryz.slices_Contains_string g 0 ((y :: r).map sv).length c ((y :: r).map str) (str x) w (by simp) (by rw [List.length_map]; omega) (by
      intro j hj
      rw [Nat.zero_add]
      have hj2 : j < ((y :: r).map sv).length := by simpa using hj
      rw [ownV_cell ho j hj2, List.getD_eq_getElem?_getD, List.getElem?_map, List.getD_eq_getElem?_getD, List.getElem?_map]
      have hj3 : j < (y :: r).length := by simpa using hj
      rw [List.getElem?_eq_getElem hj3]
      rfl)
    rw [show ((y :: r).map str).take ((y :: r).map sv).length = (y :: r).map str from List.take_of_length_le (by simp), contains_str] at h
    exact h
end Go.Proofs.YtpenleogafdbhaaGreatDoor
