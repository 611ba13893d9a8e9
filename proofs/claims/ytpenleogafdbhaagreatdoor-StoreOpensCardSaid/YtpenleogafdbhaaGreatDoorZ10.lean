/-
  All keys and values that a store has.
  All keys and values that a store has: the walk.
  What a view shows; the value of a key.
  Views made and dropped.
  Views dropped.
  A store and its disk in memory, as the functions find them and leave them.
-/
import Derived.Test.YtpenleogafdbhaaGreatDoorZ9
import Derived.Sort.MapsRangeIn
import Derived.Maps.OwnIn
namespace Go.Proofs.YtpenleogafdbhaaGreatDoor
open Go.RowKit Go.Maps Go.ChangeMaps Go.WideElems Go.WideShapes Go.WideAt Go.WideMaps
attribute [local go_sem] Oper.semAt_some
section
variable {F : Fence} {n : Nat} {P : Program} {k : TypeId} {w : World} {ops : Array Oper} {rest : List Oper} {o : Oper} {a : Act} {Q : Exit → Act → World → Prop}
theorem wplIn_range (hg : o.guard = none) (x : Operand) (t : TypeId) (hop : o.op = Op.range t x) (k e : TypeId) (hk : P.underlying k = some .string) (ht : P.underlying t = some (.map k e)) (b : Nat) (m : Mp Value)
    (hm : a.eval x = .map (some b)) (hown : MapM P k w b m)
    (hK : ∀ w', RangeM P k w' b w.heap.size m m → Below w.heap.size w w' → w'.heap.size = w.heap.size + 1 → wpListIn F n P ops Q rest (a.put o.dst (.pointer (some ⟨w.heap.size, 0, none⟩))) w') :
    wpListIn F n P ops Q (o :: rest) a w :=
  wpListIn_range_own w hg x t hop k e (string_keyed hk) ht Rv b m.length (dm .held m) hm hown.2
    (fun w' h1 h2 h3 => hK w' ⟨hown.1, hown.1, fun p hp => hp, _, fun s => dm_has _ _ _, by rw [h1.left_eq]; exact h1⟩ ⟨h2.os, h2.tape, h2.output, h2.size, fun j hj => h2.block j hj (by simp)⟩ h3)
theorem wplIn_next (hg : o.guard = none) (it : Operand) (hop : o.op = Op.next it false) (k : TypeId) (hk : P.underlying k = some .string) (b r : Nat) (m rem : Mp Value)
    (hit : a.eval it = .pointer (some ⟨r, 0, none⟩)) (h : RangeM P k w b r m rem)
    (hDone : rem = [] → wpListIn F n P ops Q rest (a.put o.dst (.tuple #[.bool false])) w)
    (hMore : ∀ (s : ByteArray) (v : Value) (w' : World), (s.data.toList, v) ∈ rem → s.size ≤ maxLen → RangeM P k w' b r m (mdel s.data.toList rem) → w'.rangeLeft b r < w.rangeLeft b r → w.grownBy w' (some r) → w'.heap.size = w.heap.size →
      (Instr.entry (.pointer (some ⟨r, 0, none⟩))).run P w' = .ok (.tuple #[.string s, v]) w' → wpListIn F n P ops Q rest (a.put o.dst (.tuple #[.bool true, .string s, v])) w') :
    wpListIn F n P ops Q (o :: rest) a w := by
  obtain ⟨h1, h2, h3, left, h4, h5⟩ := h
  refine wpListIn_next_ranges w hg it hop k (string_keyed hk) Rv id id (fun key _ _ => ⟨key, rfl⟩) (fun v _ _ => ⟨v, rfl⟩) b r m.length (dm .held m) left _ hit h5 ?_ ?_
  · intro _ hl
    refine hDone ?_
    cases rem with
    | nil => rfl
    | cons p q =>
      have := hl (.string p.1)
      rw [h4, mget_cons, if_pos rfl] at this
      cases this
  · intro key v kl y w' cnt' hkey hlk hv hat hrg hlt hgr hsz hen
    obtain ⟨s, e, rfl, hs⟩ := string_inv hk hkey
    simp only [id] at e hen hv
    subst e
    unfold Rv at hv
    cases hv
    rw [h4] at hlk
    obtain ⟨u, hu⟩ := Option.isSome_iff_exists.1 hlk
    have hm := h3 _ (mget_mem hu)
    have e2 := hat (.held v)
    rw [at_held, mem_mget h1 hm] at e2
    obtain rfl : u = v := by injection e2
    have hrl := hrg.left_eq
    refine hMore s u w' (mget_mem hu) hs ⟨h1, srt_mdel _ h2, fun p hp => h3 p (mem_mdel.1 hp).1, _, fun j => ?_, by rw [hrl]; exact hrg⟩ (by rw [hrl]; exact hlt) hgr hsz hen
    show (left (.string j) && !(j == s.data.toList)) = _
    rw [h4]
    by_cases hj : j = s.data.toList
    · rw [hj, mget_mdel_same]; simp
    · rw [mget_mdel_other hj]; simp [hj]
theorem wplIn_del_range (hg : o.guard = none) (x y : Operand) (t k : TypeId) (hop : o.op = Op.call { callee := Callee.builtin Builtin.delete, args := #[x, y], argTypes := #[t, k] }) (e : TypeId) (hk : P.underlying k = some .string) (ht : P.underlying t = some (.map k e))
    (b r : Nat) (m rem : Mp Value) (hm : a.eval x = .map (some b)) (h : RangeM P k w b r m rem) (s : ByteArray) (hx : a.eval y = .string s) (hs : s.size ≤ maxLen)
    (hK : ∀ w', RangeM P k w' b r (mdel s.data.toList m) (mdel s.data.toList rem) → w'.rangeLeft b r ≤ w.rangeLeft b r → w.mapTurned w' b → wpListIn F n P ops Q rest (a.put o.dst (.tuple #[])) w') : wpListIn F n P ops Q (o :: rest) a w := by
  obtain ⟨h1, h2, h3, left, h4, h5⟩ := h
  refine wpListIn_delete_ranges w hg x y t k hop e (string_keyed hk) ht Rv b r m.length (dm .held m) left _ hm h5 (.string s) _ hx (keyOf_string_mk hk hs) ?_
  intro w' cnt' hrg hle hmt
  have hrl := hrg.left_eq
  have ho := hrg.owns
  rw [dm_del] at ho hrg
  refine hK w' ⟨srt_mdel _ h1, srt_mdel _ h2, fun p hp => mem_mdel.2 ⟨h3 p (mem_mdel.1 hp).1, (mem_mdel.1 hp).2⟩, (fun z => left z && !z.sameKey (.string s.data.toList)), fun j => ?_, ?_⟩ (by rw [hrl]; exact hle) hmt
  · show (left (.string j) && !(j == s.data.toList)) = _
    rw [h4]
    by_cases hj : j = s.data.toList
    · rw [hj, mget_mdel_same]; simp
    · rw [mget_mdel_other hj]; simp [hj]
  · rw [hrl]
    obtain ⟨es, clock, since, seen, c0, g1, g2, g3, g4, g5⟩ := hrg
    refine ⟨es, clock, since, seen, c0, g1, g2, ?_, g4, g5⟩
    have e3 : Maps.size (dm DataW.held (mdel s.data.toList m)) = es.size := by rw [g4]; simp [Maps.size, length_sorted]
    rw [dm_size] at e3
    omega
end
/-- what the body of the loop keeps: what was there, but for one block -/
def Kq (n0 ob : Nat) (A B : World) : Prop := A.heap.size ≤ B.heap.size ∧ ∀ k, k < n0 → k ≠ ob → B.heap[k]? = A.heap[k]?
theorem Kq.trans {n0 ob : Nat} {A B C : World} (h : Kq n0 ob A B) (k : Kq n0 ob B C) : Kq n0 ob A C := ⟨Nat.le_trans h.1 k.1, fun j hj hn => (k.2 j hj hn).trans (h.2 j hj hn)⟩
theorem rev_at (n c : Nat) (h : c < n) : (List.range n).reverse[c]? = some (n - 1 - c) := by
  rw [List.getElem?_reverse (by simpa using h), List.length_range, List.getElem?_range (by omega)]
theorem rev_take (n c : Nat) (h : c < n) : ((List.range n).reverse).take (c + 1) = ((List.range n).reverse).take c ++ [n - 1 - c] := by
  rw [List.take_add_one, rev_at n c h]
  rfl
/-- an element -/
def el (rs : List Value) (i : Nat) : Value := rs.getD i undef
set_option maxRecDepth 100000 in
set_option maxHeartbeats 4000000 in
/-- a slice is told from its end -/
theorem backward_in (n : Nat) (hn : 1 ≤ n) (ob bx : Nat) (v : Value) (rs : List Value) (l : Nat) (n0 : Nat) (J Jx : List Nat → World → Prop) (W : World) (hJ : AbidesFrom W.heap.size J)
    (hbx : W.heap[bx]? = some (.cells #[v] 106)) (hv : IsV W v rs) (hb0 : bx < n0 ∧ bx ≠ ob) (hv0 : ∀ k, v.ownBlock = some k → 0 < rs.length → k < n0 ∧ k ≠ ob)
    (hY : ∀ pre x W1, J pre W1 → pre.length < rs.length → x < rs.length → YieldAt Fence.wide (n - 1) Tryz.prog l #[.int .i64 ((x : Nat) : Int), rs.getD x undef] W1 fun e W' => (e = .returned (.bool true) ∧ J (pre ++ [x]) W' ∧ Kq n0 ob W1 W') ∨ (e = .returned (.bool false) ∧ Jx (pre ++ [x]) W'))
    (h0 : J [] W) :
    CallsIn Fence.wide n Tryz.prog 175 #[.func (.yield l) #[] #[], .pointer (some ⟨bx, 0, none⟩)] W fun e W' => (∃ v, e = .returned v) ∧ ((∃ xs, xs = (List.range rs.length).reverse ∧ J xs W') ∨ (∃ pre, (fun _ => True) pre ∧ Jx pre W')) := by
  refine callsIn_of_wp Tryz.func175 rfl trivial ?_ rfl
  simp only [Tryz.ntmps175, List.size_toArray, List.length_cons, List.length_nil, Nat.reduceAdd, Nat.reduceSub, Array.replicate_succ, Array.replicate_zero, List.push_toArray, List.append_toArray, List.nil_append, List.cons_append]
  obtain ⟨va, vc, rfl, hvl, hvc⟩ := hv
  have c0 := box1 hbx
  have HJW := hid hJ
  have HY := hid hY
  have HVC := hid hvc
  have HBX := hid hbx
  have HB0 := hid hb0
  have HV0 := hid hv0
  have HJ0 := hid h0
  obtain ⟨N, hN⟩ : ∃ N, N = rs.length := ⟨_, rfl⟩
  have HN := hid hN
  rw [← hN] at hvl c0 HBX HV0
  clear hJ hY hbx hv0 hb0 hvc h0 hN
  gi_wp2
  gi_loopw [3] (fun kv wr => ∃ c : Nat, c ≤ N ∧ kv = .int .i64 ((N : Int) - 1 - (c : Int)) ∧ Hid (J (((List.range rs.length).reverse).take c) wr) ∧ Hid (wr.heap[bx]? = some (.cells #[.slice va N vc] 106) ∧ ∀ k, (Value.slice va N vc).ownBlock = some k → 0 < N → k < W.heap.size → wr.heap[k]? = W.heap[k]?)) (fun kv _ => (intOf kv + 1).toNat)
  case atStart => exact ⟨0, Nat.zero_le _, by simp, HJ0, hid ⟨HBX.out, fun _ _ _ _ => rfl⟩⟩
  case round =>
    obtain ⟨c, hc, rfl, HJc, HK⟩ := hrel
    rename World => wr
    by_cases hlt : c < N
    · obtain ⟨i, hi⟩ : ∃ i, i = N - 1 - c := ⟨_, rfl⟩
      have hie : (N : Int) - 1 - (c : Int) = (i : Int) := by omega
      obtain ⟨g, hg, hcell⟩ := HVC.out i (by rw [← HN.out]; omega)
      subst hg
      have hgl := World.block_lt_of_cell? W _ hcell
      have e1 : wr.cell? ⟨g, i, none⟩ = some (rs.getD i undef) := (cell_same (HK.out.2 g rfl (by omega) hgl)).trans hcell
      have e0 := box1 HK.out.1
      have hlen : (((List.range rs.length).reverse).take c).length < rs.length := by
        rw [List.length_take, List.length_reverse, List.length_range, ← HN.out]
        omega
      obtain ⟨fn, tmps, assign, body, hy, hR⟩ := HY.out _ i wr HJc.out hlen (by rw [← HN.out]; omega)
      have hiN : i < N := by omega
      have hge : decide ((i : Int) ≥ 0) = true := by simp
      have HIE := hid hi
      rw [hie]
      generalize hx : rs.getD i undef = x at *
      have HLT := hid hlt
      clear hcell hgl hlen hx hi hlt hie
      gi_wp2
      refine hR.mono ?_
      rintro e W3 (⟨rfl, hJ3, hK3⟩ | ⟨rfl, hJx3⟩)
      · have HJ3 := hid hJ3
        have HK3 := hid hK3
        clear hJ3 hK3
        gi_wp2
        go_roundw
        case rel =>
          refine ⟨c + 1, HLT.out, ?_, hid ?_, hid ⟨?_, ?_⟩⟩
          · have := HIE.out; have := HLT.out; go_num
          · rw [← HN.out, rev_take N c HLT.out, ← HIE.out, HN.out]
            exact HJ3.out
          · exact (HK3.out.2 bx HB0.out.1 HB0.out.2).trans HK.out.1
          · intro k hk hk0 hkl
            exact (HK3.out.2 k (HV0.out k hk hk0).1 (HV0.out k hk hk0).2).trans (HK.out.2 k hk hk0 hkl)
        case measure =>
          have := HIE.out; have := HLT.out
          simp [intOf]
      · have HJx3 := hid hJx3
        clear hJx3
        gi_wp2
        refine bodyPost_ret (results_none rfl _ _ _) rfl ?_
        exact ⟨⟨_, rfl⟩, .inr ⟨_, trivial, HJx3.out⟩⟩
    · obtain rfl : c = N := by omega
      have hm1 : (c : Int) - 1 - (c : Int) = -1 := by omega
      rw [hm1]
      have HF : Hid (J (List.range rs.length).reverse wr) := hid (by
        have h := HJc.out
        rwa [List.take_of_length_le (by rw [List.length_reverse, List.length_range, ← HN.out]; exact Nat.le_refl _)] at h)
      gi_wp2
      go_end0
      exact ⟨⟨_, rfl⟩, .inl ⟨_, rfl, HF.out⟩⟩
theorem backward_stops (n : Nat) (hn : 1 ≤ n) (ob bx : Nat) (v : Value) (rs : List Value) (n0 : Nat) (w : World) (hbx : w.heap[bx]? = some (.cells #[v] 106)) (hv : IsV w v rs) (hb0 : bx < n0 ∧ bx ≠ ob) (hv0 : ∀ k, v.ownBlock = some k → 0 < rs.length → k < n0 ∧ k ≠ ob) :
    SeqStopsK Fence.wide n Tryz.prog 175 #[.pointer (some ⟨bx, 0, none⟩)] (fun x : Fin rs.length => #[.int .i64 ((x.1 : Nat) : Int), el rs x.1]) (Kq n0 ob) (fun xs => xs.map (·.1) = (List.range rs.length).reverse) (fun _ => True) rs.length w := fun l J Jx W hW hJ _ hY h0 => by
  refine (backward_in n hn ob bx v rs l n0 (fun pre W => ∃ q : List (Fin rs.length), q.map (·.1) = pre ∧ J q W) (fun pre W => ∃ q : List (Fin rs.length), q.map (·.1) = pre ∧ Jx q W) W ?_ ((hW.block bx (heap_lt hbx)).trans hbx) (isV_below hv hW) hb0 hv0 ?_ ⟨[], rfl, h0⟩).mono ?_
  · rintro s A B row ⟨q, hq, hJq⟩ hg hr
    exact ⟨q, hq, hJ _ _ _ row hJq hg hr⟩
  · rintro pre x W1 ⟨q, rfl, hJq⟩ hl hx
    refine (hY q ⟨x, hx⟩ W1 hJq (by rwa [List.length_map] at hl)).mono ?_
    rintro e W' (⟨h1, h2, h3⟩ | ⟨h1, h2⟩)
    · exact .inl ⟨h1, ⟨_, by rw [List.map_append]; rfl, h2⟩, h3⟩
    · exact .inr ⟨h1, ⟨_, by rw [List.map_append]; rfl, h2⟩⟩
  · rintro e W' ⟨h1, h2⟩
    refine ⟨h1, h2.imp ?_ ?_⟩
    · rintro ⟨xs, rfl, q, hq, hJq⟩
      exact ⟨q, hq, hJq⟩
    · rintro ⟨pre, -, q, hq, hJq⟩
      exact ⟨q, trivial, hJq⟩
theorem backward_any (va : Option Addr) (vn vc : Nat) (w : World) : Calls Tryz.prog 149 #[.slice va vn vc] w fun e w' => e = .returned (.func (.func 175) #[] #[.pointer (some ⟨w.heap.size, 0, none⟩)]) ∧ w' = w.alloc (.cells #[.slice va vn vc] 106) := by
  go_enter Tryz.func149, Tryz.ntmps149
  go_wp2_with fail
  go_ret
  exact ⟨rfl, rfl⟩
end Go.Proofs.YtpenleogafdbhaaGreatDoor

namespace Go.Proofs.YtpenleogafdbhaaGreatDoor
open Go.RowKit Go.Maps Go.ChangeMaps Go.WideElems Go.WideShapes Go.WideAt Go.WideMaps
attribute [local go_sem] Oper.semAt_some
/-- only the way on -/
def NoP (Q : Exit → Act → World → Prop) : Exit → Act → World → Prop
  | .normal, a, w => Q .normal a w
  | _, _, _ => False
theorem noP {Q : Exit → Act → World → Prop} : ∀ (e : Exit) (a : Act) (w : World), NoP Q e a w → Q e a w
  | .normal, _, _, h => h
  | .ret, _, _, h => h.elim
  | .exit _, _, _, h => h.elim
  | .goto _, _, _, h => h.elim
  | .panic _, _, _, h => h.elim
  | .outgrown, _, _, h => h.elim
/-- runs laid over each other, as far as some of them -/
def accR (R : List (Nat × Tab)) (pre : List Nat) : Tab := pre.foldl (fun t i => over t ((R.getD i (0, [])).2)) []
theorem accR_snoc (R : List (Nat × Tab)) (pre : List Nat) (i : Nat) : accR R (pre ++ [i]) = over (accR R pre) ((R.getD i (0, [])).2) := by
  unfold accR
  rw [List.foldl_append]
  rfl
theorem srt_accR (R : List (Nat × Tab)) : ∀ pre : List Nat, Srt (accR R pre) := by
  unfold accR
  suffices h : ∀ (pre : List Nat) (t : Tab), Srt t → Srt (pre.foldl (fun t i => over t ((R.getD i (0, [])).2)) t) from fun pre => h pre [] srt_nil
  intro pre
  induction pre with
  | nil => intro t h; exact h
  | cons i r ih => intro t h; exact ih _ (srt_over _ h)
theorem range_getD (R : List (Nat × Tab)) : (List.range R.length).map (fun i => (R.getD i (0, [])).2) = R.map Prod.snd := by
  refine List.ext_getElem (by simp) fun i h1 h2 => ?_
  simp at h1
  simp [List.getD_eq_getElem?_getD, List.getElem?_eq_getElem h1]
theorem accR_all (R : List (Nat × Tab)) : accR R (List.range R.length).reverse = (R.map Prod.snd).reverse.foldl over [] := by
  rw [← range_getD, ← List.map_reverse, List.foldl_map]
  rfl
theorem getD_len (R : List (Nat × Tab)) (C : Nat) (h : ∀ p ∈ R, p.2.length ≤ C) (i : Nat) : ((R.getD i (0, [])).2).length ≤ C := by
  rw [List.getD_eq_getElem?_getD]
  cases e : R[i]? with
  | none => exact Nat.zero_le _
  | some p => exact h p (List.mem_of_getElem? e)
theorem len_accR (R : List (Nat × Tab)) (C : Nat) (h : ∀ p ∈ R, p.2.length ≤ C) (pre : List Nat) : (accR R pre).length ≤ pre.length * C := by
  suffices g : ∀ (pre : List Nat) (t : Tab), Srt t → (pre.foldl (fun t i => over t ((R.getD i (0, [])).2)) t).length ≤ t.length + pre.length * C by
    have := g pre [] srt_nil
    simpa [accR] using this
  intro pre
  induction pre with
  | nil => intro t _; simp
  | cons i r ih =>
    intro t ht
    have h1 := ih (over t ((R.getD i (0, [])).2)) (srt_over _ ht)
    have h2 := len_over ((R.getD i (0, [])).2) t ht
    have h3 := getD_len R C h i
    rw [List.foldl_cons, List.length_cons, Nat.succ_mul]
    omega
theorem el_at {R : List (Nat × Tab)} {rs : List Value} (h : rs = R.map fun p => Value.map (some p.1)) {i : Nat} {p : Nat × Tab} (hp : R[i]? = some p) : el rs i = .map (some p.1) := by
  unfold el
  rw [List.getD_eq_getElem?_getD, h, List.getElem?_map, hp]
  rfl
set_option maxRecDepth 100000 in
set_option maxHeartbeats 8000000 in
/-- all keys and values -/
theorem all_any (sp tb : Nat) (qv : Value) (mem : Tab) (R : List (Nat × Tab)) (w : World) (h6 : w.cell? ⟨sp, 6, none⟩ = some (.map (some tb))) (h7 : w.cell? ⟨sp, 7, none⟩ = some qv) (rs : List Value) (hrsE : rs = R.map fun p => .map (some p.1)) (hq : IsV w qv rs)
    (hm : MapM Tryz.prog 9 w tb (tabV mem)) (hr : ∀ p ∈ R, MapM Tryz.prog 9 w p.1 (tabV p.2)) (hms : Srt mem) (hrs : ∀ p ∈ R, Srt p.2) (hrl : ∀ p ∈ R, p.2.length ≤ 2000) (hRl : R.length ≤ 20) (hml : mem.length ≤ 2000) :
    Calls Tryz.prog 111 #[.pointer (some ⟨sp, 0, none⟩)] w fun e w' => ∃ ob, e = .returned (.map (some ob)) ∧ w.heap.size ≤ ob ∧ MapM Tryz.prog 9 w' ob (tabV (allOf mem (R.map Prod.snd))) ∧ Below w.heap.size w w' := by
  obtain ⟨qa, qc, rfl⟩ := isV_slice hq
  have hN : rs.length = R.length := by rw [hrsE, List.length_map]
  rw [hN] at hq h7
  have HRE := hid hrsE
  have HN := hid hN
  clear hrsE hN
  have HQ := hid hq
  have HM := hid hm
  have HR := hid hr
  have HMS := hid hms
  have HRS := hid hrs
  have HRL := hid hrl
  have HRN := hid hRl
  have HML := hid hml
  have HC6 := hid h6
  have HC7 := hid h7
  have HSPL : Hid (sp < w.heap.size) := hid (World.block_lt_of_cell? w _ h6)
  clear hq hm hr hms hrs hrl hRl hml
  have hmm := @run_makeMap Tryz.prog
  obtain ⟨W1, hW1⟩ : ∃ W1, W1 = (w.alloc (.map #[] 0)).alloc (.cells #[.map (some w.heap.size)] 105) := ⟨_, rfl⟩
  have hb1 : Below w.heap.size w W1 := by rw [hW1]; exact (ba w _).alloc (by simp) _
  have h71 : ((w.alloc (.map #[] 0)).alloc (.cells #[.map (some w.heap.size)] 105)).cell? ⟨sp, 7, none⟩ = some (.slice qa R.length qc) := by rw [← hW1]; exact (hb1.cell HSPL.out).trans h7
  have HMO1 : Hid (MapM Tryz.prog 9 W1 w.heap.size []) := hid (by rw [hW1]; exact (mapM_made w _ _).block (Below.heap_alloc _ _ _ (by simp)))
  have HX1 : Hid (Boxed W1 (w.heap.size + 1) 105 (.map (some w.heap.size))) := hid (by
    have h := Boxed.new (w.alloc (.map #[] 0)) 105 (.map (some w.heap.size))
    rw [World.size_alloc] at h
    rw [hW1]
    exact h)
  have HS1 : Hid (W1.heap.size = w.heap.size + 2) := hid (by rw [hW1]; simp)
  have HB1 := hid hb1
  clear hb1
  refine (callsIn_wide (n := 6)).1 ?_
  refine callsIn_of_wp_marks Tryz.func111 rfl trivial ?_ rfl
  simp only [Tryz.ntmps111, List.size_toArray, List.length_cons, List.length_nil, Nat.reduceAdd, Nat.reduceSub, Array.replicate_succ, Array.replicate_zero, List.push_toArray, List.append_toArray, List.nil_append, List.cons_append]
  gi_wp2
  refine ⟨trivial, (callsIn_wide.2 (backward_any qa R.length qc _)).mono ?_⟩
  rintro e w2 ⟨rfl, hw2⟩
  rw [← hW1] at hw2 ⊢
  clear hW1 h71 hmm h6 h7
  obtain ⟨ob, hob⟩ : ∃ ob, ob = w.heap.size := ⟨_, rfl⟩
  obtain ⟨bx, hbx⟩ : ∃ bx, bx = W1.heap.size := ⟨_, rfl⟩
  have HBX : Hid (w2.heap[bx]? = some (.cells #[.slice qa R.length qc] 106)) := hid (by rw [hw2, hbx]; exact heap_alloc_new _ _)
  have HB2 : Hid (Below w.heap.size w w2) := hid (by rw [hw2]; exact HB1.out.alloc HB1.out.size _)
  have HMO : Hid (MapM Tryz.prog 9 w2 ob (tabV [])) := hid (by rw [hob, hw2]; exact HMO1.out.block (Below.heap_alloc _ _ _ HMO1.out.lt))
  have HX : Hid (Boxed w2 (w.heap.size + 1) 105 (.map (some ob))) := hid (by rw [hob, hw2]; exact HX1.out.alloc _)
  have HS2 : Hid (w2.heap.size = w.heap.size + 3) := hid (by rw [hw2, World.size_alloc, HS1.out])
  have HBE : Hid (bx = w.heap.size + 2) := hid (by rw [hbx, HS1.out])
  rw [← hob, ← hbx]
  clear hw2 hbx HMO1 HX1 HS1 HB1
  have HOB := hid hob
  clear hob
  obtain ⟨X, hXe⟩ : ∃ X, X = w.heap.size + 1 := ⟨_, rfl⟩
  rw [HOB.out, ← hXe, ← HOB.out]
  rw [← hXe] at HX
  have HXE := hid hXe
  clear hXe
  gi_wp2
  have HQ2 : Hid (IsV w2 (.slice qa R.length qc) rs) := hid (isV_below HQ.out HB2.out)
  have hRN := HRN.out
  refine wpIn_rangeFunc_ownG rfl (by decide) (gf := 175) (lb := #[.pointer (some ⟨bx, 0, none⟩)]) rfl trivial (enters_of Tryz.func175 (by kernel_rfl) rfl)
    (backward_stops 5 (by decide) ob bx (.slice qa R.length qc) rs w2.heap.size w2 HBX.out HQ2.out ?_ ?_) Kq.trans (fun W l o o' hl hW _ _ => ?_) (Below.refl _ _) (fun _ => rfl)
    (fun q W => MapM Tryz.prog 9 W ob (tabV (accR R (q.map (·.1)))) ∧ Boxed W X 105 (.map (some ob)) ∧ Below w.heap.size w W ∧ w2.heap.size ≤ W.heap.size)
    (fun _ _ _ => False) ?_
    (fun _ _ _ _ _ hs _ _ => hs)
    ⟨HMO.out, HX.out, HB2.out, Nat.le_refl _⟩
    (fun x => { tmps := #[.pointer (some ⟨sp, 0, none⟩), undef, .map none, .pointer (some ⟨X, 0, none⟩), undef, el rs x.1, undef, undef, .map (some ob), .pointer (some ⟨sp, 0, none⟩), .pointer (some ⟨sp, 0, none⟩), .pointer (some ⟨sp, 7, none⟩), .slice qa R.length qc, .func (.func 175) #[] #[.pointer (some ⟨bx, 0, none⟩)], .int .i64 ((x.1 : Nat) : Int), el rs x.1, undef, undef, undef, undef, undef, undef, undef, undef, undef, undef, undef, undef, undef, undef, undef, undef, undef, undef, undef, undef, undef], defers := [] }) ?assign ?body ?done ?stop
  · have := HBE.out; have := HS2.out; have := HOB.out
    omega
  · intro k hk hk0
    obtain ⟨g, rfl, -, hcell⟩ := isV_at HQ.out 0 hk0
    have h1 := World.block_lt_of_cell? w _ hcell
    cases hk
    have := HOB.out; have := HS2.out
    dsimp only at h1
    show g < _ ∧ g ≠ _
    omega
  · refine ⟨by rw [World.putObj]; simp, fun k hk hn => ?_⟩
    exact (grownBy_putObj' W l o').block k (by have := (Array.getElem?_eq_some_iff.1 hW).1; omega) (fun e => by cases e; omega)
  · rintro s A B row ⟨h1, h2, h3, h4⟩ hg hr
    have hobl : ob < w2.heap.size := by have := HOB.out; have := HS2.out; omega
    have hXl : X < w2.heap.size := by have := HXE.out; have := HS2.out; omega
    refine ⟨h1.block (hg.block ob h1.lt fun e => ?_), h2.kept hg fun e => ?_, h3.trans ((Below.refl _ _).grown hg h3.size fun k e => ?_), Nat.le_trans h4 hg.size⟩
    · have := (hr _ e.symm).1; omega
    · have := (hr _ e.symm).1; omega
    · have := (hr _ e).1; have := HS2.out; omega
  case assign =>
    intro l x W K hK
    gi_wp2
    exact hK
  case body =>
    rintro l pre x W ⟨hM, hX, hB, hZ⟩ hpl
    have hxl : x.1 < R.length := by rw [← HN.out]; exact x.2
    obtain ⟨p, hp⟩ : ∃ p, R[x.1]? = some p := ⟨_, List.getElem?_eq_getElem hxl⟩
    have hpR := List.mem_of_getElem? hp
    have hel : el rs x.1 = .map (some p.1) := el_at HRE.out hp
    have hacc : accR R ((pre ++ [x]).map (·.1)) = over (accR R (pre.map (·.1))) p.2 := by
      rw [List.map_append, List.map_singleton, accR_snoc, List.getD_eq_getElem?_getD, hp]
      rfl
    have hMp := HR.out p hpR
    have hplt := hMp.lt
    have HCP := hid (copy_any ob p.1 (accR R (pre.map (·.1))) p.2 W (srt_accR _ _) (HRS.out p hpR) hM (hMp.block (hB.block _ hplt)) (by have := HOB.out; omega) (by
      have h1 := len_accR R 2000 HRL.out (pre.map (·.1))
      have h2 := HRL.out p hpR
      have h3 := HRN.out
      rw [List.length_map] at h1
      have h5 := HN.out
      have h4 : pre.length * 2000 ≤ 20 * 2000 := Nat.mul_le_mul_right _ (by omega)
      omega))
    have c1 := hX.cell
    have HXW := hid hX
    have HBW := hid hB
    have HZ := hid hZ
    have HACC := hid hacc
    rw [hel]
    clear hM hX hB hZ hp hpR hel hacc hMp hplt hxl
    gi_wp2
    refine ⟨trivial, (CallsIn.inRound l (callsIn_wide.2 HCP.out)).mono ?_⟩
    rintro e w4 ⟨rfl, hm4, hc4⟩
    have HM4 := hid hm4
    have HC4 := hid hc4
    clear hm4 hc4
    gi_wp2
    have hg4 : W.grownBy w4 (some ob) := ⟨HC4.out.os, HC4.out.tape, HC4.out.output, HC4.out.size, fun k hk hn => HC4.out.block k hk fun e => hn (by rw [e])⟩
    have hobl : ob < w2.heap.size := by have := HOB.out; have := HS2.out; omega
    refine ⟨KeepsFrom.of_grownBy hg4 fun j e => by cases e; exact hobl, ⟨hg4.size, fun k hk hn => hg4.block k ?_ fun e => hn (by cases e; rfl)⟩, ?_, HXW.out.kept hg4 fun e => ?_, HBW.out.trans ((Below.refl _ _).grown hg4 HBW.out.size fun k e => by cases e; exact Nat.le_of_eq HOB.out.symm), Nat.le_trans HZ.out hg4.size⟩
    · exact Nat.lt_of_lt_of_le hk HZ.out
    · rw [HACC.out]; exact HM4.out
    · cases e
      have := HXE.out; have := HOB.out
      omega
  case done =>
    rintro D ys W hD hys ⟨hM, hX, hB, hZ⟩ hK
    rw [hys, HN.out, accR_all] at hM
    have c1 := hX.cell
    have c6 := (hB.cell HSPL.out).trans HC6.out
    have htl := HM.out.lt
    have hrl2 : ((R.map Prod.snd).reverse.foldl over []).length ≤ 40000 := by
      have h1 := len_accR R 2000 HRL.out (List.range R.length).reverse
      rw [accR_all, List.length_reverse, List.length_range] at h1
      have h4 : R.length * 2000 ≤ 20 * 2000 := Nat.mul_le_mul_right _ HRN.out
      omega
    have HCP := hid (copy_any ob tb ((R.map Prod.snd).reverse.foldl over []) mem W.drew (srt_runs _) HMS.out (hM.block rfl) (HM.out.block (hB.block _ htl)) (by have := HOB.out; omega) (by have := HML.out; omega))
    have HXW := hid hX
    have HBW := hid hB
    have HZ := hid hZ
    have HK := hid hK
    have HD := hid hD
    have HRL2 := hid hrl2
    clear hM hX hB hZ hK hys hD htl hrl2
    have hmix : Tryz.prog.follows .mixedOrders = true := by kernel_rfl
    gi_wp2
    refine Code.wpIn_mono noP ?_
    gi_region_with_o (refine ⟨trivial, (callsIn_wide.2 HCP.out).mono ?_⟩; rintro e w4 ⟨rfl, hm4, hc4⟩; have HM4 := hid hm4; have HC4 := hid hc4; clear hm4 hc4)
    all_goals
      have HT : Hid (Srt (over ((R.map Prod.snd).reverse.foldl over []) mem) ∧ (over ((R.map Prod.snd).reverse.foldl over []) mem).length ≤ 100000) := hid ⟨srt_over _ (srt_runs _), by
        have h1 := len_over mem ((R.map Prod.snd).reverse.foldl over []) (srt_runs _)
        have h2 := HML.out
        have h3 := HRL2.out
        omega⟩
      obtain ⟨T, hT⟩ : ∃ T, T = over ((R.map Prod.snd).reverse.foldl over []) mem := ⟨_, rfl⟩
      have HTE : Hid (allOf mem (R.map Prod.snd) = T.filter fun p => !p.2.2) := hid (by rw [hT]; rfl)
      rw [← hT] at HM4 HT
      have hg4 : W.grownBy w4 (some ob) := ⟨HC4.out.os, HC4.out.tape, HC4.out.output, HC4.out.size, fun k hk hn => HC4.out.block k hk fun e => hn (by rw [e])⟩
      have hoX : X ≠ ob := by have := HXE.out; have := HOB.out; omega
      have HX4 : Hid (Boxed w4 X 105 (.map (some ob))) := hid (HXW.out.kept hg4 fun e => hoX (by cases e; rfl))
      have HB4 : Hid (Below w.heap.size w w4) := hid (HBW.out.trans ((Below.refl _ _).grown hg4 HBW.out.size fun k e => by cases e; exact Nat.le_of_eq HOB.out.symm))
      have HZ4 : Hid (w2.heap.size ≤ w4.heap.size) := hid (Nat.le_trans HZ.out hg4.size)
      have HD4 : Hid (w4.heap[D]? = some (.deferred (some []))) := hid ((hg4.block D (Array.getElem?_eq_some_iff.1 HK.out).1 fun e => by cases e; have := HOB.out; have := HS2.out; have := HD.out; omega).trans HK.out)
      have c4 := HX4.out.cell
      have HOX := hid hoX
      clear hg4 hoX hT HXW HBW HZ HK HC4 HCP c1 c6
      show NoP _ _ _ _
      unfold NoP
      gi_wp2_with (first
        | (gi_at_range; refine wplIn_range rfl _ 105 rfl 9 138 Tryz.underlying9 Tryz.underlying105 ob (tabV T) rfl HM4.out ?_; intro w5 hrg5 hb5 hs5)
        | fail)
      go_frame
      have HR5 := hid hrg5
      have HB5 : Hid (Below w.heap.size w w5) := hid (HB4.out.trans (hb5.mono HB4.out.size))
      have HX5 : Hid (Boxed w5 X 105 (.map (some ob))) := hid ((hb5.block X HX4.out.lt).trans HX4.out)
      have HD5 : Hid (w5.heap[D]? = some (.deferred (some []))) := hid ((hb5.block D (Array.getElem?_eq_some_iff.1 HD4.out).1).trans HD4.out)
      have HZ5 : Hid (w2.heap.size ≤ w4.heap.size) := hid HZ4.out
      have HDR : Hid (D ≠ w4.heap.size) := hid (by have := (Array.getElem?_eq_some_iff.1 HD4.out).1; omega)
      obtain ⟨r, hre⟩ : ∃ r, r = w4.heap.size := ⟨_, rfl⟩
      rw [← hre] at HR5 HZ5 HDR ⊢
      clear hrg5 hb5 hs5 HX4 HB4 HZ4 HD4 HM4 hre
      gi_loopw [] (fun wr => ∃ (rem : Mp Value) (cur : Tab), Hid (RangeM Tryz.prog 9 wr ob r (tabV cur) rem) ∧ Hid (∀ k, mget k cur = if (mget k rem).isSome = true then mget k T else (mget k T).filter fun c => !c.2) ∧ Hid (Boxed wr X 105 (.map (some ob)) ∧ Below w.heap.size w wr ∧ wr.heap[D]? = some (.deferred (some [])))) (fun wr => wr.rangeLeft ob r)
      case atStart => exact ⟨_, T, HR5, hid (fun k => by
        cases e : mget k (tabV T) with
        | some v => rfl
        | none =>
          unfold tabV at e
          rw [mget_mmap, Option.map_eq_none_iff] at e
          rw [e]
          rfl), hid ⟨HX5.out, HB5.out, HD5.out⟩⟩
      case round =>
        obtain ⟨rem, cur, HR, HI, HF⟩ := hrel
        rename World => wr
        gi_wp2_with (first
          | (gi_at_next; refine wplIn_next rfl _ rfl 9 Tryz.underlying9 ob r (tabV cur) rem rfl HR.out ?_ ?_)
          | fail)
        · intro hrem
          have he : cur = T.filter fun p => !p.2.2 := mext (srt_of_mmap _ HR.out.map.1) (List.Pairwise.filter _ HT.out.1) fun k => by
            rw [HI.out k, hrem, mget_filter (fun c : Bs × Bool => !c.2) k T HT.out.1]
            rfl
          have HM : Hid (MapM Tryz.prog 9 wr ob (tabV (T.filter fun p => !p.2.2))) := hid (he ▸ HR.out.map)
          have c5 := HF.out.1.cell
          clear he hrem
          gi_wp2
          have hMk : Marks w2.heap.size wr.heap.size wr [{ target := .collected D, args := #[] }] := ⟨D, rfl, HD.out, (Array.getElem?_eq_some_iff.1 HF.out.2.2).1, HF.out.2.2, trivial⟩
          refine leaves_marks (B := w2.heap.size) _ _ _ hMk fun W' hW' => ⟨_, results_tmp rfl _ _ _, ?_⟩
          have hobl : ob < w2.heap.size := by have := HOB.out; have := HS2.out; omega
          refine ⟨ob, rfl, Nat.le_of_eq HOB.out.symm, ?_, HF.out.2.1.trans (hW'.mono (by have := HS2.out; omega))⟩
          rw [HTE.out]
          exact HM.out.block (hW'.block ob hobl)
        · intro s v w6 hmem hsl hrg6 hlt6 hg6 hsz6 hen
          obtain ⟨h1, h2, h3, _⟩ := HR.out
          obtain ⟨x, hx, rfl⟩ := mem_mmap.1 (h3 _ hmem)
          have hsome : (mget s.data.toList rem).isSome = true := by rw [mem_mget h2 hmem]; rfl
          have hcx : mget s.data.toList cur = some x := mem_mget (srt_of_mmap _ h1) hx
          have hTx : mget s.data.toList T = some x := by
            have := HI.out s.data.toList
            rw [if_pos hsome, hcx] at this
            exact this.symm
          have hgr : wr.grownBy w6 (some r) := hg6
          have hrlt : r < wr.heap.size := HR.out.lt
          have hrX : X ≠ r := by have := HZ5.out; have := HXE.out; have := HS2.out; omega
          have HF6 : Hid (Boxed w6 X 105 (.map (some ob)) ∧ Below w.heap.size w w6 ∧ w6.heap[D]? = some (.deferred (some []))) := hid ⟨HF.out.1.kept hgr fun e => hrX (by cases e; rfl), HF.out.2.1.trans ((Below.refl _ _).grown hgr HF.out.2.1.size fun k e => by cases e; have := HZ5.out; have := HS2.out; omega), (hgr.block D (Array.getElem?_eq_some_iff.1 HF.out.2.2).1 fun e => HDR.out (by cases e; rfl)).trans HF.out.2.2⟩
          have HR6 := hid hrg6
          have HL6 := hid hlt6
          have HSL := hid hsl
          have HHX := hid hTx
          have HCX := hid hcx
          have HSO := hid hsome
          obtain ⟨x1, x2⟩ := x
          clear h1 h2 h3 hmem hsl hrg6 hlt6 hg6 hsz6 hsome hx hcx hTx hgr hrlt hrX
          unfold cellV at hen ⊢
          dsimp only at hen ⊢
          have c6 := (HF6.out.1.alloc (.cells #[.string (str x1), .bool x2] 138)).cell
          have hRA : RangeM Tryz.prog 9 (w6.alloc (.cells #[.string (str x1), .bool x2] 138)) ob r (tabV cur) (mdel s.data.toList rem) := HR6.out.block (Below.heap_alloc _ _ _ HR6.out.map.lt) (Below.heap_alloc _ _ _ HR6.out.lt)
          have hLA : (w6.alloc (.cells #[.string (str x1), .bool x2] 138)).rangeLeft ob r = w6.rangeLeft ob r := rangeLeft_same (Below.heap_alloc _ _ _ HR6.out.map.lt) (Below.heap_alloc _ _ _ HR6.out.lt)
          have HRA := hid hRA
          have HLA := hid hLA
          have HFA : Hid (Boxed (w6.alloc (.cells #[.string (str x1), .bool x2] 138)) X 105 (.map (some ob)) ∧ Below w.heap.size w (w6.alloc (.cells #[.string (str x1), .bool x2] 138)) ∧ (w6.alloc (.cells #[.string (str x1), .bool x2] 138)).heap[D]? = some (.deferred (some []))) := hid ⟨HF6.out.1.alloc _, HF6.out.2.1.alloc HF6.out.2.1.size _, (Below.heap_alloc _ _ _ (Array.getElem?_eq_some_iff.1 HF6.out.2.2).1).trans HF6.out.2.2⟩
          clear hRA hLA
          cases x2 with
          | false =>
            gi_wp2
            go_roundw
            case rel =>
              refine ⟨_, cur, HRA, hid (fun k => ?_), HFA⟩
              by_cases hk : k = s.data.toList
              · rw [hk, mget_mdel_same, HCX.out, HHX.out]
                rfl
              · rw [mget_mdel_other hk]
                exact HI.out k
            case measure =>
              rw [HLA.out]
              exact HL6.out
          | true =>
            gi_wp2_with (first
              | (gi_at_delete; refine wplIn_del_range rfl _ _ 105 9 rfl 138 Tryz.underlying9 Tryz.underlying105 ob r (tabV cur) (mdel s.data.toList rem) rfl HRA.out s rfl HSL.out ?_; intro w7 hrg7 hle7 ht7)
              | fail)
            have hb7 : ∀ k, k ≠ ob → w7.heap[k]? = (w6.alloc (.cells #[.string (str x1), .bool true] 138)).heap[k]? := fun k hk => mapTurned_other ht7 hk
            have h7 : RangeM Tryz.prog 9 w7 ob r (tabV (mdel s.data.toList cur)) (mdel s.data.toList (mdel s.data.toList rem)) := by
              have e : tabV (mdel s.data.toList cur) = mdel s.data.toList (tabV cur) := mmap_mdel _ _ _
              rw [e]
              exact hrg7
            have hDo : D ≠ ob := by have := HD.out; have := HOB.out; have := HS2.out; omega
            refine ⟨⟨_, _, _, _, _, _, _, _, _, _, _, ⟨_, mdel s.data.toList cur, hid h7, hid (fun k => ?_), hid ⟨?_, ?_, ?_⟩⟩, rfl⟩, ?_⟩
            · by_cases hk : k = s.data.toList
              · rw [hk, mget_mdel_same, mget_mdel_same, HHX.out]
                rfl
              · rw [mget_mdel_other hk, mget_mdel_other hk, mget_mdel_other hk]
                exact HI.out k
            · exact (hb7 X HOX.out).trans HFA.out.1
            · exact HFA.out.2.1.trans ((chg_turned (F := fun k => k = ob) ht7 rfl).below HFA.out.2.1.size fun k e => by rw [e]; exact Nat.le_of_eq HOB.out.symm)
            · exact (hb7 D hDo).trans HFA.out.2.2
            · have h1 := HL6.out
              have h2 := HLA.out
              omega

  case stop =>
    rintro D c pre W _ _ h _
    exact h.elim
end Go.Proofs.YtpenleogafdbhaaGreatDoor

namespace Go.Proofs.YtpenleogafdbhaaGreatDoor
open Go.RowKit Go.Maps Go.ChangeMaps Go.WideElems Go.WideShapes Go.WideAt Go.WideMaps
/-- a store's tables are small -/
structure SmallS (s : St) (R : List (Nat × Tab)) : Prop where
  mem : s.mem.length ≤ 2000
  run : ∀ p ∈ R, p.2.length ≤ 2000
  runs : R.length ≤ 20
section
variable {w : World} {sp dp tb vb : Nat} {rv qv : Value} {R : List (Nat × Tab)} {V : Mi (Nat × Tab)} {s : St}
theorem allS_any (h : StM w sp dp tb vb rv qv R V s) (hz : SmallS s R) :
    Calls Tryz.prog 111 #[.pointer (some ⟨sp, 0, none⟩)] w fun e w' => ∃ ob, e = .returned (.map (some ob)) ∧ w.heap.size ≤ ob ∧ MapM Tryz.prog 9 w' ob (tabV s.all) ∧ Below w.heap.size w w' := by
  obtain ⟨-, -, -, -, -, -, e6, e7, -⟩ := stc_of h.cells
  have := all_any sp tb qv s.mem R w e6 e7 _ rfl h.runs h.mem h.run (srt_of_mmap _ h.mem.1) (fun p hp => srt_of_mmap _ (h.run p hp).1) hz.run hz.runs hz.mem
  rw [show R.map Prod.snd = s.runs from h.eqR.symm] at this
  exact this
theorem find_iget (v : Int) : ∀ V : Mi (Nat × Tab), (((V.map fun p => (p.1, p.2.2)).find? fun p => p.1 == v).map (·.2) : Option Tab) = (iget v V).map (·.2)
  | [] => rfl
  | p :: r => by
    rw [List.map_cons, List.find?_cons, iget_cons]
    by_cases e : p.1 = v
    · rw [if_pos e, show ((p.1, p.2.2).1 == v) = true by simpa using e]
      rfl
    · rw [if_neg e, show ((p.1, p.2.2).1 == v) = false by simpa using e]
      exact find_iget v r
theorem StM.seen (h : StM w sp dp tb vb rv qv R V s) {v : Int} (hv : v ≠ -1) : s.seen v = (iget v V).map (·.2) := by
  unfold St.seen
  rw [if_neg hv, h.eqV]
  exact find_iget v V
theorem iget_map {α β : Type} (f : α → β) (k : Int) : ∀ m : Mi α, iget k (m.map fun p => (p.1, f p.2)) = (iget k m).map f
  | [] => rfl
  | p :: r => by
    rw [List.map_cons, iget_cons, iget_cons]
    split
    · rfl
    · exact iget_map f k r
theorem zero105 (w : World) : (zeroValue 105).run Tryz.prog w = .ok (.map none) w := by kernel_rfl
/-- what seeing leaves -/
def SeenV (w w' : World) (o : Option Tab) (e : Ending) : Prop :=
  (∃ ob t, o = some t ∧ e = .returned (.tuple #[.map (some ob), .bool true]) ∧ MapM Tryz.prog 9 w' ob (tabV t)) ∨ (o = none ∧ e = .returned (.tuple #[.map none, .bool false]))
set_option maxRecDepth 100000 in
set_option maxHeartbeats 4000000 in
theorem seen_any (h : StM w sp dp tb vb rv qv R V s) (hz : SmallS s R) (v : Int) (hv : (Lit.int .i64 v).wf = true) :
    Calls Tryz.prog 84 #[.pointer (some ⟨sp, 0, none⟩), .int .i64 v] w fun e w' => SeenV w w' (s.seen v) e ∧ Below w.heap.size w w' := by
  by_cases h1 : v = -1
  · subst h1
    have HA := hid (allS_any h hz)
    have HS : Hid (s.seen (-1) = some s.all) := hid rfl
    clear h hz
    go_enter Tryz.func84, Tryz.ntmps84
    go_wp2_with (first | (go_at_call 111; refine HA.out.mono ?_; rintro e w1 ⟨ob, rfl, -, hm, hb⟩; have HM := hid hm; have HB := hid hb; clear hm hb) | fail)
    go_ret2
    exact ⟨.inl ⟨ob, _, HS.out, rfl, HM.out⟩, HB.out⟩
  · have hb : (v == -1) = false := by simpa using h1
    have HS := hid (h.seen h1)
    obtain ⟨-, -, -, -, -, -, -, -, e8, -⟩ := stc_of h.cells
    have HV := hid h.views
    have HW := hid h.view
    have HWF := hid hv
    clear h hz h1 hv
    cases hg : iget v V with
    | none =>
      have HG : Hid (iget v (V.map fun p => (p.1, Value.map (some p.2.1))) = none) := hid (by rw [iget_map (fun q : Nat × Tab => Value.map (some q.1)), hg]; rfl)
      rw [hg] at HS
      clear hg
      go_enter Tryz.func84, Tryz.ntmps84
      go_wp2_with (first | (at_lookup; refine wpi_look_ok rfl _ _ 107 rfl 3 105 Tryz.underlying3 Tryz.underlying107 (zero105 w) vb _ rfl HV.out v rfl HWF.out ?_; rw [HG.out]; dsimp only [Option.getD_none, Option.isSome_none]) | fail)
      go_ret2
      exact ⟨.inr ⟨HS.out, rfl⟩, Below.refl _ _⟩
    | some p =>
      have HG : Hid (iget v (V.map fun p => (p.1, Value.map (some p.2.1))) = some (.map (some p.1))) := hid (by rw [iget_map (fun q : Nat × Tab => Value.map (some q.1)), hg]; rfl)
      have HMP := hid (HW.out (v, p) (iget_mem hg))
      rw [hg] at HS
      clear hg
      go_enter Tryz.func84, Tryz.ntmps84
      go_wp2_with (first | (at_lookup; refine wpi_look_ok rfl _ _ 107 rfl 3 105 Tryz.underlying3 Tryz.underlying107 (zero105 w) vb _ rfl HV.out v rfl HWF.out ?_; rw [HG.out]; dsimp only [Option.getD_some, Option.isSome_some]) | fail)
      go_ret2
      exact ⟨.inl ⟨p.1, p.2, HS.out, rfl, HMP.out⟩, Below.refl _ _⟩
theorem zero138 (w : World) : (zeroValue 138).run Tryz.prog w = .ok (.agg #[.string ⟨#[]⟩, .bool false]) w := by kernel_rfl
set_option maxRecDepth 100000 in
set_option maxHeartbeats 8000000 in
theorem getS_any (h : StM w sp dp tb vb rv qv R V s) (hz : SmallS s R) (v : Int) (hv : (Lit.int .i64 v).wf = true) (k : Bs) (hk : k.length ≤ 1000000) :
    Calls Tryz.prog 22 #[.pointer (some ⟨sp, 0, none⟩), .int .i64 v, .string (str k)] w fun e w' => e = .returned (.tuple #[.string (str (s.get v k).1), .int .i64 ((s.get v k).2 : Int)]) ∧ Below w.heap.size w w' := by
  obtain ⟨e0, -⟩ := stc_of h.cells
  have HM := hid (made_any e0)
  have HS := hid (seen_any h hz v hv)
  have HVA := hid (fun w => valid_any k [] w)
  have HKL : Hid ((str k).size ≤ maxLen) := hid (by rw [str_size]; unfold maxLen; omega)
  obtain ⟨g, hg⟩ : ∃ g, g = s.get v k := ⟨_, rfl⟩
  rw [← hg]
  unfold St.get at hg
  clear h hz hv hk
  go_enter Tryz.func22, Tryz.ntmps22
  go_wp2_with (first | (go_at_call 83; refine HM.out.mono ?_; rintro e w1 ⟨rfl, hw⟩; obtain rfl := hw.symm) | fail)
  go_at_call 84
  refine HS.out.mono ?_
  rintro e w1 ⟨⟨ob, t, ho, rfl, hm⟩ | ⟨ho, rfl⟩, hb⟩
  · have HMT := hid hm
    have HB := hid hb
    rw [ho] at hg
    dsimp only at hg
    clear hm hb ho
    cases hok : okKV k [] with
    | false =>
      rw [if_pos hok] at hg
      have HG := hid hg
      rw [hok] at HVA
      clear hok hg
      go_wp2_with (first | (go_at_call 75; refine (HVA.out _).mono ?_; rintro e w2 ⟨rfl, hw⟩; obtain rfl := hw.symm) | fail)
      go_ret2
      rw [HG.out]
      exact ⟨rfl, HB.out⟩
    | true =>
      rw [if_neg (by rw [hok]; decide)] at hg
      rw [hok] at HVA
      clear hok
      cases hmg : mget k t with
      | none =>
        rw [hmg] at hg
        have HG := hid hg
        have HMG : Hid (mget (str k).data.toList (tabV t) = none) := hid (by unfold tabV; rw [mget_mmap, str_list, hmg]; rfl)
        clear hg hmg
        go_wp2_with (first
          | (go_at_call 75; refine (HVA.out _).mono ?_; rintro e w2 ⟨rfl, hw⟩; obtain rfl := hw.symm)
          | (at_lookup; refine wpl_look_ok rfl _ _ 105 rfl 9 138 Tryz.underlying9 Tryz.underlying105 (zero138 _) ob _ rfl HMT.out (str k) rfl HKL.out ?_; rw [HMG.out]; dsimp only [Option.getD_none, Option.isSome_none])
          | fail)
        go_ret2
        rw [HG.out]
        exact ⟨rfl, HB.out.alloc HB.out.size _⟩
      | some c =>
        rw [hmg] at hg
        have HG := hid hg
        obtain ⟨c1, c2⟩ := c
        have HMG : Hid (mget (str k).data.toList (tabV t) = some (.agg #[.string (str c1), .bool c2])) := hid (by unfold tabV; rw [mget_mmap, str_list, hmg]; rfl)
        clear hg hmg
        go_wp2_with (first
          | (go_at_call 75; refine (HVA.out _).mono ?_; rintro e w2 ⟨rfl, hw⟩; obtain rfl := hw.symm)
          | (at_lookup; refine wpl_look_ok rfl _ _ 105 rfl 9 138 Tryz.underlying9 Tryz.underlying105 (zero138 _) ob _ rfl HMT.out (str k) rfl HKL.out ?_; rw [HMG.out]; dsimp only [Option.getD_some, Option.isSome_some])
          | fail)
        go_ret2
        rw [HG.out]
        exact ⟨rfl, HB.out.alloc HB.out.size _⟩
  · have HB := hid hb
    rw [ho] at hg
    have HG := hid hg
    clear hb ho hg
    go_wp2_with (first | (go_at_call 75; refine (HVA.out _).mono ?_; rintro e w2 ⟨rfl, hw⟩; obtain rfl := hw.symm) | fail)
    go_ret2
    rw [HG.out]
    exact ⟨rfl, HB.out⟩
end
end Go.Proofs.YtpenleogafdbhaaGreatDoor

namespace Go.Proofs.YtpenleogafdbhaaGreatDoor
open Go.RowKit Go.Maps Go.ChangeMaps Go.WideElems Go.WideShapes Go.WideAt Go.WideMaps
theorem wf_i64 {z : Int} (h1 : -9223372036854775808 ≤ z) (h2 : z < 9223372036854775808) : (Lit.int .i64 z).wf = true := by
  have e1 : IntKind.i64.min = -9223372036854775808 := by rfl
  have e2 : IntKind.i64.max = 9223372036854775807 := by rfl
  unfold Lit.wf
  simp [e1, e2]
  omega
section
variable {w : World} {sp dp tb vb mb : Nat} {rv qv : Value} {R : List (Nat × Tab)} {V : Mi (Nat × Tab)} {s : St} {L : Mp FileR} {d : Dk}
theorem iput_last {α : Type} (k : Int) (v : α) : ∀ m : Mi α, (∀ p ∈ m, p.1 < k) → iput k v m = m ++ [(k, v)] := fun m h => by
  have hd : idel k m = m := idel_none (iget_none.2 fun p hp e => by have := h p hp; omega)
  unfold iput
  rw [hd]
  clear hd
  induction m with
  | nil => rfl
  | cons p r ih =>
    have h1 := h p List.mem_cons_self
    unfold iins
    rw [if_neg (by unfold ilt; simp; omega), ih fun x hx => h x (List.mem_cons_of_mem _ hx)]
    rfl
theorem readyS_stm (h : StM w sp dp tb vb rv qv R V s) (hd : DiskM w dp mb L d) : Calls Tryz.prog 76 #[.pointer (some ⟨sp, 0, none⟩)] w fun e w' => e = .returned (.bool (s.ready d)) ∧ Below w.heap.size w w' := readyS_any w h.cells hd
set_option maxRecDepth 100000 in
set_option maxHeartbeats 8000000 in
theorem view_no (h : StM w sp dp tb vb rv qv R V s) (hd : DiskM w dp mb L d) (hr : s.ready d = false) :
    Calls Tryz.prog 46 #[.pointer (some ⟨sp, 0, none⟩)] w fun e w' => e = .returned (.tuple #[.int .i64 0, .int .i64 6]) ∧ Below w.heap.size w w' := by
  have HR := hid (readyS_stm h hd)
  rw [hr] at HR
  clear h hd hr
  go_enter Tryz.func46, Tryz.ntmps46
  go_wp2_with (first | (go_at_call 76; refine HR.out.mono ?_; rintro e w1 ⟨rfl, hb⟩; have HB := hid hb; clear hb) | fail)
  go_ret2
  exact ⟨rfl, HB.out⟩
set_option maxRecDepth 100000 in
set_option maxHeartbeats 8000000 in
theorem view_full (h : StM w sp dp tb vb rv qv R V s) (hd : DiskM w dp mb L d) (hr : s.ready d = true) (h8 : 8 ≤ V.length) :
    Calls Tryz.prog 46 #[.pointer (some ⟨sp, 0, none⟩)] w fun e w' => e = .returned (.tuple #[.int .i64 0, .int .i64 7]) ∧ Below w.heap.size w w' := by
  have HR := hid (readyS_stm h hd)
  rw [hr] at HR
  have HST := hid h
  obtain ⟨vl, hvl⟩ : ∃ n, n = V.length := ⟨_, rfl⟩
  have HVL : Hid ((V.map fun p => (p.1, Value.map (some p.2.1))).length = vl) := hid (by rw [List.length_map, hvl])
  rw [← hvl] at h8
  have hge : decide ((vl : Int) ≥ 8) = true := by simp; omega
  clear h hd hr hvl
  go_enter Tryz.func46, Tryz.ntmps46
  go_wp2_with (first
    | (go_at_call 76; refine HR.out.mono ?_; rintro e w1 ⟨rfl, hb⟩; have HB := hid hb; have HS1 := hid (HST.out.below hb); have e8 := (stc_of HS1.out.cells).2.2.2.2.2.2.2.2.1; have hln := HS1.out.views.len Tryz.underlying107 3; rw [HVL.out] at hln; clear hb)
    | fail)
  go_ret2
  exact ⟨rfl, HB.out⟩
end
section
variable {md : Region.Mode} {ops : Array Oper} {Q : Exit → Act → World → Prop} {S : World → Prop} {fuel : Nat} {listed : Array Bool} {a : Act} {w : World} {i : Nat} {o : Oper} {rs : List Nat}
/-- a call in a region -/
theorem node_c1 (f t d k1 : Nat) (v1 : Value) (eg : ∀ args w, (callFunc f args).run Tryz.prog w = .ok (.enter f args) w) (hi : ops[i]? = some o) (hgd : Region.wanted o (yielded ops a.tmps) = true) (ho : o.op = .call { callee := .value (.func f), args := #[.tmp k1], argTypes := #[t] }) (hd : o.dst = some d)
    (hp1 : a.tmps[k1]?.getD undef = v1)
    (h : Calls Tryz.prog f #[v1] w fun e w' => ∃ u, e = .returned u ∧ S w' ∧ wpAnyH Tryz.prog md ops Q S fuel (listed.setIfInBounds i true) (a.put (some d) u) w')
    (hs : AllReadyH Tryz.prog md ops Q S fuel listed a w rs) : AllReadyH Tryz.prog md ops Q S fuel listed a w (i :: rs) := by
  refine AllReadyH.cons hi (fun K hK => ?_) hs
  rw [if_pos hgd]
  unfold Oper.wp execOp
  simp [ho, go_sem, hp1, eg]
  refine h.mono ?_
  rintro e w' ⟨u, rfl, h1, h2⟩
  have hk := hK.out _ _ h1 (fun _ => h2)
  rw [hd]
  exact hk
theorem node_putI (km kk kv b : Nat) (m : Mi Value) (z : Int) (v : Value) (hi : ops[i]? = some o) (hgd : o.guard = none) (ho : o.op = .mapUpdate 107 (.tmp km) (.tmp kk) (.tmp kv)) (hd : o.dst = none)
    (hm : a.tmps[km]?.getD undef = .map (some b)) (hk : a.tmps[kk]?.getD undef = .int .i64 z) (hv : a.tmps[kv]?.getD undef = v) (hown : MapI Tryz.prog 3 w b m) (hn : m.length < maxLen) (hz : (Lit.int .i64 z).wf = true)
    (h : ∀ w', MapI Tryz.prog 3 w' b (iput z v m) → w.mapTurned w' b → S w' ∧ wpAnyH Tryz.prog md ops Q S fuel (listed.setIfInBounds i true) (a.put none undef) w')
    (hs : AllReadyH Tryz.prog md ops Q S fuel listed a w rs) : AllReadyH Tryz.prog md ops Q S fuel listed a w (i :: rs) := by
  refine AllReadyH.cons hi (fun K hK => ?_) hs
  have hw : Region.wanted o (yielded ops a.tmps) = true := by simp [Region.wanted, hgd]
  rw [if_pos hw]
  obtain ⟨w', hrun, r1, r2⟩ := hown.2.store (int_keyed Tryz.underlying3) (show Tryz.prog.underlying 107 = some (.map 3 105) from Tryz.underlying107) hn (keyOf_int_mk Tryz.underlying3 hz) (show Rv v = some (.held v, []) from rfl)
  unfold Oper.wp
  simp [execOp, ho, hm, hk, hv, hrun, Result.andThen, go_sem]
  have hM : MapI Tryz.prog 3 w' b (iput z v m) := MapI.of (isrt_mput _ _ hown.1) r1 (idm_put _ _ _ _)
  obtain ⟨h1, h2⟩ := h w' hM r2
  have hk := hK.out _ _ h1 (fun _ => h2)
  rw [hd]
  exact hk
end
section
variable {w : World} {sp dp tb vb mb : Nat} {rv qv : Value} {R : List (Nat × Tab)} {V : Mi (Nat × Tab)} {s : St} {L : Mp FileR} {d : Dk}
theorem stm_keepR (h : StM w sp dp tb vb rv qv R V s) {w' : World} (hk : ∀ k, k < w.heap.size → k ≠ sp → k ≠ vb → (fpS sp tb vb k ∨ rdS rv qv R V k) → w'.heap[k]? = w.heap[k]?) :
    MapM Tryz.prog 9 w' tb (tabV s.mem) ∧ IsV w' rv (s.head.runs.map iv) ∧ IsV w' qv (R.map fun p => .map (some p.1)) ∧ (∀ p ∈ R, MapM Tryz.prog 9 w' p.1 (tabV p.2)) ∧ (∀ p ∈ V, MapM Tryz.prog 9 w' p.2.1 (tabV p.2.2)) ∧
    (∀ k, rv.ownBlock = some k → ∃ cs, w'.heap[k]? = some (.cells cs 3)) ∧ (∀ k, qv.ownBlock = some k → ∃ cs, w'.heap[k]? = some (.cells cs 105)) := by
  have hsp : ∀ k, (∃ es c, w.heap[k]? = some (.map es c)) → k ≠ sp := fun k ⟨es, c, e⟩ e2 => by
    rw [e2, h.cells] at e; cases e
  have hct : ∀ k t, (∃ cs, w.heap[k]? = some (.cells cs t)) → t ≠ 109 → k ≠ sp ∧ k ≠ vb := fun k t ⟨cs, e⟩ ht => by
    refine ⟨fun e2 => ?_, fun e2 => ?_⟩
    · rw [e2, h.cells] at e
      simp at e
      exact ht e.2.symm
    · obtain ⟨es, c, e3⟩ := h.views.kind
      rw [e2, e3] at e; cases e
  have hrow : ∀ k, rv.ownBlock = some k → w'.heap[k]? = w.heap[k]? := fun k hk2 => by
    obtain ⟨h1, h2⟩ := hct k 3 (h.hrt k hk2) (by decide)
    obtain ⟨cs, hc⟩ := h.hrt k hk2
    exact hk k (heap_lt hc) h1 h2 (.inr (.inl hk2))
  have qrow : ∀ k, qv.ownBlock = some k → w'.heap[k]? = w.heap[k]? := fun k hk2 => by
    obtain ⟨h1, h2⟩ := hct k 105 (h.qrt k hk2) (by decide)
    obtain ⟨cs, hc⟩ := h.qrt k hk2
    exact hk k (heap_lt hc) h1 h2 (.inr (.inr (.inl hk2)))
  refine ⟨h.mem.block (hk _ h.mem.lt (hsp _ h.mem.kind) h.tv (.inl (.inr (.inl rfl)))), isV_keep h.hruns fun k a b => hrow k a, isV_keep h.runs fun k a b => qrow k a, fun p hp => (h.run p hp).block (hk _ (h.run p hp).lt (hsp _ (h.run p hp).kind) (h.rb p hp).2 (.inr (.inr (.inr (.inl ⟨p, hp, rfl⟩))))),
    fun p hp => (h.view p hp).block (hk _ (h.view p hp).lt (hsp _ (h.view p hp).kind) (h.wb p hp).2 (.inr (.inr (.inr (.inr ⟨p, hp, rfl⟩))))), fun k hk2 => (h.hrt k hk2).imp fun cs hc => (hrow k hk2).trans hc, fun k hk2 => (h.qrt k hk2).imp fun cs hc => (qrow k hk2).trans hc⟩
/-- the scalars of a store are written -/
theorem StM.scal (h : StM w sp dp tb vb rv qv R V s) {w' : World} {s' : St} (h1 : s'.mem = s.mem) (h2 : s'.head.runs = s.head.runs) (h3 : s'.runs = s.runs) (h4 : s'.views = s.views)
    (hc : w'.heap[sp]? = some (.cells (stc dp s'.turn s'.broken (.int .i64 (s'.head.log : Int)) rv (.int .i64 (s'.head.next : Int)) (.map (some tb)) qv (.map (some vb)) (.int .i64 (s'.next : Int))) 109))
    (hk : ∀ k, k < w.heap.size → k ≠ sp → (fpS sp tb vb k ∨ rdS rv qv R V k) → w'.heap[k]? = w.heap[k]?) : StM w' sp dp tb vb rv qv R V s' := by
  obtain ⟨g1, g2, g3, g4, g5, g6, g7⟩ := stm_keepR h fun k a b _ c => hk k a b c
  have hvs : vb ≠ sp := fun e => by
    obtain ⟨es, c, e3⟩ := h.views.kind
    rw [e, h.cells] at e3; cases e3
  exact ⟨hc, h1 ▸ g1, h2 ▸ g2, g3, g4, h3.trans h.eqR, h.views.block (hk vb h.views.lt hvs (.inl (.inr (.inr rfl)))), g5, h4.trans h.eqV, h.tv, h.rb, h.wb, g6, g7⟩
set_option maxRecDepth 100000 in
set_option maxHeartbeats 8000000 in
theorem view_ok (h : StM w sp dp tb vb rv qv R V s) (hz : SmallS s R) (hd : DiskM w dp mb L d) (hr : s.ready d = true) (h8 : V.length < 8) (hnx : s.next < 1000000) (hv : ∀ p ∈ V, p.1 < (s.next : Int)) :
    Calls Tryz.prog 46 #[.pointer (some ⟨sp, 0, none⟩)] w fun e w' => e = .returned (.tuple #[.int .i64 (s.next : Int), .int .i64 0]) ∧ ∃ ob, w.heap.size ≤ ob ∧ StM w' sp dp tb vb rv qv R (V ++ [((s.next : Int), ob, s.all)]) { s with views := s.views ++ [((s.next : Int), s.all)], next := s.next + 1 } ∧ Chg (fun k => k = sp ∨ k = vb) w w' := by
  have HR := hid (readyS_stm h hd)
  rw [hr] at HR
  have HST := hid h
  have HZ := hid hz
  have HVV := hid hv
  obtain ⟨vl, hvl⟩ : ∃ n, n = V.length := ⟨_, rfl⟩
  have HVL : Hid ((V.map fun p => (p.1, Value.map (some p.2.1))).length = vl) := hid (by rw [List.length_map, hvl])
  rw [← hvl] at h8
  have hge : decide ((vl : Int) ≥ 8) = false := by simp; omega
  obtain ⟨nx, hnxe⟩ : ∃ n, n = s.next := ⟨_, rfl⟩
  rw [← hnxe] at hnx
  have HNX := hid hnxe
  clear h hd hr hvl hz hv hnxe
  go_enter Tryz.func46, Tryz.ntmps46
  go_wp2_with (first
    | (go_at_call 76; refine HR.out.mono ?_; rintro e w1 ⟨rfl, hb⟩; have HB := hid hb; have HS1 := hid (HST.out.below hb); have e8 := (stc_of HS1.out.cells).2.2.2.2.2.2.2.2.1; have hln := HS1.out.views.len Tryz.underlying107 3; rw [HVL.out] at hln; clear hb)
    | fail)
  obtain ⟨CS, hCS⟩ : ∃ CS, CS = stc dp s.turn s.broken (.int .i64 (s.head.log : Int)) rv (.int .i64 (s.head.next : Int)) (.map (some tb)) qv (.map (some vb)) (.int .i64 (s.next : Int)) := ⟨_, rfl⟩
  have HCE := hid hCS
  have HC1 : Hid (w1.heap[sp]? = some (.cells CS 109)) := hid (by rw [hCS]; exact HS1.out.cells)
  have HCF : Hid (∀ W : World, W.heap[sp]? = some (.cells CS 109) → W.cell? ⟨sp, 8, none⟩ = some (.map (some vb)) ∧ W.cell? ⟨sp, 9, none⟩ = some (.int .i64 (nx : Int))) := hid fun W hW => by
    rw [hCS] at hW
    obtain ⟨-, -, -, -, -, -, -, -, q8, q9⟩ := stc_of hW
    rw [HNX.out]
    exact ⟨q8, q9⟩
  have HFR : Hid (∀ (W : World) (k : Nat), W.heap[sp]? = some (.cells CS 109) → W.frozen? ⟨sp, k, none⟩ = false) := hid fun W k hW => free_of hW k
  clear hCS e8 hln hge
  refine wp_region_held_drew (S := fun w' => w'.heap[sp]? = some (.cells CS 109)) (by kernel_rfl) HC1.out (fun hHeld => ?_)
  have HS2 : Hid (StM w1.drew sp dp tb vb rv qv R V s) := hid (HS1.out.keep fun _ _ _ => rfl)
  have HB2 : Hid (Below w.heap.size w w1.drew) := hid (HB.out.trans ⟨rfl, rfl, rfl, Nat.le_refl _, fun _ _ => rfl⟩)
  generalize w1.drew = u0 at *
  refine take_at (i := 0) 15 (v := .pointer (some ⟨sp, 0, none⟩)) rfl (by kernel_rfl) (by kernel_rfl) (by kernel_rfl) rfl (fun _ _ _ h => h) (by rfl) (fun w hSw => ?_) hHeld ?_
  · (try dsimp only at hSw); go_simp
  simp only [Act.put, List.setIfInBounds_toArray, List.set_cons_zero, List.set_cons_succ]
  refine take_at (i := 1) 16 (v := .pointer (some ⟨sp, 0, none⟩)) rfl (by kernel_rfl) (by kernel_rfl) (by kernel_rfl) rfl (fun _ _ _ h => h) (by rfl) (fun w hSw => ?_) hHeld ?_
  · (try dsimp only at hSw); go_simp
  simp only [Act.put, List.setIfInBounds_toArray, List.set_cons_zero, List.set_cons_succ]
  refine take_at (i := 2) 17 (v := .pointer (some ⟨sp, 8, none⟩)) rfl (by kernel_rfl) (by kernel_rfl) (by kernel_rfl) rfl (fun _ _ _ h => h) (by rfl) (fun w hSw => ?_) hHeld ?_
  · (try dsimp only at hSw); go_simp
  simp only [Act.put, List.setIfInBounds_toArray, List.set_cons_zero, List.set_cons_succ]
  refine take_at (i := 3) 18 (v := .map (some vb)) rfl (by kernel_rfl) (by kernel_rfl) (by kernel_rfl) rfl (fun _ _ _ h => h) (by rfl) (fun w hSw => ?_) hHeld ?_
  · (try dsimp only at hSw); obtain ⟨q8, q9⟩ := HCF.out w hSw; go_simp
  simp only [Act.put, List.setIfInBounds_toArray, List.set_cons_zero, List.set_cons_succ]
  refine take_at (i := 4) 19 (v := .pointer (some ⟨sp, 0, none⟩)) rfl (by kernel_rfl) (by kernel_rfl) (by kernel_rfl) rfl (fun _ _ _ h => h) (by rfl) (fun w hSw => ?_) hHeld ?_
  · (try dsimp only at hSw); go_simp
  simp only [Act.put, List.setIfInBounds_toArray, List.set_cons_zero, List.set_cons_succ]
  refine take_at (i := 5) 20 (v := .pointer (some ⟨sp, 0, none⟩)) rfl (by kernel_rfl) (by kernel_rfl) (by kernel_rfl) rfl (fun _ _ _ h => h) (by rfl) (fun w hSw => ?_) hHeld ?_
  · (try dsimp only at hSw); go_simp
  simp only [Act.put, List.setIfInBounds_toArray, List.set_cons_zero, List.set_cons_succ]
  refine take_at (i := 6) 21 (v := .pointer (some ⟨sp, 9, none⟩)) rfl (by kernel_rfl) (by kernel_rfl) (by kernel_rfl) rfl (fun _ _ _ h => h) (by rfl) (fun w hSw => ?_) hHeld ?_
  · (try dsimp only at hSw); go_simp
  simp only [Act.put, List.setIfInBounds_toArray, List.set_cons_zero, List.set_cons_succ]
  refine take_at (i := 7) 22 (v := .int .i64 (nx : Int)) rfl (by kernel_rfl) (by kernel_rfl) (by kernel_rfl) rfl (fun _ _ _ h => h) (by rfl) (fun w hSw => ?_) hHeld ?_
  · (try dsimp only at hSw); obtain ⟨q8, q9⟩ := HCF.out w hSw; go_simp
  simp only [Act.put, List.setIfInBounds_toArray, List.set_cons_zero, List.set_cons_succ]
  refine take_at (i := 8) 23 (v := .pointer (some ⟨sp, 0, none⟩)) rfl (by kernel_rfl) (by kernel_rfl) (by kernel_rfl) rfl (fun _ _ _ h => h) (by rfl) (fun w hSw => ?_) hHeld ?_
  · (try dsimp only at hSw); go_simp
  simp only [Act.put, List.setIfInBounds_toArray, List.set_cons_zero, List.set_cons_succ]
  refine wpAnyH_ready (rs := [9]) (by kernel_rfl) (by simp) ?_
  refine node_c1 111 33 24 23 (.pointer (some ⟨sp, 0, none⟩)) (enters_of Tryz.func111 (by kernel_rfl) rfl) rfl (by rfl) rfl rfl rfl ((allS_any HS2.out HZ.out).mono ?_) AllReadyH.nil
  rintro e w2 ⟨ob, rfl, hobl, hmo, hb2⟩
  have HMO := hid hmo
  have HB3 : Hid (Below w.heap.size w w2) := hid (HB2.out.trans (hb2.mono HB2.out.size))
  have HS3 := hid (HS2.out.below hb2)
  have HC3 : Hid (w2.heap[sp]? = some (.cells CS 109)) := hid ((hb2.block sp (heap_lt hHeld)).trans hHeld)
  have HOL : Hid (w.heap.size ≤ ob) := hid (Nat.le_trans HB2.out.size hobl)
  have HOU : Hid (u0.heap.size ≤ ob) := hid hobl
  have HUV : Hid (vb < u0.heap.size) := hid HS2.out.views.lt
  have HUT : Hid (tb < u0.heap.size) := hid HS2.out.mem.lt
  clear hmo hb2 hobl
  refine ⟨_, rfl, HC3.out, ?_⟩
  have hHeld := HC3.out
  simp only [Act.put, List.setIfInBounds_toArray, List.set_cons_zero, List.set_cons_succ]
  refine wpAnyH_ready (rs := [10]) (by kernel_rfl) (by simp) ?_
  refine node_putI 18 22 24 vb _ (nx : Int) (.map (some ob)) rfl rfl rfl rfl rfl rfl rfl HS3.out.views (by rw [HVL.out]; unfold maxLen; omega) (wf_i64 (by omega) (by omega)) (fun w3 hm3 ht3 => ?_) AllReadyH.nil
  have hvs : sp ≠ vb := fun e => by
    obtain ⟨es, c, e3⟩ := HS3.out.views.kind
    rw [← e, HC3.out] at e3; cases e3
  have HC4 : Hid (w3.heap[sp]? = some (.cells CS 109)) := hid ((mapTurned_other ht3 hvs).trans HC3.out)
  have HM4 := hid hm3
  have HT4 := hid ht3
  have HVS := hid hvs
  clear hm3 ht3 hvs hHeld
  refine ⟨HC4.out, ?_⟩
  refine wpAnyH_done (by kernel_rfl) ?_ _
  obtain ⟨e8, e9⟩ := HCF.out _ HC4.out
  have f9 := HFR.out _ 9 HC4.out
  go_wp2_with fail
  go_ret2
  have hb4 : ∀ k, k ≠ sp → k ≠ vb → (w3.setCell ⟨sp, 9, none⟩ (.int .i64 ((nx : Int) + 1))).heap[k]? = w2.heap[k]? := fun k h1 h2 => (set_other (a := ⟨sp, 9, none⟩) h1).trans (mapTurned_other HT4.out h2)
  obtain ⟨g1, g2, g3, g4, g5, g6, g7⟩ := stm_keepR HS3.out fun k _ h1 h2 _ => hb4 k h1 h2
  have hVm : (V ++ [((s.next : Int), ob, s.all)]).map (fun p => (p.1, Value.map (some p.2.1))) = iput (nx : Int) (.map (some ob)) (V.map fun p => (p.1, .map (some p.2.1))) := by
    rw [iput_last _ _ _ fun p hp => ?_, List.map_append, HNX.out]
    · rfl
    · obtain ⟨q, hq, rfl⟩ := List.mem_map.1 hp
      rw [HNX.out]
      exact HVV.out q hq
  have hMO : MapM Tryz.prog 9 (w3.setCell ⟨sp, 9, none⟩ (.int .i64 ((nx : Int) + 1))) ob (tabV s.all) := HMO.out.block (hb4 ob (fun e => by
    obtain ⟨es, c, e3⟩ := HMO.out.kind
    rw [e, HC3.out] at e3; cases e3) (fun e => by have := HUV.out; have := HOU.out; omega))
  refine ⟨?_, ob, HOL.out, ⟨?_, g1, g2, g3, g4, HS3.out.eqR, ?_, fun p hp => ?_, ?_, HS3.out.tv, HS3.out.rb, fun p hp => ?_, g6, g7⟩, ?_⟩
  · simp [HNX.out]
  · rw [modify_at HC4.out, HCE.out, ← HNX.out]
    rfl
  · rw [hVm]
    exact HM4.out.block (set_other (a := ⟨sp, 9, none⟩) HVS.out.symm)
  · rcases List.mem_append.1 hp with hp | hp
    · exact g5 p hp
    · rw [List.mem_singleton.1 hp]
      exact hMO
  · show s.views ++ _ = _
    rw [HS3.out.eqV, List.map_append]
    rfl
  · rcases List.mem_append.1 hp with hp | hp
    · exact HS3.out.wb p hp
    · rw [List.mem_singleton.1 hp]
      have h1 := HOU.out
      have h2 := HUV.out
      refine ⟨fun e => ?_, fun e => ?_⟩
      · have e : ob = tb := e
        have h3 := HUT.out
        omega
      · have e : ob = vb := e
        omega
  · exact (chg_below HB3.out).trans0 ((chg_turned HT4.out (.inr rfl)).trans0 (chg_set (.inl rfl)))
end
end Go.Proofs.YtpenleogafdbhaaGreatDoor

namespace Go.Proofs.YtpenleogafdbhaaGreatDoor
open Go.RowKit Go.Maps Go.ChangeMaps Go.WideElems Go.WideShapes Go.WideAt Go.WideMaps
section
variable {w : World} {sp dp tb vb mb : Nat} {rv qv : Value} {R : List (Nat × Tab)} {V : Mi (Nat × Tab)} {s : St} {L : Mp FileR} {d : Dk}
theorem any_iget (v : Int) : ∀ V : Mi (Nat × Tab), (V.map fun p => (p.1, p.2.2)).any (fun p => p.1 == v) = (iget v V).isSome
  | [] => rfl
  | p :: r => by
    rw [List.map_cons, List.any_cons, iget_cons, any_iget v r]
    by_cases e : p.1 = v
    · rw [if_pos e]
      simp [e]
    · rw [if_neg e]
      simp [e]
theorem filter_views (v : Int) (V : Mi (Nat × Tab)) : (V.map fun p => (p.1, p.2.2)).filter (fun p => !(p.1 == v)) = (idel v V).map fun p => (p.1, p.2.2) := by
  unfold idel
  rw [List.filter_map]
  rfl
theorem idel_map {α β : Type} (f : α → β) (v : Int) (V : Mi α) : (idel v V).map (fun p => (p.1, f p.2)) = idel v (V.map fun p => (p.1, f p.2)) := by
  unfold idel
  rw [List.filter_map]
  rfl
set_option maxRecDepth 100000 in
set_option maxHeartbeats 8000000 in
theorem drop_any (h : StM w sp dp tb vb rv qv R V s) (hd : DiskM w dp mb L d) (v : Int) (hv : (Lit.int .i64 v).wf = true) :
    Calls Tryz.prog 49 #[.pointer (some ⟨sp, 0, none⟩), .int .i64 v] w fun e w' => e = .returned (.int .i64 ((s.drop d v).1 : Int)) ∧ ∃ V', StM w' sp dp tb vb rv qv R V' (s.drop d v).2 ∧ (∀ p ∈ V', p ∈ V) ∧ Chg (fun k => k = vb) w w' := by
  have HR := hid (readyS_stm h hd)
  have HST := hid h
  have HWF := hid hv
  obtain ⟨g, hg⟩ : ∃ g, g = s.drop d v := ⟨_, rfl⟩
  rw [← hg]
  unfold St.drop at hg
  cases hr : s.ready d with
  | false =>
    rw [if_pos hr] at hg
    rw [hr] at HR
    have HG := hid hg
    clear h hd hr hv hg
    go_enter Tryz.func49, Tryz.ntmps49
    go_wp2_with (first | (go_at_call 76; refine HR.out.mono ?_; rintro e w1 ⟨rfl, hb⟩; have HB := hid hb; clear hb) | fail)
    go_ret
    rw [HG.out]
    exact ⟨rfl, V, HST.out.below HB.out, fun p hp => hp, chg_below HB.out⟩
  | true =>
    rw [if_neg (by rw [hr]; decide), h.eqV, any_iget] at hg
    rw [hr] at HR
    clear h hd hr hv
    cases hi : iget v V with
    | none =>
      rw [hi, if_pos (show (none : Option (Nat × Tab)).isSome = false from rfl)] at hg
      have HG := hid hg
      have HI : Hid (iget v (V.map fun p => (p.1, Value.map (some p.2.1))) = none) := hid (by rw [iget_map (fun q : Nat × Tab => Value.map (some q.1)), hi]; rfl)
      clear hg hi
      go_enter Tryz.func49, Tryz.ntmps49
      go_wp2_with (first
        | (go_at_call 76; refine HR.out.mono ?_; rintro e w1 ⟨rfl, hb⟩; have HB := hid hb; have HS1 := hid (HST.out.below hb); have e8 := (stc_of HS1.out.cells).2.2.2.2.2.2.2.2.1; clear hb)
        | (at_lookup; refine wpi_look_ok rfl _ _ 107 rfl 3 105 Tryz.underlying3 Tryz.underlying107 (zero105 _) vb _ rfl HS1.out.views v rfl HWF.out ?_; rw [HI.out]; dsimp only [Option.getD_none, Option.isSome_none])
        | fail)
      go_ret
      rw [HG.out]
      exact ⟨rfl, V, HS1.out, fun p hp => hp, chg_below HB.out⟩
    | some q =>
      rw [hi, if_neg (show ¬ (some q).isSome = false from fun h => by cases h)] at hg
      have HG := hid hg
      have HI : Hid (iget v (V.map fun p => (p.1, Value.map (some p.2.1))) = some (.map (some q.1))) := hid (by rw [iget_map (fun q : Nat × Tab => Value.map (some q.1)), hi]; rfl)
      clear hg hi
      go_enter Tryz.func49, Tryz.ntmps49
      go_wp2_with (first
        | (go_at_call 76; refine HR.out.mono ?_; rintro e w1 ⟨rfl, hb⟩; have HB := hid hb; have HS1 := hid (HST.out.below hb); have e8 := (stc_of HS1.out.cells).2.2.2.2.2.2.2.2.1; clear hb)
        | (at_lookup; refine wpi_look_ok rfl _ _ 107 rfl 3 105 Tryz.underlying3 Tryz.underlying107 (zero105 _) vb _ rfl HS1.out.views v rfl HWF.out ?_; rw [HI.out]; dsimp only [Option.getD_some, Option.isSome_some])
        | (at_delete; refine wpi_del rfl _ _ 107 3 rfl 105 Tryz.underlying3 Tryz.underlying107 vb _ rfl HS1.out.views v rfl HWF.out ?_; intro w2 hm2 ht2; have HM2 := hid hm2; have HT2 := hid ht2; clear hm2 ht2)
        | fail)
      go_ret
      have hvs : sp ≠ vb := fun e => by
        obtain ⟨es, c, e3⟩ := HS1.out.views.kind
        rw [← e, HS1.out.cells] at e3; cases e3
      obtain ⟨g1, g2, g3, g4, g5, g6, g7⟩ := stm_keepR HS1.out fun k _ h1 h2 _ => mapTurned_other HT2.out h2
      rw [HG.out]
      refine ⟨rfl, idel v V, ⟨(mapTurned_other HT2.out hvs).trans HS1.out.cells, g1, g2, g3, g4, HS1.out.eqR, ?_, fun p hp => g5 p (imem_mdel.1 hp).1, ?_, HS1.out.tv, HS1.out.rb, fun p hp => HS1.out.wb p (imem_mdel.1 hp).1, g6, g7⟩, fun p hp => (imem_mdel.1 hp).1, (chg_below HB.out).trans0 (chg_turned HT2.out rfl)⟩
      · rw [idel_map (fun q : Nat × Tab => Value.map (some q.1))]
        exact HM2.out
      · exact filter_views v V
end
end Go.Proofs.YtpenleogafdbhaaGreatDoor

namespace Go.Proofs.YtpenleogafdbhaaGreatDoor
open Go.RowKit Go.Maps Go.ChangeMaps Go.WideElems Go.WideShapes Go.WideAt Go.WideMaps
/-- the blocks that a store and its disk write -/
def foot (sp dp mb tb vb : Nat) (L : Mp FileR) : Fp := fun k => fpS sp tb vb k ∨ fpD dp mb L k
/-- numbers that names can bear -/
structure NumS (s : St) : Prop where
  log : s.head.log < 100000000
  next : s.head.next < 100000000
  runs : ∀ r ∈ s.head.runs, r < 100000000
structure Env (w : World) (sp dp mb tb vb : Nat) (L : Mp FileR) (rv qv : Value) (R : List (Nat × Tab)) (V : Mi (Nat × Tab)) (s : St) (d : Dk) : Prop where
  st : StM w sp dp tb vb rv qv R V s
  dk : DiskM w dp mb L d
  sd : Sd mb tb vb R V
  ok : d.Ok
  g : Glb w
  lo : ∀ k, foot sp dp mb tb vb L k → 4 ≤ k
  sm : SmallS s R
  num : NumS s
section
variable {w w' : World} {sp dp mb tb vb : Nat} {L : Mp FileR} {rv qv : Value} {R : List (Nat × Tab)} {V : Mi (Nat × Tab)} {s : St} {d : Dk}
theorem Env.below (E : Env w sp dp mb tb vb L rv qv R V s d) (hb : Below w.heap.size w w') : Env w' sp dp mb tb vb L rv qv R V s d :=
  ⟨E.st.below hb, E.dk.below hb, E.sd, E.ok, E.g.below hb, E.lo, E.sm, E.num⟩
theorem Env.lt (E : Env w sp dp mb tb vb L rv qv R V s d) : ∀ k, foot sp dp mb tb vb L k → k < w.heap.size := by
  rintro k ((rfl | rfl | rfl) | hk)
  · exact heap_lt E.st.cells
  · exact E.st.mem.lt
  · exact E.st.views.lt
  · exact E.dk.lt k hk
theorem Env.sep (E : Env w sp dp mb tb vb L rv qv R V s d) : ∀ k, fpS sp tb vb k ∨ rdS rv qv R V k → fpD dp mb L k → False := sep_sd E.st E.dk E.sd
theorem Env.sp_nd (E : Env w sp dp mb tb vb L rv qv R V s d) : ¬ fpD dp mb L sp := fun h => E.sep sp (.inl (.inl rfl)) h
/-- what a function that works on the disk leaves -/
structure Did (w w' : World) (sp dp mb tb vb : Nat) (L : Mp FileR) (rv qv : Value) (R : List (Nat × Tab)) (V : Mi (Nat × Tab)) (s' : St) (d' : Dk) (tb' : Nat) (L' : Mp FileR) (rv' qv' : Value) (R' : List (Nat × Tab)) : Prop where
  env : Env w' sp dp mb tb' vb L' rv' qv' R' V s' d'
  chg : Chg (foot sp dp mb tb vb L) w w'
  new : New w (foot sp dp mb tb vb L) (foot sp dp mb tb' vb L')
  rd : ∀ k, rdS rv' qv' R' V k → rdS rv qv R V k ∨ foot sp dp mb tb vb L k ∨ w.heap.size ≤ k
def Does (w w' : World) (sp dp mb tb vb : Nat) (L : Mp FileR) (rv qv : Value) (R : List (Nat × Tab)) (V : Mi (Nat × Tab)) (s' : St) (d' : Dk) : Prop := ∃ tb' L' rv' qv' R', Did w w' sp dp mb tb vb L rv qv R V s' d' tb' L' rv' qv' R'
theorem Env.does (E : Env w sp dp mb tb vb L rv qv R V s d) (hb : Below w.heap.size w w') : Does w w' sp dp mb tb vb L rv qv R V s d :=
  ⟨tb, L, rv, qv, R, E.below hb, chg_below hb, New.refl, fun k hk => .inl hk⟩
theorem Did.trans {s' s'' : St} {d' d'' : Dk} {tb' : Nat} {L' : Mp FileR} {rv' qv' : Value} {R' : List (Nat × Tab)} {w'' : World} (D : Did w w' sp dp mb tb vb L rv qv R V s' d' tb' L' rv' qv' R') (D2 : Does w' w'' sp dp mb tb' vb L' rv' qv' R' V s'' d'') : Does w w'' sp dp mb tb vb L rv qv R V s'' d'' := by
  obtain ⟨tb2, L2, rv2, qv2, R2, h⟩ := D2
  refine ⟨tb2, L2, rv2, qv2, R2, h.env, D.chg.trans h.chg D.new, D.new.trans h.new D.chg.size, fun k hk => ?_⟩
  rcases h.rd k hk with h1 | h1 | h1
  · exact D.rd k h1
  · exact .inr (D.new k h1)
  · exact .inr (.inr (Nat.le_trans D.chg.size h1))
theorem Does.trans {s' s'' : St} {d' d'' : Dk} {w'' : World} (D : Does w w' sp dp mb tb vb L rv qv R V s' d') (D2 : ∀ tb' L' rv' qv' R', Env w' sp dp mb tb' vb L' rv' qv' R' V s' d' → Does w' w'' sp dp mb tb' vb L' rv' qv' R' V s'' d'') : Does w w'' sp dp mb tb vb L rv qv R V s'' d'' := by
  obtain ⟨tb', L', rv', qv', R', D⟩ := D
  exact D.trans (D2 _ _ _ _ _ D.env)
theorem Does.below {s' : St} {d' : Dk} {w'' : World} (D : Does w w' sp dp mb tb vb L rv qv R V s' d') (hb : Below w'.heap.size w' w'') : Does w w'' sp dp mb tb vb L rv qv R V s' d' := by
  obtain ⟨tb', L', rv', qv', R', D⟩ := D
  exact D.trans (D.env.does hb)
theorem Does.after {s' : St} {d' : Dk} {w0 : World} (hb : Below w0.heap.size w0 w) (D : Does w w' sp dp mb tb vb L rv qv R V s' d') (hl : ∀ k, foot sp dp mb tb vb L k → k < w0.heap.size) : Does w0 w' sp dp mb tb vb L rv qv R V s' d' := by
  obtain ⟨tb', L', rv', qv', R', D⟩ := D
  exact ⟨tb', L', rv', qv', R', D.env, (chg_below hb).trans0 D.chg, fun k hk => (D.new k hk).imp id fun h => Nat.le_trans hb.size h, fun k hk => (D.rd k hk).imp id fun h => h.imp id fun h => Nat.le_trans hb.size h⟩
/-- an act is done, and noted -/
theorem Env.acted (E : Env w sp dp mb tb vb L rv qv R V s d) {d' : Dk} {s' : St} (hA : Acted sp dp mb L d' w w') (ok' : d'.Ok) (h1 : s'.mem = s.mem) (h2 : s'.head = s.head) (h3 : s'.runs = s.runs) (h4 : s'.views = s.views)
    (hc : w'.heap[sp]? = some (.cells (stc dp s'.turn s'.broken (.int .i64 (s'.head.log : Int)) rv (.int .i64 (s'.head.next : Int)) (.map (some tb)) qv (.map (some vb)) (.int .i64 (s'.next : Int))) 109)) : Does w w' sp dp mb tb vb L rv qv R V s' d' := by
  obtain ⟨L', hd, hch, hn⟩ := hA
  have hst : StM w' sp dp tb vb rv qv R V s' := E.st.scal h1 (by rw [h2]) h3 h4 hc fun k hk hne hr => hch.block k hk fun e => e.elim hne fun hf => E.sep k hr hf
  have hch2 : Chg (foot sp dp mb tb vb L) w w' := hch.mono fun k e => e.elim (fun e => .inl (.inl e)) .inr
  refine ⟨tb, L', rv, qv, R, ⟨hst, hd, E.sd, ok', E.g.chg hch2 E.lo, ?_, ⟨by rw [h1]; exact E.sm.mem, E.sm.run, E.sm.runs⟩, ⟨by rw [h2]; exact E.num.log, by rw [h2]; exact E.num.next, by rw [h2]; exact E.num.runs⟩⟩, hch2, ?_, fun k hk => .inl hk⟩
  · rintro k (hk | hk)
    · exact E.lo k (.inl hk)
    · rcases hn k hk with h | h
      · exact E.lo k (.inr h)
      · have := E.g.size; omega
  · rintro k (hk | hk)
    · exact .inl (.inl hk)
    · exact (hn k hk).imp .inr id
end
end Go.Proofs.YtpenleogafdbhaaGreatDoor
