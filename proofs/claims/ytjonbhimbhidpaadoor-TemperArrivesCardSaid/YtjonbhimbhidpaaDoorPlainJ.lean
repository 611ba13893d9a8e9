/-
  Chapter 6 in plain words: a part of the safe cells, and its kernel; the turned grid, and its kernel.
-/
import Derived.Test.YtjonbhimbhidpaaDoorZ13
namespace Go.Proofs.YtjonbhimbhidpaaDoor

/-! ### A part of the safe cells -/
def sub1 (l s : Str) : Prop := ∀ c, l.getD c 0 = 46 → s.getD c 0 = 46
def sub2 (p q : List Str) : Prop := ∀ r, sub1 (p.getD r []) (q.getD r [])
def sub3 (g h : Grid) : Prop := ∀ p, sub2 (g.getD p []) (h.getD p [])
theorem sub1_nil (s : Str) : sub1 [] s := by
  intro c h
  rw [show ([] : Str).getD c 0 = 0 by simp [List.getD]] at h
  exact absurd h (by decide)
theorem getD_snoc {α : Type} (l : List α) (b d : α) (c : Nat) : (l ++ [b]).getD c d = if c = l.length then b else l.getD c d := by
  split
  · subst_vars; simp [List.getD]
  · by_cases h : c < l.length
    · simp [List.getD, List.getElem?_append, h]
    · have h2 : l.length < c := by omega
      simp [List.getD, List.getElem?_append, h, List.getElem?_eq_none (by omega : l.length ≤ c)]
      rw [List.getElem?_eq_none (by simp; omega)]
      rfl
theorem sub1_snoc {l s : Str} (h : sub1 l s) (b : UInt8) (hb : b = 46 → s.getD l.length 0 = 46) : sub1 (l ++ [b]) s := by
  intro c hc
  rw [getD_snoc] at hc
  split at hc
  · subst_vars; exact hb rfl
  · exact h c hc
theorem sub2_nil (q : List Str) : sub2 [] q := by
  intro r
  rw [show ([] : List Str).getD r [] = [] by simp [List.getD]]
  exact sub1_nil _
theorem sub2_snoc {p q : List Str} (h : sub2 p q) {l : Str} (hl : sub1 l (q.getD p.length [])) : sub2 (p ++ [l]) q := by
  intro r
  rw [getD_snoc]
  split
  · subst_vars; exact hl
  · exact h r
theorem sub3_nil (q : Grid) : sub3 [] q := by
  intro r
  rw [show ([] : Grid).getD r [] = [] by simp [List.getD]]
  exact sub2_nil _
theorem sub3_snoc {p q : Grid} (h : sub3 p q) {l : List Str} (hl : sub2 l (q.getD p.length [])) : sub3 (p ++ [l]) q := by
  intro r
  rw [getD_snoc]
  split
  · subst_vars; exact hl
  · exact h r
theorem sub_inG {g h : Grid} (hs : sub3 g h) (c : Sp) (hc : inG g c = true) : inG h c = true := by
  unfold inG chAt rowAt at *
  rw [beq_iff_eq] at *
  exact hs _ _ _ hc
/-! ### The sizes of an oven of a given form -/
theorem form_dims {P R C : Nat} {g : Grid} (ms : List Mv) (js : List (Int × Int)) (h : formB P R C g = true) (hP : 1 ≤ P) (hR : 1 ≤ R) : Ov.P ⟨g, ms, js⟩ = P ∧ Ov.R ⟨g, ms, js⟩ = R ∧ Ov.C ⟨g, ms, js⟩ = C := by
  unfold formB at h
  simp only [Bool.and_eq_true, decide_eq_true_eq, List.all_eq_true] at h
  obtain ⟨h1, h2⟩ := h
  match g, h1, h2 with
  | [], h1, _ => simp at h1; omega
  | p :: g', h1, h2 =>
    have h3 := h2 p (by simp)
    unfold phaseOk rowsOk at h3
    simp only [Bool.and_eq_true, decide_eq_true_eq, List.all_eq_true] at h3
    match p, h3 with
    | [], h3 => simp at h3; omega
    | s :: p', h3 =>
      have h4 := h3.2 s (by simp)
      unfold rowOk at h4
      simp only [Bool.and_eq_true, decide_eq_true_eq] at h4
      exact ⟨h1, h3.1, h4.1⟩
theorem form_ok {q : Ov} (hq : q.Ok) {g : Grid} (h : formB q.P q.R q.C g = true) : Ov.Ok ⟨g, q.moves, q.jolts⟩ := by
  obtain ⟨e1, e2, e3⟩ := form_dims q.moves q.jolts h hq.p.1 hq.r.1
  refine ⟨by rw [e1]; exact hq.p, by rw [e2]; exact hq.r, by rw [e3]; exact hq.c, hq.nm, hq.nj, by rw [e1, e2, e3]; exact h, ?_, hq.jl⟩
  rw [e1]; exact hq.mv
theorem ex_dims {o o' : Ov} (h : o'.P = o.P ∧ o'.R = o.R ∧ o'.C = o.C) (c : Sp) : o'.ex c = o.ex c := by
  unfold Ov.ex
  rw [h.1, h.2.1, h.2.2]
theorem gridOf_dims {o o' : Ov} (h : o'.P = o.P ∧ o'.R = o.R ∧ o'.C = o.C) (S : Sp → Bool) : o'.gridOf S = o.gridOf S := by
  unfold Ov.gridOf Ov.phG Ov.rowG
  rw [h.1, h.2.1, h.2.2]
theorem part_dims {q : Ov} (hq : q.Ok) {g : Grid} (h : formB q.P q.R q.C g = true) : Ov.P ⟨g, q.moves, q.jolts⟩ = q.P ∧ Ov.R ⟨g, q.moves, q.jolts⟩ = q.R ∧ Ov.C ⟨g, q.moves, q.jolts⟩ = q.C := form_dims _ _ h hq.p.1 hq.r.1
theorem part_KK {q : Ov} (hq : q.Ok) {g : Grid} (h : formB q.P q.R q.C g = true) (hs : sub3 g q.safe) (c : Sp) (hc : Ov.KK ⟨g, q.moves, q.jolts⟩ c = true) : q.KK c = true := by
  refine KK_mono (o := ⟨g, q.moves, q.jolts⟩) (o' := q) (fun d hd => ?_) (fun m hm => hm) (fun j hj => hj) c hc
  simp only [Ov.K, Bool.and_eq_true] at hd ⊢
  rw [ex_dims (part_dims hq h)] at hd
  exact ⟨hd.1, sub_inG hs d hd.2⟩
theorem part_holds {q : Ov} (hq : q.Ok) {g : Grid} (h : formB q.P q.R q.C g = true) (hs : sub3 g q.safe) : q.holds (Ov.gridOf ⟨g, q.moves, q.jolts⟩ (Ov.KK ⟨g, q.moves, q.jolts⟩)) = true := by
  rw [gridOf_dims (part_dims hq h)]
  refine holds_gridOf (fun c hc => ?_) (fun c hc => ?_) (fun c hc => ?_)
  · rw [← ex_dims (part_dims hq h)]
    exact KK_ex _ c hc
  · exact sub_inG hs c (KK_safe _ c hc)
  · exact KK_move _ c hc
theorem part_form {q : Ov} (hq : q.Ok) {g : Grid} (h : formB q.P q.R q.C g = true) (S : Sp → Bool) : formB q.P q.R q.C (Ov.gridOf ⟨g, q.moves, q.jolts⟩ S) = true := by
  rw [gridOf_dims (part_dims hq h)]
  exact form_gridOf q S

/-! ### The turned grid -/
def turnP (p : List Str) : List Str := p.map List.reverse
def turnG (g : Grid) : Grid := g.map turnP
theorem form_turn {P R C : Nat} {g : Grid} (h : formB P R C g = true) : formB P R C (turnG g) = true := by
  unfold formB phaseOk rowsOk rowOk turnG turnP at *
  simp only [Bool.and_eq_true, decide_eq_true_eq, List.all_eq_true, List.length_map, List.mem_map] at *
  refine ⟨h.1, ?_⟩
  rintro p ⟨p0, hp0, rfl⟩
  obtain ⟨h1, h2⟩ := h.2 p0 hp0
  refine ⟨by simpa using h1, ?_⟩
  simp only [List.mem_map]
  rintro s ⟨s0, hs0, rfl⟩
  obtain ⟨h3, h4⟩ := h2 s0 hs0
  exact ⟨by simpa using h3, fun x hx => h4 x (by simpa using hx)⟩
theorem turn_dims {q : Ov} (hq : q.Ok) (ms : List Mv) (js : List (Int × Int)) : Ov.P ⟨turnG q.safe, ms, js⟩ = q.P ∧ Ov.R ⟨turnG q.safe, ms, js⟩ = q.R ∧ Ov.C ⟨turnG q.safe, ms, js⟩ = q.C := form_dims _ _ (form_turn hq.form) hq.p.1 hq.r.1
theorem negM_ok {P : Nat} {m : Mv} (h : mvOk P m = true) : mvOk P (negM m) = true := by
  unfold mvOk within5 negM at *
  simp only [Bool.and_eq_true, decide_eq_true_eq] at *
  omega
theorem negJ_ok {j : Int × Int} (h : jlOk j = true) : jlOk (negJ j) = true := by
  unfold jlOk within5 negJ at *
  simp only [Bool.and_eq_true, decide_eq_true_eq] at *
  omega
def Ov.mirror (q : Ov) : Ov := ⟨turnG q.safe, q.moves.map negM, q.jolts.map negJ⟩
theorem mirror_ok {q : Ov} (hq : q.Ok) : q.mirror.Ok := by
  obtain ⟨e1, e2, e3⟩ := turn_dims hq (q.moves.map negM) (q.jolts.map negJ)
  refine ⟨?_, ?_, ?_, by show (q.moves.map negM).length ≤ _; simpa using hq.nm, by show 1 ≤ (q.jolts.map negJ).length ∧ (q.jolts.map negJ).length ≤ 4; simpa using hq.nj, ?_, ?_, ?_⟩
  · unfold Ov.mirror; rw [e1]; exact hq.p
  · unfold Ov.mirror; rw [e2]; exact hq.r
  · unfold Ov.mirror; rw [e3]; exact hq.c
  · unfold Ov.mirror; rw [e1, e2, e3]; exact form_turn hq.form
  · intro m hm
    unfold Ov.mirror; rw [e1]
    obtain ⟨m0, h0, rfl⟩ := List.mem_map.1 hm
    exact negM_ok (hq.mv m0 h0)
  · intro j hj
    obtain ⟨j0, h0, rfl⟩ := List.mem_map.1 hj
    exact negJ_ok (hq.jl j0 h0)
theorem chAt_turn {P R C : Nat} {g : Grid} (h : formB P R C g = true) (p y x : Nat) (hp : p < P) (hy : y < R) (hx : x < C) : chAt (turnG g) p y (C - 1 - x) = chAt g p y x := by
  unfold formB phaseOk rowsOk rowOk at h
  simp only [Bool.and_eq_true, decide_eq_true_eq, List.all_eq_true] at h
  obtain ⟨h1, h2⟩ := h
  have hp' : p < g.length := by omega
  obtain ⟨h3, h4⟩ := h2 g[p] (List.getElem_mem hp')
  have hy' : y < g[p].length := by omega
  obtain ⟨h5, _⟩ := h4 g[p][y] (List.getElem_mem hy')
  have e1 : rowAt (turnG g) p y = g[p][y].reverse := by simp [rowAt, turnG, turnP, List.getD, hp', hy']
  have e2 : rowAt g p y = g[p][y] := by simp [rowAt, List.getD, hp', hy']
  unfold chAt
  rw [e1, e2]
  have hx1 : C - 1 - x < g[p][y].length := by omega
  have hx2 : x < g[p][y].length := by omega
  rw [List.getD_eq_getElem?_getD, List.getD_eq_getElem?_getD, List.getElem?_reverse hx1]
  rw [show g[p][y].length - 1 - (C - 1 - x) = x by omega]
theorem mirror_K0 {q : Ov} (hq : q.Ok) (c : Sp) : q.mirror.K 0 (mirC q.C c) = q.K 0 c := by
  have hd := turn_dims hq (q.moves.map negM) (q.jolts.map negJ)
  have hex : q.mirror.ex (mirC q.C c) = q.ex c := by
    unfold Ov.mirror
    rw [ex_dims hd]
    unfold Ov.ex mirC
    simp only [decide_eq_decide]
    omega
  simp only [Ov.K]
  rw [hex]
  cases he : q.ex c
  · rfl
  · obtain ⟨p, x, y, rfl, hp, hx, hy⟩ := ex_cell q c he
    rw [Bool.true_and, Bool.true_and]
    unfold inG mirC
    simp only [Int.toNat_natCast]
    rw [show ((q.C : Int) - 1 - (x : Int)).toNat = q.C - 1 - x by omega]
    unfold Ov.mirror
    rw [chAt_turn hq.form p y x hp hy hx]
theorem mirror_KK {q : Ov} (hq : q.Ok) (c : Sp) : q.mirror.KK (mirC q.C c) = q.KK c := KK_mirror q.C rfl rfl (mirror_K0 hq) c
/-- the kernel of the mirrored oven is the kernel, mirrored -/
theorem mirror_grid {q : Ov} (hq : q.Ok) : q.mirror.gridOf q.mirror.KK = turnG (q.gridOf q.KK) := by
  have hd := turn_dims hq (q.moves.map negM) (q.jolts.map negJ)
  have hm := mirror_ok hq
  rw [← grid_eq q.mirror (turnG (q.gridOf q.KK)) (by unfold Ov.mirror; rw [hd.1, hd.2.1, hd.2.2]; exact form_turn (form_gridOf q q.KK))]
  refine gridOf_ext _ _ _ fun c hc => ?_
  have hc' : q.ex c = true := by rw [← ex_dims hd]; exact hc
  obtain ⟨p, x, y, rfl, hp, hx, hy⟩ := ex_cell q c hc'
  have hx2 : q.C - 1 - x < q.C := by omega
  have e1 : ((p : Int), (x : Int), (y : Int)) = mirC q.C ((p : Int), ((q.C - 1 - x : Nat) : Int), (y : Int)) := by
    unfold mirC
    simp only [Prod.mk.injEq, and_true, true_and]
    omega
  rw [e1, mirror_KK hq]
  unfold inG mirC
  simp only [Int.toNat_natCast]
  rw [show ((q.C : Int) - 1 - ((q.C - 1 - x : Nat) : Int)).toNat = q.C - 1 - (q.C - 1 - x) by omega, chAt_turn (form_gridOf q q.KK) p y _ hp hy hx2, chAt_gridOf q _ p y _ hp hy hx2, letterB_eq]
/-- the kernel of the oven whose safe cells are the kernel is the kernel -/
theorem again_grid {q : Ov} (hq : q.Ok) : Ov.gridOf ⟨q.gridOf q.KK, q.moves, q.jolts⟩ (Ov.KK ⟨q.gridOf q.KK, q.moves, q.jolts⟩) = q.gridOf q.KK := by
  have hf := form_gridOf q q.KK
  rw [gridOf_dims (part_dims hq hf)]
  refine gridOf_ext _ _ _ fun c _ => KK_again (o := q) (o' := ⟨q.gridOf q.KK, q.moves, q.jolts⟩) (fun d => ?_) rfl rfl c
  simp only [Ov.K]
  rw [ex_dims (part_dims hq hf)]
  cases he : q.ex d
  · rw [Bool.false_and]
    cases hk : q.KK d
    · rfl
    · rw [KK_ex q d hk] at he
      cases he
  · rw [Bool.true_and]
    exact inG_gridOf q q.KK d he
end Go.Proofs.YtjonbhimbhidpaaDoor
