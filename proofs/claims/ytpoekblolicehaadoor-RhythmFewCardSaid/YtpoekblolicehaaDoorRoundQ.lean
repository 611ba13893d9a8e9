/-
  A region that only reads, in a round of a loop over a function: one walk in the order of the text serves every order. The kit's theorem asks that no round runs; that premise is not needed.
-/
import Derived.Sort.QuietIn
import Derived.OwnWalkIn
namespace Go.Proofs.YtpoekblolicehaaDoor

section
variable {F : Fence} {n : Nat} {P : Program} {ops : Array Oper} {C : World → Prop}

/-- a quiet operation is no defer statement -/
theorem quiet_no_defer {o : Oper} {a : Act} {w : World} {v : Value} (h : o.quietAtIn F n P a C w v) : ∀ c, o.op ≠ .defer c := by
  intro c hc
  unfold Oper.quietAtIn at h
  have hx : execOp a.eval o = execOp a.eval { o with op := .defer c } := by rw [← hc]
  rw [hx] at h
  unfold execOp at h
  simp only [Sem.run_bind] at h
  revert h
  cases (resolve a.eval c o.type).run P w <;> simp [Oper.quietUponIn]
theorem wpIn_quiet {o : Oper} {a : Act} {K : Act → Prop} {K' : Act → World → Prop} {Q' : Exit → Act → World → Prop} {w : World} (hw : C w) (h : ∀ a w', C w' → K a → K' a w')
    (ha : o.askedIn F P a C) (hh : o.quietIn F n P a C K) : o.wpIn F n P a w K' Q' := by
  obtain ⟨v, h1, h2⟩ := hh
  have h3 := h1 w hw
  refine ⟨ha w hw, ?_⟩
  rw [Oper.semAt_plain F _ _ (quiet_no_defer h3)]
  unfold Oper.quietAtIn at h3
  revert h3
  rcases (execOp a.eval o).run P w with ⟨x, w'⟩ | ⟨x, w'⟩
  · cases x <;> simp only [Oper.quietUponIn, Oper.uponIn] <;> intro h3 <;> try exact h3.elim
    · obtain ⟨e1, e2⟩ := h3
      subst e1 e2
      exact h _ _ hw h2
    · obtain ⟨e1, e2⟩ := h3
      subst e1 e2
      exact h _ _ hw h2
    · obtain ⟨e1, hd, hc⟩ := h3
      subst e1
      exact ⟨hd, hc.mono fun e w'' ⟨he, hw''⟩ => by subst he; exact h _ _ hw'' h2⟩
  · intro h3; exact h3.elim
theorem wpAnyIn_quiet {Q : Act → Prop} {Q' : Exit → Act → World → Prop} (hQ : ∀ a w, C w → Q a → Q' .normal a w) : ∀ (fuel : Nat) (listed : Array Bool) (a : Act) (w : World), C w →
    wpAnyQIn F n P .any ops C Q fuel listed a → wpAnyIn F n P .any ops Q' fuel listed a w
  | 0, _, _, _, hw, h => ⟨h.1, hQ _ _ hw h.2⟩
  | fuel + 1, listed, a, w, hw, h => by
    refine ⟨fun h0 => hQ _ _ hw (h.1 h0), fun i hi => ?_⟩
    have hq := h.2 i hi
    unfold qOpIn at hq
    unfold wpOpIn
    cases ho : ops[i]? with
    | none =>
      simp only [ho] at hq ⊢
      exact wpAnyIn_quiet hQ fuel _ _ _ hw hq
    | some o =>
      simp only [ho] at hq ⊢
      cases hwn : Region.wanted o (yielded ops a.tmps)
      · simp only [hwn, Bool.false_eq_true, if_false] at hq ⊢
        exact ⟨hq.1 w hw, wpAnyIn_quiet hQ fuel _ _ _ hw hq.2⟩
      · simp only [hwn, if_true] at hq ⊢
        exact wpIn_quiet hw (fun a' w' hw' hK => wpAnyIn_quiet hQ fuel _ a' w' hw' hK) hq.1 hq.2
/-- as the kit's law of this name, whatever round runs -/
theorem wpIn_region_quiet_round {id : Nat} {Q : Exit → Act → World → Prop} {a : Act} {w : World} {l : List Oper} (hm : P.follows .mixedOrders = true) (hB : Region.lexB .any l.toArray = true)
    (h : wpQuietIn F n P l.toArray (fun w' => ∃ n, w' = w.drewN n) (fun a' => ∀ w', (∃ n, w' = w.drewN n) → Q .normal a' w') l a) : (Code.region id l.toArray true).wpIn F n P Q a w := by
  simp only [Region.lexB, Bool.and_eq_true] at hB
  refine wpIn_region_any hm (wpAnyIn_quiet (C := fun w' => ∃ n, w' = w.drewN n) (Q := fun a' => ∀ w', (∃ n, w' = w.drewN n) → Q .normal a' w') (fun _ w' hw' h => h w' hw') _ _ _ _ ⟨1, rfl⟩ ?_)
  have := wpAnyQIn_lex (F := F) (n := n) (P := P) (C := fun w' => ∃ n, w' = w.drewN n) (md := .any) hB.1 l 0 (Array.replicate l.toArray.size false) a (by simp) (by simpa using hB.2) h
  simpa using this
end
end Go.Proofs.YtpoekblolicehaaDoor
