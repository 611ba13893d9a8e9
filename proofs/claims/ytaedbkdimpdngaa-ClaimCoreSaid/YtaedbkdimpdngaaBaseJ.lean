/-
  Words on memory for chapter 12: rows of pairs with their capacity; appends of attacks.
-/
import Derived.Test.YtaedbkdimpdngaaRefA
import Derived.Test.YtaedbkdimpdngaaBaseE
namespace Go.Proofs.Ytaedbkdimpdngaa
open Go.RowKit
open Go.ChangeShapes Go.WideShapes Go.Deep Go.Joins
/-- .. with what is known of its capacity -/
def ArgAc (w : World) (ja : Option Addr) (jn jc : Nat) : Prop := ArgAr w ja jn ∧ jn ≤ jc ∧ jc ≤ maxLen ∧ (ja = none → jc = 0)
section
variable {H : Type} {enc : TypeId × Value → H} {w : World} {base : Nat} {held : Bool}
theorem read_row2c {n : Nat} {ja : Option Addr} {jn jc : Nat} {y : DataW H × List MemPlace} (h : DataW.trod enc Try.prog w base (fun _ => true) held n 41 [.slice ja jn jc] = some y) : ArgAc w ja jn jc := by
  have h1 : ArgAr w ja jn := by
    obtain ⟨xa, xn, xc, hv, g⟩ := read_row2 h
    cases hv
    exact g
  refine ⟨h1, ?_⟩
  rcases open_slice Try.underlying41 h with ⟨hcs, _⟩ | ⟨a, len, cap, m, n', D, Pl, hcs, _, hl, hm, hmm, _, hc⟩
  · simp only [List.cons.injEq, and_true] at hcs
    cases hcs
    exact ⟨Nat.le_refl _, by decide, fun _ => rfl⟩
  · simp only [List.cons.injEq, and_true] at hcs
    cases hcs
    exact ⟨hl, hm, fun e => by cases e⟩
end
theorem argAr_cut {w : World} {ja : Option Addr} {jn k : Nat} (h : ArgAr w ja jn) (hk : k ≤ jn) : ArgAr w ja k := ⟨Nat.le_trans hk h.1, fun i hi => h.2 i (Nat.lt_of_lt_of_le hi hk)⟩
theorem ownP_rd {w : World} {B : Nat} {v : Value} {l : List Pr} (h : OwnP w B 45 v l) : Rd w v l.length 2 (pcells l) := by
  refine ⟨pcells_len l, pcells_one l, ?_⟩
  have hown := h
  have hlt := World.ownsRow.lt h
  obtain ⟨_, h1 | ⟨g, cap, cur, rfl, hB, hh, _⟩⟩ := h
  · refine .inl ?_
    obtain ⟨h2, h3⟩ := h1
    first | exact ⟨h2, h3⟩ | exact ⟨h3, h2⟩ | (obtain ⟨h3, h4⟩ := h3; exact ⟨h2, h3⟩) | simp_all
  · refine .inr ⟨⟨g, 0, none⟩, cap, rfl, fun _ => heap_lt hh, fun j u hj => ?_⟩
    exact hown.cells (g := g) rfl j u hj
/-- append of some attacks, in a region that does not draw -/
theorem wpl_app_prs {ops : Array Oper} {rest : List Oper} {o : Oper} {a : Act} {Q : Exit → Act → World → Prop} {w : World} (s y : Operand) (v : Value) (B : Nat) (xs q : List Pr) (src : Value)
    (hgd : o.guard = none) (ho : o.op = .call { callee := .builtin .append, args := #[s, y], argTypes := #[22, 22] })
    (a1 : a.eval s = v) (a2 : a.eval y = src) (hsrc : Rd w src q.length 2 (pcells q)) (hown : OwnP w B 45 v xs) (hB : B ≤ w.heap.size) (hlen : xs.length ≤ 1000000 ∧ q.length ≤ 1000000)
    (h : ∀ v' w', OwnP w' B 45 v' (xs ++ q) → Below B w w' → wpList Try.prog ops Q rest (a.put o.dst v') w') :
    wpList Try.prog ops Q (o :: rest) a w :=
  wpList_plain hgd fun K hK => by
    have hinf := info45
    cases hi0 : Try.prog.info? 45 with
    | none => rw [hi0] at hinf; cases hinf
    | some inf =>
      rw [hi0] at hinf
      simp only [Option.map_some, Option.some.injEq, Prod.mk.injEq] at hinf
      obtain ⟨e1, e2, e3⟩ := hinf
      have hlt := hown.lt
      obtain ⟨r1, r2, ⟨rfl, hm0⟩ | ⟨ad, c, rfl, hla, hc⟩⟩ := hsrc
      · have hq : q = [] := List.length_eq_zero_iff.1 hm0
        subst hq
        have hr := run_append_owned_none (P := Try.prog) w B 22 o.type 45 inf 2 Try.underlying22 hi0 _ xs.length (pcells xs) hown
        unfold Oper.wp execOp
        simp only [ho, resolve, invoke, builtin, Sem.run_bind, Sem.run_pure, Result.andThen_ok, List.map_toArray, List.map_cons, List.map_nil, a1, a2, hr]
        exact hK _ _ (h v w (by rw [List.append_nil]; exact hown) (Below.refl _ _))
      · refine wp_append_own w s y 22 ho B 45 inf (.agg #[.int .i64 0, .int .i64 0]) 2 16 Try.underlying22 hi0 e1 e2 e3 rfl (by decide) v xs.length (pcells xs) a1 hown ad q.length c (pcells q) a2 r1 hc r2 (by unfold maxLen; omega) (by omega) hB ?_
        intro v' w' hv hgr _
        have e : pcells xs ++ pcells q = pcells (xs ++ q) := by simp [pcells]
        exact hK _ _ (h v' w' (by unfold OwnP; rw [List.length_append, ← e]; exact hv) ((Below.refl B w).grown hgr hB fun k hk => (hlt k hk).1))
end Go.Proofs.Ytaedbkdimpdngaa
