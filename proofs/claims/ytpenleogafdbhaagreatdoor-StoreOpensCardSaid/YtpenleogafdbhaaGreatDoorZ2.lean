/-
  A head is replaced, in plain words.
  Calls of a store, and its opening: what they leave, in plain words.
  What a store should have, and that it has it; in plain words.
  Maps from strings to values, in memory: what the walk is told of them.
  What may have turned between two worlds: the blocks of a set, and nothing else.
  A disk in memory.
-/
import Derived.Test.YtpenleogafdbhaaGreatDoorZ1
import Derived.Maps.RangeWalk
import Derived.Maps.OwnSet
import Derived.Maps.Ext
import Derived.StringKeys
import Derived.Laws.AppendOwn
import Derived.Below
import Derived.WalkKit
namespace Go.Proofs.YtpenleogafdbhaaGreatDoor
open Go.WideShapes Go.WideAt
/-- what is found after a power failure is good -/
def Rec (d : Dk) (good : En → Prop) (N b : Nat) : Prop := ∃ h ts gs tail m, Base d h ts gs tail m ∧ (∀ j, m ≤ j → j ≤ gs.length → good (nowOf (memOf (gs.take j)) ts)) ∧ h.next ≤ N ∧ cntT ts + cntG gs ≤ b
theorem Rec.mono {d : Dk} {good good' : En → Prop} {N N' b b' : Nat} (h : Rec d good N b) (hg : ∀ e, good e → good' e) (hN : N ≤ N') (hb : b ≤ b') : Rec d good' N' b' := by
  obtain ⟨h0, ts, gs, tail, m, h1, h2, h3, h4⟩ := h
  exact ⟨h0, ts, gs, tail, m, h1, fun j a b => hg _ (h2 j a b), Nat.le_trans h3 hN, Nat.le_trans h4 hb⟩
/-- what a store shows is as it was -/
structure Same (s s' : St) : Prop where
  now : s'.now = s.now
  views : s'.views = s.views
  next : s'.next = s.next
  turn : s'.turn = s.turn
theorem Same.refl (s : St) : Same s s := ⟨rfl, rfl, rfl, rfl⟩
theorem Same.trans {a b c : St} (h : Same a b) (k : Same b c) : Same a c := ⟨k.now.trans h.now, k.views.trans h.views, k.next.trans h.next, k.turn.trans h.turn⟩
theorem fail_same (s : St) (e : Nat) : Same s (s.fail e) := ⟨rfl, rfl, rfl, rfl⟩
/-- a store and its disk at work; what may be found after a power failure is good -/
def LiveH (s : St) (d : Dk) (good : En → Prop) (N b : Nat) : Prop := ∃ gs m, Live s d gs [] m ∧ (∀ j, m ≤ j → j ≤ gs.length → good (nowOf (memOf (gs.take j)) s.runs)) ∧ s.head.next ≤ N ∧ cntT s.runs + cntG gs ≤ b
/-- the disk went down in a call -/
structure Crash (s' : St) (d d' : Dk) (good : En → Prop) (N b : Nat) : Prop where
  broken : s'.broken = true
  down : d'.down = true
  armed : 0 < d.left
  back : Rec d' good N b
theorem fail8 (s : St) : (s.fail 8).broken = true := by unfold St.fail; simp
theorem fail0 (s : St) : s.fail 0 = s := by unfold St.fail; cases s; simp
theorem mdel_mput_new {k : Bs} {v : Fl} {M : Mp Fl} (hs : Srt M) (h : mget k M = none) : mdel k (mput k v M) = M := by
  refine mext (srt_mdel _ (srt_mput _ _ hs)) hs fun j => ?_
  by_cases hj : j = k
  · rw [hj, mget_mdel_same, h]
  · rw [mget_mdel_other hj, mget_mput_other hj]
theorem mem_keep_head (h : Hd) : nHead ∈ keepOf h := List.mem_cons_self
theorem mem_keep_log (h : Hd) : nLog h.log ∈ keepOf h := List.mem_cons_of_mem _ List.mem_cons_self
theorem mem_keep_run {h : Hd} {r : Nat} (hr : r ∈ h.runs) : nRun r ∈ keepOf h := List.mem_cons_of_mem _ (List.mem_cons_of_mem _ (List.mem_map.2 ⟨r, hr, rfl⟩))
theorem keep_cases {h : Hd} {x : Bs} (hx : x ∈ keepOf h) : x = nHead ∨ x = nLog h.log ∨ ∃ r ∈ h.runs, x = nRun r := by
  rcases List.mem_cons.1 hx with h1 | h1
  · exact .inl h1
  · rcases List.mem_cons.1 h1 with h1 | h1
    · exact .inr (.inl h1)
    · obtain ⟨r, hr, h2⟩ := List.mem_map.1 h1
      exact .inr (.inr ⟨r, hr, h2.symm⟩)
theorem contains_run {l : List Nat} {x : Bs} : (l.map nRun).contains x = true ↔ ∃ r ∈ l, x = nRun r := by
  rw [List.contains_iff_mem, List.mem_map]
  constructor
  · rintro ⟨r, hr, e⟩
    exact ⟨r, hr, e.symm⟩
  · rintro ⟨r, hr, e⟩
    exact ⟨r, hr, e.symm⟩
theorem size_put {M : Mp Fl} {k : Bs} {v : Fl} (hs : Srt M) : sizeF (mput k v M) ≤ v.data.length + sizeF M := by
  have := sizeF_mput k v M hs
  omega
section
variable {s : St} {d : Dk} {gs : List (List Ch)} {tail : Bs} {m : Nat}
set_option maxHeartbeats 1000000 in
theorem replace_ok (L : Live s d gs tail m) {b : Nat} (hb : cntT s.runs + cntG gs ≤ b) (hb2 : b ≤ 1000) (hbig : s.head.next + 2 < 100000000)
    {F : Tab} {rest : List Nat} {tabs : List Tab} (hF : Srt F) (hFc : ∀ c ∈ Tab.changes F, okCh c) (hcnt : F.length + cntT tabs ≤ b) (hnow : nowOf [] (if F.length = 0 then tabs else F :: tabs) = s.now)
    (hlen : rest.length = tabs.length) (hfew : tabs.length + (if F.length = 0 then 0 else 1) ≤ 8) (hsub : ∀ r ∈ rest, r ∈ s.head.runs) (hnd : rest.Nodup)
    (hrun : ∀ i, i < tabs.length → ∃ f, mget (nRun (rest.getD i 0)) d.files = some f ∧ f.data = blk (chBytes (tabs.getD i []).changes) ∧ f.safe = f.data.length) (htab : ∀ t ∈ tabs, Srt t ∧ ∀ c ∈ Tab.changes t, okCh c)
    {good : En → Prop} (hg : ∀ j, m ≤ j → j ≤ gs.length → good (nowOf (memOf (gs.take j)) s.runs)) :
    Stp d (s.replace d F rest tabs).2.2 ∧ Same s (s.replace d F rest tabs).2.1 ∧ (s.replace d F rest tabs).2.2.Ok ∧
      (((s.replace d F rest tabs).1 = 0 ∧ LiveH (s.replace d F rest tabs).2.1 (s.replace d F rest tabs).2.2 (· = s.now) (s.head.next + 2) b) ∨
        ((s.replace d F rest tabs).1 = 8 ∧ Crash (s.replace d F rest tabs).2.1 d (s.replace d F rest tabs).2.2 good (s.head.next + 2) b)) := by
  have B := L.base
  obtain ⟨hsz, hfl⟩ := L.size
  have hgnow : good s.now := by
    have := hg gs.length B.mle (Nat.le_refl _)
    rwa [List.take_length, ← L.now] at this
  have hFl : (chBytes F.changes).length ≤ 83 * F.length := by
    have := chs_len F.changes hFc
    rwa [changes_len] at this
  obtain ⟨h', hh'⟩ : ∃ h' : Hd, h' = ⟨s.head.next, if F.length = 0 then rest else (s.head.next + 1) :: rest, s.head.next + 2⟩ := ⟨_, rfl⟩
  obtain ⟨l1, hl1⟩ : ∃ l1 : List (Dk → Nat × Dk), l1 = if F.length = 0 then [] else [fun d => d.append (nRun (s.head.next + 1)) (blk (chBytes F.changes)), fun d => d.sync (nRun (s.head.next + 1))] := ⟨_, rfl⟩
  obtain ⟨M1, hM1⟩ : ∃ M1 : Mp Fl, M1 = if F.length = 0 then d.files else mput (nRun (s.head.next + 1)) ⟨blk (chBytes F.changes), (blk (chBytes F.changes)).length⟩ d.files := ⟨_, rfl⟩
  obtain ⟨ts', hts'⟩ : ∃ ts' : List Tab, ts' = if F.length = 0 then tabs else F :: tabs := ⟨_, rfl⟩
  have hunf : s.replace d F rest tabs = (if (acts (l1 ++ ([fun d => d.append nFresh h'.bytes, fun d => d.sync nFresh] ++ [fun d => d.rename nFresh nHead])) d).1 ≠ 0 then ((acts (l1 ++ ([fun d => d.append nFresh h'.bytes, fun d => d.sync nFresh] ++ [fun d => d.rename nFresh nHead])) d).1, s.fail (acts (l1 ++ ([fun d => d.append nFresh h'.bytes, fun d => d.sync nFresh] ++ [fun d => d.rename nFresh nHead])) d).1, (acts (l1 ++ ([fun d => d.append nFresh h'.bytes, fun d => d.sync nFresh] ++ [fun d => d.rename nFresh nHead])) d).2)
      else ((acts (removes ((nLog s.head.log :: s.head.runs.map nRun).filter fun x => (mget x (acts (l1 ++ ([fun d => d.append nFresh h'.bytes, fun d => d.sync nFresh] ++ [fun d => d.rename nFresh nHead])) d).2.files).isSome && !(h'.runs.map nRun).contains x)) (acts (l1 ++ ([fun d => d.append nFresh h'.bytes, fun d => d.sync nFresh] ++ [fun d => d.rename nFresh nHead])) d).2).1,
        St.fail { s with head := h', mem := [], runs := ts' } (acts (removes ((nLog s.head.log :: s.head.runs.map nRun).filter fun x => (mget x (acts (l1 ++ ([fun d => d.append nFresh h'.bytes, fun d => d.sync nFresh] ++ [fun d => d.rename nFresh nHead])) d).2.files).isSome && !(h'.runs.map nRun).contains x)) (acts (l1 ++ ([fun d => d.append nFresh h'.bytes, fun d => d.sync nFresh] ++ [fun d => d.rename nFresh nHead])) d).2).1,
        (acts (removes ((nLog s.head.log :: s.head.runs.map nRun).filter fun x => (mget x (acts (l1 ++ ([fun d => d.append nFresh h'.bytes, fun d => d.sync nFresh] ++ [fun d => d.rename nFresh nHead])) d).2.files).isSome && !(h'.runs.map nRun).contains x)) (acts (l1 ++ ([fun d => d.append nFresh h'.bytes, fun d => d.sync nFresh] ++ [fun d => d.rename nFresh nHead])) d).2).2)) := by
    unfold St.replace
    rw [hh', hl1, hts']
    rfl
  rw [hunf]
  clear hunf
  -- the run
  have P1 : Res d (acts l1 d) ∧ Base (acts l1 d).2 s.head s.runs gs tail m ∧ ((acts l1 d).1 = 0 → (acts l1 d).2.files = M1) := by
    rw [hl1, hM1]
    by_cases h0 : F.length = 0
    · rw [if_pos h0, if_pos h0]
      exact ⟨⟨B.ok, Stp.refl d, .inl ⟨rfl, L.up⟩⟩, B, fun _ => rfl⟩
    · rw [if_neg h0, if_neg h0]
      refine write_ok B L.up (keep_run fun r hr e => ?_) (L.noRun (Nat.le_succ _)) (.inr (.inr ⟨_, by omega, .inr rfl⟩)) (bad_run (by omega)) (by omega) (by rw [blk_len]; omega)
      have := B.num.2 r hr
      omega
  obtain ⟨R1, B1, f1⟩ := P1
  have hM1s : sizeF M1 ≤ 2250 + 99 * b + 16 + 83 * F.length ∧ M1.length ≤ 11 := by
    rw [size_eq] at hsz
    rw [hM1]
    by_cases h0 : F.length = 0
    · rw [if_pos h0]
      omega
    · rw [if_neg h0]
      have h1 := size_put (k := nRun (s.head.next + 1)) (v := ⟨blk (chBytes F.changes), (blk (chBytes F.changes)).length⟩) B.ok.srt
      have h2 := len_mput_le (nRun (s.head.next + 1)) (⟨blk (chBytes F.changes), (blk (chBytes F.changes)).length⟩ : Fl) d.files B.ok.srt
      have h3 := blk_len (chBytes F.changes)
      have h4 : sizeF (mput (nRun (s.head.next + 1)) (⟨blk (chBytes F.changes), (blk (chBytes F.changes)).length⟩ : Fl) d.files) ≤ (blk (chBytes F.changes)).length + sizeF d.files := h1
      omega
  have hM1t : Srt M1 := by
    rw [hM1]
    split
    · exact B.ok.srt
    · exact srt_mput _ _ B.ok.srt
  have hM1f : mget nFresh M1 = none := by
    rw [hM1]
    split
    · exact L.noFresh
    · rw [mget_mput_other (fresh_run _)]
      exact L.noFresh
  have hM1n : ∀ p ∈ M1, okName p.1 := by
    rw [hM1]
    split
    · exact B.names
    · exact okName_mput B.names (.inr (.inr ⟨_, by omega, .inr rfl⟩))
  have hrl : h'.runs.length ≤ 9 := by
    rw [hh']
    show (if F.length = 0 then rest else (s.head.next + 1) :: rest).length ≤ 9
    split
    · omega
    · rw [List.length_cons]; omega
  have hnum' : h'.log < h'.next ∧ ∀ r ∈ h'.runs, r < h'.next := by
    rw [hh']
    refine ⟨by show s.head.next < s.head.next + 2; omega, fun r hr => ?_⟩
    show r < s.head.next + 2
    have hr : r ∈ (if F.length = 0 then rest else (s.head.next + 1) :: rest) := hr
    split at hr
    · have := B.num.2 r (hsub r hr); omega
    · rcases List.mem_cons.1 hr with rfl | hr
      · omega
      · have := B.num.2 r (hsub r hr); omega
  have hbig' : h'.next < 100000000 := by rw [hh']; exact hbig
  have hhb : h'.bytes.length ≤ 114 := by
    have := text_len h' (by have := hnum'.1; omega) hbig' (fun r hr => by have := hnum'.2 r hr; omega)
    rw [bytes_hd]
    omega
  -- the new head
  have NB : ∀ d3 : Dk, d3.Ok → d3.files = mput nHead ⟨h'.bytes, h'.bytes.length⟩ M1 → Base d3 h' ts' [] [] 0 := by
    intro d3 ok3 f3
    have hnolog : mget (nLog h'.log) d3.files = none := by
      rw [f3, mget_mput_other (head_log _).symm, hM1, hh']
      show mget (nLog s.head.next) _ = none
      split
      · exact L.noLog (Nat.le_refl _)
      · rw [mget_mput_other (log_run _ _)]
        exact L.noLog (Nat.le_refl _)
    refine ⟨ok3, by rw [f3]; exact okName_mput hM1n (.inl rfl), .inl ⟨⟨h'.bytes, h'.bytes.length⟩, by rw [f3, mget_mput_same], rfl, rfl⟩, hnum', ?_, hbig', ?_, ?_, ?_, ?_, ?_, (fun g hg => by cases hg), torn_nil, Nat.zero_le _, fun h => absurd rfl h, Nat.zero_le _, fun f hf => by rw [hnolog] at hf; cases hf⟩
    · rw [hh']
      show (if F.length = 0 then rest else (s.head.next + 1) :: rest).Nodup
      split
      · exact hnd
      · exact List.nodup_cons.2 ⟨fun hr => by have := B.num.2 _ (hsub _ hr); omega, hnd⟩
    · rw [hh', hts']
      show (if F.length = 0 then rest else (s.head.next + 1) :: rest).length = _
      split
      · exact hlen
      · rw [List.length_cons, List.length_cons, hlen]
    · rw [hts']
      split
      · rename_i h0; rw [if_pos h0] at hfew; exact hfew
      · rename_i h0; rw [if_neg h0] at hfew; rw [List.length_cons]; exact hfew
    · intro i hi
      have hold : ∀ r, r ∈ rest → mget (nRun r) d3.files = mget (nRun r) d.files := fun r hr => by
        rw [f3, mget_mput_other (head_run _).symm, hM1]
        split
        · rfl
        · rw [mget_mput_other fun e => by have := nRun_inj e; have := B.num.2 r (hsub r hr); omega]
      have hmem : ∀ i, i < tabs.length → rest.getD i 0 ∈ rest := fun i hi => by
        rw [← hlen] at hi
        rw [List.getD_eq_getElem?_getD, List.getElem?_eq_getElem hi]
        exact List.getElem_mem hi
      rw [hts'] at hi ⊢
      rw [hh']
      show ∃ f, mget (nRun ((if F.length = 0 then rest else (s.head.next + 1) :: rest).getD i 0)) d3.files = some f ∧ _
      by_cases h0 : F.length = 0
      · rw [if_pos h0] at hi ⊢
        rw [if_pos h0]
        rw [hold _ (hmem i hi)]
        exact hrun i hi
      · rw [if_neg h0] at hi ⊢
        rw [if_neg h0]
        cases i with
        | zero =>
          refine ⟨⟨blk (chBytes F.changes), (blk (chBytes F.changes)).length⟩, ?_, rfl, rfl⟩
          show mget (nRun (s.head.next + 1)) d3.files = _
          rw [f3, mget_mput_other (head_run _).symm, hM1, if_neg h0, mget_mput_same]
        | succ i =>
          rw [List.getD_cons_succ, List.getD_cons_succ]
          have hi : i < tabs.length := by simpa using hi
          rw [hold _ (hmem i hi)]
          exact hrun i hi
    · rw [hts']
      split
      · exact htab
      · intro t ht
        rcases List.mem_cons.1 ht with rfl | ht
        · exact ⟨hF, hFc⟩
        · exact htab t ht
    · unfold Dk.bytes
      rw [hnolog]
      rfl
  have hrecn : ∀ d3 : Dk, Base d3 h' ts' [] [] 0 → Rec d3 good (s.head.next + 2) b := fun d3 b3 => by
    refine ⟨h', ts', [], [], 0, b3, fun j h1 h2 => ?_, by rw [hh']; exact Nat.le_refl _, ?_⟩
    · rw [List.take_nil]
      show good (nowOf [] ts')
      rw [hts', hnow]
      exact hgnow
    · rw [hts']
      split
      · unfold cntG
        simp
        omega
      · unfold cntT cntG at *
        simp
        omega
  have hreco : ∀ d3 : Dk, Base d3 s.head s.runs gs tail m → Rec d3 good (s.head.next + 2) b := fun d3 b3 => ⟨_, _, _, _, _, b3, hg, by omega, hb⟩
  -- up to the rename
  have P2 : Res d (acts (l1 ++ ([fun d => d.append nFresh h'.bytes, fun d => d.sync nFresh] ++ [fun d => d.rename nFresh nHead])) d) ∧
      ((acts (l1 ++ ([fun d => d.append nFresh h'.bytes, fun d => d.sync nFresh] ++ [fun d => d.rename nFresh nHead])) d).1 ≠ 0 → Rec (acts (l1 ++ ([fun d => d.append nFresh h'.bytes, fun d => d.sync nFresh] ++ [fun d => d.rename nFresh nHead])) d).2 good (s.head.next + 2) b) ∧
      ((acts (l1 ++ ([fun d => d.append nFresh h'.bytes, fun d => d.sync nFresh] ++ [fun d => d.rename nFresh nHead])) d).1 = 0 → (acts (l1 ++ ([fun d => d.append nFresh h'.bytes, fun d => d.sync nFresh] ++ [fun d => d.rename nFresh nHead])) d).2.files = mput nHead ⟨h'.bytes, h'.bytes.length⟩ M1) := by
    rw [acts_app]
    by_cases e1 : (acts l1 d).1 ≠ 0
    · rw [if_pos e1]
      exact ⟨R1, fun _ => hreco _ B1, fun h => absurd h e1⟩
    · rw [if_neg e1]
      have e1 := Decidable.not_not.1 e1
      have f1 := f1 e1
      obtain ⟨R2, B2, f2⟩ := write_ok (nm := nFresh) (bs := h'.bytes) B1 (R1.z e1) (keep_fresh _) (by rw [f1]; exact hM1f) (.inr (.inl rfl)) bad_fresh (by rw [f1]; omega) (by rw [size_eq, f1]; omega)
      rw [acts_app]
      by_cases e2 : (acts [fun d => d.append nFresh h'.bytes, fun d => d.sync nFresh] (acts l1 d).2).1 ≠ 0
      · rw [if_pos e2]
        exact ⟨R1.then R2, fun _ => hreco _ B2, fun h => absurd h e2⟩
      · rw [if_neg e2]
        have e2 := Decidable.not_not.1 e2
        have f2 := f2 e2
        obtain ⟨R3, f3⟩ := rename_res (t := nHead) B2.ok (R2.z e2) bad_fresh bad_head fresh_head (f := ⟨h'.bytes, h'.bytes.length⟩) (by rw [f2, mget_mput_same])
        rw [f2, f1, mdel_mput_new hM1t hM1f] at f3
        have b3 := NB _ R3.ok f3
        have e0 : ∀ x : Dk, acts [fun d => d.rename nFresh nHead] x = if (x.rename nFresh nHead).1 ≠ 0 then x.rename nFresh nHead else (0, (x.rename nFresh nHead).2) := fun _ => rfl
        rw [e0]
        by_cases e3 : ((acts [fun d => d.append nFresh h'.bytes, fun d => d.sync nFresh] (acts l1 d).2).2.rename nFresh nHead).1 ≠ 0
        · rw [if_pos e3]
          exact ⟨R1.then (R2.then R3), fun _ => hrecn _ b3, fun h => absurd h e3⟩
        · rw [if_neg e3]
          have e3 := Decidable.not_not.1 e3
          exact ⟨R1.then (R2.then ⟨R3.ok, R3.stp, .inl ⟨rfl, R3.z e3⟩⟩), fun h => absurd rfl h, fun _ => f3⟩
  generalize acts (l1 ++ ([fun d => d.append nFresh h'.bytes, fun d => d.sync nFresh] ++ [fun d => d.rename nFresh nHead])) d = r at P2 ⊢
  obtain ⟨R2, c2, f2⟩ := P2
  by_cases e : r.1 ≠ 0
  · rw [if_pos e]
    obtain ⟨g1, g2, g3⟩ := R2.nz e
    refine ⟨R2.stp, fail_same _ _, R2.ok, .inr ⟨g1, ?_⟩⟩
    dsimp only
    rw [g1]
    exact ⟨fail8 s, g2, g3, c2 e⟩
  · rw [if_neg e]
    have e := Decidable.not_not.1 e
    have f2 := f2 e
    have B3 := NB r.2 R2.ok f2
    obtain ⟨gone, hgone⟩ : ∃ gone, gone = (nLog s.head.log :: s.head.runs.map nRun).filter fun x => (mget x r.2.files).isSome && !(h'.runs.map nRun).contains x := ⟨_, rfl⟩
    rw [← hgone]
    have hgm : ∀ x, x ∈ gone ↔ (x = nLog s.head.log ∨ ∃ r ∈ s.head.runs, x = nRun r) ∧ (mget x r.2.files).isSome = true ∧ (h'.runs.map nRun).contains x = false := fun x => by
      rw [hgone, List.mem_filter, List.mem_cons, List.mem_map, Bool.and_eq_true, Bool.not_eq_true']
      constructor
      · rintro ⟨h1, h2⟩
        refine ⟨h1.imp id ?_, h2⟩
        rintro ⟨r, hr, rfl⟩
        exact ⟨r, hr, rfl⟩
      · rintro ⟨h1, h2⟩
        refine ⟨h1.imp id ?_, h2⟩
        rintro ⟨r, hr, rfl⟩
        exact ⟨r, hr, rfl⟩
    have hnd' : gone.Nodup := by
      rw [hgone]
      refine List.Pairwise.filter _ (List.nodup_cons.2 ⟨fun h => ?_, ?_⟩)
      · obtain ⟨r, -, h⟩ := List.mem_map.1 h
        exact log_run _ _ h.symm
      · exact List.Pairwise.map _ (fun a b hab e => hab (nRun_inj e)) B.nd
    obtain ⟨R4, B4, f4⟩ := removes_ok gone r.2 B3 (R2.z e) hnd' fun x hx => by
      obtain ⟨h1, h2, h3⟩ := (hgm x).1 hx
      refine ⟨fun hk => ?_, h2⟩
      rcases keep_cases hk with rfl | rfl | ⟨r, hr, rfl⟩
      · rcases h1 with h1 | ⟨r, -, h1⟩
        · exact head_log _ h1
        · exact head_run _ h1
      · rcases h1 with h1 | ⟨r, -, h1⟩
        · have h1 := nLog_inj h1
          rw [hh'] at h1
          have h1 : s.head.next = s.head.log := h1
          have := B.num.1
          omega
        · exact log_run _ _ h1
      · rw [contains_run.2 ⟨r, hr, rfl⟩] at h3
        cases h3
    have R5 := R2.then R4
    have hsame : Same s (St.fail { s with head := h', mem := [], runs := ts' } (acts (removes gone) r.2).1) := ⟨by
      show nowOf [] ts' = s.now
      rw [hts', hnow], rfl, rfl, rfl⟩
    refine ⟨R5.stp, hsame, R5.ok, ?_⟩
    by_cases e4 : (acts (removes gone) r.2).1 ≠ 0
    · obtain ⟨g1, g2, g3⟩ := R5.nz e4
      refine .inr ⟨g1, ?_⟩
      dsimp only
      rw [g1]
      exact ⟨fail8 _, g2, g3, hrecn _ B4⟩
    · have e4 := Decidable.not_not.1 e4
      refine .inl ⟨e4, [], 0, ?_, ?_, ?_, ?_⟩
      · dsimp only
        rw [e4, fail0]
        refine ⟨B4, R5.z e4, ?_, L.nb, rfl, ?_⟩
        · show s.turn = _
          rw [R5.stp.opened]
          exact L.turn
        · intro p hp
          show p.1 ∈ keepOf h'
          rw [f4 e4, List.mem_filter] at hp
          obtain ⟨hp1, hp2⟩ := hp
          have hsome : (mget p.1 r.2.files).isSome = true := by rw [mem_mget R2.ok.srt (show (p.1, p.2) ∈ r.2.files from hp1)]; rfl
          have hng : p.1 ∉ gone := fun h => by
            rw [List.contains_iff_mem.2 h] at hp2
            cases hp2
          have hold : p ∈ d.files → p.1 ∈ keepOf h' := fun hpd => by
            rcases keep_cases (L.clean p hpd) with h1 | h1 | ⟨r0, hr, h1⟩
            · rw [h1]; exact mem_keep_head _
            · refine absurd ((hgm p.1).2 ⟨.inl h1, hsome, ?_⟩) hng
              cases hc : (h'.runs.map nRun).contains p.1 with
              | false => rfl
              | true =>
                obtain ⟨x, -, h2⟩ := contains_run.1 hc
                rw [h1] at h2
                exact absurd h2 (log_run _ _)
            · cases hc : (h'.runs.map nRun).contains p.1 with
              | false => exact absurd ((hgm p.1).2 ⟨.inr ⟨r0, hr, h1⟩, hsome, hc⟩) hng
              | true =>
                obtain ⟨x, hx, h2⟩ := contains_run.1 hc
                rw [h2]
                exact mem_keep_run hx
          rw [f2] at hp1
          rcases mem_mput.1 hp1 with rfl | ⟨hp1, -⟩
          · exact mem_keep_head _
          · rw [hM1] at hp1
            by_cases h0 : F.length = 0
            · rw [if_pos h0] at hp1
              exact hold hp1
            · rw [if_neg h0] at hp1
              rcases mem_mput.1 hp1 with rfl | ⟨hp1, -⟩
              · refine mem_keep_run ?_
                rw [hh']
                show s.head.next + 1 ∈ (if F.length = 0 then rest else (s.head.next + 1) :: rest)
                rw [if_neg h0]
                exact List.mem_cons_self
              · exact hold hp1
      · intro j _ _
        rw [List.take_nil]
        show nowOf [] ts' = s.now
        rw [hts', hnow]
      · dsimp only
        rw [e4, fail0]
        show h'.next ≤ _
        rw [hh']
        exact Nat.le_refl _
      · dsimp only
        rw [e4, fail0]
        show cntT ts' + cntG [] ≤ b
        rw [hts']
        split
        · unfold cntG
          simp
          omega
        · unfold cntT cntG at *
          simp
          omega
end
end Go.Proofs.YtpenleogafdbhaaGreatDoor

namespace Go.Proofs.YtpenleogafdbhaaGreatDoor
open Go.WideShapes Go.WideAt
theorem logOf_nil {gs : List (List Ch)} (h : logOf gs = []) : gs = [] := by
  cases gs with
  | nil => rfl
  | cons g r =>
    have h2 := congrArg List.length h
    rw [logOf_cons, List.length_append, blk_len] at h2
    simp at h2
section
variable {d d' : Dk} {h : Hd} {ts : List Tab} {gs gs' : List (List Ch)} {tail : Bs} {m m' : Nat}
/-- the log turns -/
theorem Base.logPut (b : Base d h ts gs tail m) (ok : d'.Ok) {x : Fl} (hf : d'.files = mput (nLog h.log) x d.files) (hx : x.data = logOf gs') (hg : ∀ g ∈ gs', (g ≠ [] ∧ g.length ≤ 20) ∧ ∀ c ∈ g, okCh c) (hm : m' ≤ gs'.length) (hs : (logOf (gs'.take m')).length ≤ x.safe) : Base d' h ts gs' [] m' := by
  have k1 : mget (nLog h.log) d'.files = some x := by rw [hf, mget_mput_same]
  have hbig := b.big
  have hnum := b.num.1
  refine ⟨ok, by rw [hf]; exact okName_mput b.names (.inr (.inr ⟨h.log, by omega, .inl rfl⟩)), by rw [hf, mget_mput_other (head_log _)]; exact b.head, b.num, b.nd, b.big, b.runs, b.few, fun i hi => by rw [hf, mget_mput_other (log_run _ _).symm]; exact b.run i hi, b.tab, ?_, hg, torn_nil, Nat.zero_le _, fun h => absurd rfl h, hm, fun f hf => by rw [k1] at hf; cases hf; exact hs⟩
  unfold Dk.bytes
  rw [k1, List.append_nil]
  exact hx
end
def nrm (c : Ch) : Ch := if c.del = true then ⟨c.key, [], c.del⟩ else c
theorem nrm_bytes (c : Ch) : (nrm c).bytes = c.bytes := by
  unfold nrm Ch.bytes
  split
  · rename_i h
    simp [h]
  · rfl
theorem nrm_chBytes (l : List Ch) : chBytes (l.map nrm) = chBytes l := by
  unfold chBytes
  induction l with
  | nil => rfl
  | cons c r ih => rw [List.map_cons, List.flatMap_cons, List.flatMap_cons, ih, nrm_bytes]
theorem nrm_do (t : Tab) (c : Ch) : Tab.do t (nrm c) = Tab.do t c := by
  unfold nrm Tab.do
  split
  · rename_i h
    simp [h]
  · rfl
theorem nrm_apply : ∀ (l : List Ch) (t : Tab), Tab.apply t (l.map nrm) = Tab.apply t l
  | [], _ => rfl
  | c :: r, t => by
    show Tab.apply (Tab.do t (nrm c)) (r.map nrm) = Tab.apply (Tab.do t c) r
    rw [nrm_do, nrm_apply r]
theorem nrm_doE (e : En) (c : Ch) : doE e (nrm c) = doE e c := by
  unfold nrm doE
  split
  · rename_i h
    simp [h]
  · rfl
theorem nrm_ok {c : Ch} (h : c.bad = false) : okCh (nrm c) := by
  unfold Ch.bad okKV at h
  unfold nrm okCh
  cases hd : c.del with
  | true =>
    rw [hd] at h
    simp at h
    refine ⟨?_, by simp, fun _ => rfl⟩
    show c.key.length ≤ 16
    omega
  | false =>
    rw [hd] at h
    simp at h
    refine ⟨?_, ?_, fun h => by simp [hd] at h⟩
    · show c.key.length ≤ 16
      omega
    · show c.val.length ≤ 64
      omega
theorem memOf_snoc (gs : List (List Ch)) (g : List Ch) : memOf (gs ++ [g]) = Tab.apply (memOf gs) g := by
  unfold memOf
  rw [List.foldl_append]
  rfl
section
variable {s : St} {d : Dk} {gs : List (List Ch)} {tail : Bs} {m : Nat} {good : En → Prop} {N b : Nat}
theorem flush_ok (L : Live s d gs tail m) (hb : cntT s.runs + cntG gs ≤ b) (hb2 : b ≤ 1000) (hbig : s.head.next + 2 < 100000000) (hg : ∀ j, m ≤ j → j ≤ gs.length → good (nowOf (memOf (gs.take j)) s.runs)) :
    Stp d (s.flush d).2.2 ∧ Same s (s.flush d).2.1 ∧ (s.flush d).2.2.Ok ∧
      (((s.flush d).1 = 0 ∧ LiveH (s.flush d).2.1 (s.flush d).2.2 (· = s.now) (s.head.next + 2) b) ∨ ((s.flush d).1 = 8 ∧ Crash (s.flush d).2.1 d (s.flush d).2.2 good (s.head.next + 2) b)) := by
  have B := L.base
  have hml : s.mem.length ≤ cntG gs := by rw [L.mem]; exact len_mem gs
  have hms : Srt s.mem := by rw [L.mem]; exact srt_mem gs
  have hmc : ∀ c ∈ Tab.changes s.mem, okCh c := by rw [L.mem]; exact okCh_mem fun g hg => (B.grp g hg).2
  unfold St.flush
  by_cases h8 : 8 ≤ s.runs.length
  · rw [if_pos h8]
    have hal := len_all s.mem s.runs
    refine replace_ok L hb hb2 hbig (srt_all _ _) (okCh_all hmc fun t ht => (B.tab t ht).2) ?_ ?_ rfl ?_ (fun r hr => by cases hr) List.nodup_nil (fun i hi => absurd hi (Nat.not_lt_zero _)) (fun t ht => by cases ht) hg
    · unfold cntT at *
      simp
      omega
    · rw [now_eq]
      split
      · rename_i h0; exact now_compact0 hms B.srtT h0
      · exact now_compact hms B.srtT
    · split <;> decide
  · rw [if_neg h8]
    refine replace_ok L hb hb2 hbig hms hmc (by omega) ?_ B.runs ?_ (fun r hr => hr) B.nd B.run B.tab hg
    · rw [now_eq]
      split
      · rename_i h0; exact now_flush0 h0
      · exact now_flush hms B.srtT
    · split <;> omega
theorem compact_ok (L : Live s d gs tail m) (hb : cntT s.runs + cntG gs ≤ b) (hb2 : b ≤ 1000) (hbig : s.head.next + 2 < 100000000) (hg : ∀ j, m ≤ j → j ≤ gs.length → good (nowOf (memOf (gs.take j)) s.runs)) :
    Stp d (s.compact d).2.2 ∧ Same s (s.compact d).2.1 ∧ (s.compact d).2.2.Ok ∧
      (((s.compact d).1 = 0 ∧ LiveH (s.compact d).2.1 (s.compact d).2.2 (· = s.now) (s.head.next + 2) b) ∨ ((s.compact d).1 = 8 ∧ Crash (s.compact d).2.1 d (s.compact d).2.2 good (s.head.next + 2) b)) := by
  have B := L.base
  have hml : s.mem.length ≤ cntG gs := by rw [L.mem]; exact len_mem gs
  have hms : Srt s.mem := by rw [L.mem]; exact srt_mem gs
  have hmc : ∀ c ∈ Tab.changes s.mem, okCh c := by rw [L.mem]; exact okCh_mem fun g hg => (B.grp g hg).2
  have hal := len_all s.mem s.runs
  refine replace_ok L hb hb2 hbig (srt_all _ _) (okCh_all hmc fun t ht => (B.tab t ht).2) ?_ ?_ rfl ?_ (fun r hr => by cases hr) List.nodup_nil (fun i hi => absurd hi (Nat.not_lt_zero _)) (fun t ht => by cases ht) hg
  · unfold cntT at *
    simp
    omega
  · rw [now_eq]
    split
    · rename_i h0; exact now_compact0 hms B.srtT h0
    · exact now_compact hms B.srtT
  · split <;> decide
theorem Live.ready (L : Live s d gs tail m) : s.ready d = true := by
  unfold St.ready
  rw [L.nb, L.turn]
  simp
/-- the head in force, and all groups, are synced -/
theorem synced {good : En → Prop} {gs : List (List Ch)} {s : St} (h : s.now = nowOf (memOf gs) s.runs) : ∀ j, gs.length ≤ j → j ≤ gs.length → nowOf (memOf (gs.take j)) s.runs = s.now := fun j h1 h2 => by
  obtain rfl : j = gs.length := Nat.le_antisymm h2 h1
  rw [List.take_length, h]
theorem sync_ok (L : LiveH s d good N b) :
    Stp d (s.sync d).2.2 ∧ Same s (s.sync d).2.1 ∧ (s.sync d).2.2.Ok ∧
      (((s.sync d).1 = 0 ∧ LiveH (s.sync d).2.1 (s.sync d).2.2 (· = s.now) N b) ∨ ((s.sync d).1 = 8 ∧ Crash (s.sync d).2.1 d (s.sync d).2.2 good N b)) := by
  obtain ⟨gs, m, L, hg, hN, hb⟩ := L
  have B := L.base
  have hbig := B.big
  have hnum := B.num.1
  unfold St.sync
  rw [L.ready, if_neg (by decide)]
  cases hl : mget (nLog s.head.log) d.files with
  | none =>
    have h0 : gs = [] := by
      have := B.log
      unfold Dk.bytes at this
      rw [hl, List.append_nil] at this
      exact logOf_nil this.symm
    exact ⟨Stp.refl d, Same.refl s, B.ok, .inl ⟨rfl, gs, m, L, fun j h1 h2 => synced (good := good) L.now j (by rw [h0]; exact Nat.zero_le _) h2, hN, hb⟩⟩
  | some f =>
    have hfd : f.data = logOf gs := by
      have := B.log
      unfold Dk.bytes at this
      rw [hl, List.append_nil] at this
      exact this
    dsimp only
    by_cases hs : f.safe = f.data.length
    · rw [if_pos hs]
      refine ⟨Stp.refl d, Same.refl s, B.ok, .inl ⟨rfl, gs, gs.length, ⟨?_, L.up, L.turn, L.nb, L.mem, L.clean⟩, synced (good := good) L.now, hN, hb⟩⟩
      refine ⟨B.ok, B.names, B.head, B.num, B.nd, B.big, B.runs, B.few, B.run, B.tab, B.log, B.grp, B.torn, B.tlen, fun h => absurd rfl h, Nat.le_refl _, fun f' hf' => ?_⟩
      rw [hl] at hf'
      cases hf'
      rw [List.take_length, hs, hfd]
      exact Nat.le_refl _
    · rw [if_neg hs]
      obtain ⟨R, f1, f2⟩ := sync_res B.ok L.up (bad_log (by omega)) hl
      refine ⟨R.stp, fail_same _ _, R.ok, ?_⟩
      by_cases e : (d.sync (nLog s.head.log)).1 ≠ 0
      · obtain ⟨g1, g2, g3⟩ := R.nz e
        refine .inr ⟨g1, ?_⟩
        rw [g1]
        refine ⟨fail8 s, g2, g3, s.head, s.runs, gs, [], m, B.other R.ok (by rw [f2 e]; exact B.names) (fun x _ => by rw [f2 e]), hg, hN, hb⟩
      · have e := Decidable.not_not.1 e
        refine .inl ⟨e, ?_⟩
        rw [e, fail0]
        refine ⟨gs, gs.length, ⟨B.logPut R.ok (f1 e) hfd B.grp (Nat.le_refl _) (by rw [List.take_length, hfd]; exact Nat.le_refl _), R.z e, by rw [R.stp.opened]; exact L.turn, L.nb, L.mem, ?_⟩, synced (good := good) L.now, hN, hb⟩
        intro p hp
        rw [f1 e] at hp
        rcases mem_mput.1 hp with rfl | ⟨hp, -⟩
        · exact mem_keep_log _
        · exact L.clean p hp
theorem flushP_ok (L : LiveH s d good N b) (hb2 : b ≤ 1000) (hbig : N + 2 < 100000000) :
    Stp d (s.flushP d).2.2 ∧ Same s (s.flushP d).2.1 ∧ (s.flushP d).2.2.Ok ∧
      (((s.flushP d).1 = 0 ∧ LiveH (s.flushP d).2.1 (s.flushP d).2.2 (· = s.now) (N + 2) b) ∨ ((s.flushP d).1 = 8 ∧ Crash (s.flushP d).2.1 d (s.flushP d).2.2 good (N + 2) b)) := by
  have LH := L
  obtain ⟨gs, m, L, hg, hN, hb⟩ := L
  unfold St.flushP
  rw [L.ready, if_neg (by decide)]
  split
  · obtain ⟨h1, h2, h3, h4⟩ := sync_ok LH
    refine ⟨h1, h2, h3, h4.imp (fun ⟨a, gs, m, L, c1, c2, c3⟩ => ⟨a, gs, m, L, c1, by omega, c3⟩) fun ⟨a, c⟩ => ⟨a, c.broken, c.down, c.armed, c.back.mono (fun _ h => h) (by omega) (Nat.le_refl _)⟩⟩
  · obtain ⟨h1, h2, h3, h4⟩ := flush_ok L hb hb2 (by omega) hg
    refine ⟨h1, h2, h3, h4.imp (fun ⟨a, gs, m, L, c1, c2, c3⟩ => ⟨a, gs, m, L, c1, by omega, c3⟩) fun ⟨a, c⟩ => ⟨a, c.broken, c.down, c.armed, c.back.mono (fun _ h => h) (by omega) (Nat.le_refl _)⟩⟩
theorem compactP_ok (L : LiveH s d good N b) (hb2 : b ≤ 1000) (hbig : N + 2 < 100000000) :
    Stp d (s.compactP d).2.2 ∧ Same s (s.compactP d).2.1 ∧ (s.compactP d).2.2.Ok ∧
      (((s.compactP d).1 = 0 ∧ LiveH (s.compactP d).2.1 (s.compactP d).2.2 (· = s.now) (N + 2) b) ∨ ((s.compactP d).1 = 8 ∧ Crash (s.compactP d).2.1 d (s.compactP d).2.2 good (N + 2) b)) := by
  obtain ⟨gs, m, L, hg, hN, hb⟩ := L
  unfold St.compactP
  rw [L.ready, if_neg (by decide)]
  obtain ⟨h1, h2, h3, h4⟩ := compact_ok L hb hb2 (by omega) hg
  exact ⟨h1, h2, h3, h4.imp (fun ⟨a, gs, m, L, c1, c2, c3⟩ => ⟨a, gs, m, L, c1, by omega, c3⟩) fun ⟨a, c⟩ => ⟨a, c.broken, c.down, c.armed, c.back.mono (fun _ h => h) (by omega) (Nat.le_refl _)⟩⟩
/-- a group is written, and made in memory -/
def St.putG (s : St) (d : Dk) (l : List Ch) : Nat × St × Dk :=
  ((d.append (nLog s.head.log) (blk (chBytes l))).1, if (d.append (nLog s.head.log) (blk (chBytes l))).1 ≠ 0 then s.fail (d.append (nLog s.head.log) (blk (chBytes l))).1 else { s.fail (d.append (nLog s.head.log) (blk (chBytes l))).1 with mem := s.mem.apply l }, (d.append (nLog s.head.log) (blk (chBytes l))).2)
theorem putG_ok (L : LiveH s d good N b) {l : List Ch} (hl : l ≠ [] ∧ l.length ≤ 20) (hbad : ∀ c ∈ l, c.bad = false) (hb2 : b + l.length ≤ 1000) :
    Stp d (s.putG d l).2.2 ∧ (s.putG d l).2.2.Ok ∧ (s.putG d l).2.1.views = s.views ∧ (s.putG d l).2.1.next = s.next ∧ (s.putG d l).2.1.turn = s.turn ∧
      (((s.putG d l).1 = 0 ∧ (s.putG d l).2.1.now = doAll s.now l ∧ LiveH (s.putG d l).2.1 (s.putG d l).2.2 (fun e => good e ∨ e = doAll s.now l) N (b + l.length)) ∨
        ((s.putG d l).1 = 8 ∧ (s.putG d l).2.1.now = s.now ∧ Crash (s.putG d l).2.1 d (s.putG d l).2.2 (fun e => good e ∨ e = doAll s.now l) N (b + l.length))) := by
  obtain ⟨gs, m, L, hg, hN, hb⟩ := L
  have B := L.base
  have hbig := B.big
  have hnum := B.num.1
  obtain ⟨hsz, hfl⟩ := L.size
  have hok : ∀ c ∈ l.map nrm, okCh c := fun c hc => by
    obtain ⟨x, hx, rfl⟩ := List.mem_map.1 hc
    exact nrm_ok (hbad x hx)
  have hcl := chs_len _ hok
  rw [nrm_chBytes, List.length_map] at hcl
  obtain ⟨R, f⟩ := append_res (b := blk (chBytes l)) B.ok L.up (bad_log (n := s.head.log) (by omega)) (by omega) (by rw [blk_len]; omega)
  have hms : Srt s.mem := by rw [L.mem]; exact srt_mem gs
  have hnow' : nowOf (s.mem.apply l) s.runs = doAll s.now l := by rw [now_apply l hms B.srtT, now_eq]
  have hlog : ((mget (nLog s.head.log) d.files).getD ⟨[], 0⟩).data = logOf gs := by
    have := B.log
    unfold Dk.bytes at this
    rw [List.append_nil] at this
    cases hm : mget (nLog s.head.log) d.files with
    | none => rw [hm] at this; exact this
    | some f => rw [hm] at this; exact this
  have hsafe : (logOf (gs.take m)).length ≤ ((mget (nLog s.head.log) d.files).getD ⟨[], 0⟩).safe := by
    cases hm : mget (nLog s.head.log) d.files with
    | none =>
      rw [hm] at hlog
      rw [logOf_nil hlog.symm, List.take_nil]
      exact Nat.le_refl _
    | some f => exact B.safe f hm
  have B2 : Base (d.append (nLog s.head.log) (blk (chBytes l))).2 s.head s.runs (gs ++ [l.map nrm]) [] m := by
    refine B.logPut R.ok f ?_ ?_ ?_ ?_
    · show _ ++ blk (chBytes l) = _
      rw [hlog, logOf_snoc, nrm_chBytes]
    · intro g hg
      rcases List.mem_append.1 hg with hg | hg
      · exact B.grp g hg
      · rw [List.mem_singleton.1 hg]
        exact ⟨⟨by simpa using hl.1, by rw [List.length_map]; exact hl.2⟩, hok⟩
    · rw [List.length_append]
      exact Nat.le_trans B.mle (Nat.le_add_right _ _)
    · rw [List.take_append_of_le_length B.mle]
      exact hsafe
  have hgood : ∀ j, m ≤ j → j ≤ (gs ++ [l.map nrm]).length → good (nowOf (memOf ((gs ++ [l.map nrm]).take j)) s.runs) ∨ nowOf (memOf ((gs ++ [l.map nrm]).take j)) s.runs = doAll s.now l := fun j h1 h2 => by
    by_cases hj : j ≤ gs.length
    · rw [List.take_append_of_le_length hj]
      exact .inl (hg j h1 hj)
    · rw [List.take_of_length_le (by rw [List.length_append, List.length_singleton]; omega), memOf_snoc, nrm_apply, ← L.mem]
      exact .inr hnow'
  have hcnt : cntT s.runs + cntG (gs ++ [l.map nrm]) ≤ b + l.length := by
    unfold cntG at *
    rw [List.map_append, List.sum_append]
    simp
    omega
  unfold St.putG
  refine ⟨R.stp, R.ok, by dsimp only; split <;> rfl, by dsimp only; split <;> rfl, by dsimp only; split <;> rfl, ?_⟩
  by_cases e : (d.append (nLog s.head.log) (blk (chBytes l))).1 ≠ 0
  · obtain ⟨g1, g2, g3⟩ := R.nz e
    refine .inr ⟨g1, ?_, ?_⟩
    · dsimp only
      rw [if_pos e]
      rfl
    · dsimp only
      rw [if_pos e, g1]
      exact ⟨fail8 s, g2, g3, _, _, _, _, _, B2, hgood, hN, hcnt⟩
  · have e' := Decidable.not_not.1 e
    refine .inl ⟨e', ?_, ?_⟩
    · dsimp only
      rw [if_neg e]
      exact hnow'
    · dsimp only
      rw [if_neg e, e', fail0]
      refine ⟨gs ++ [l.map nrm], m, ⟨B2, R.z e', by show s.turn = _; rw [R.stp.opened]; exact L.turn, L.nb, ?_, ?_⟩, hgood, hN, hcnt⟩
      · show s.mem.apply l = _
        rw [memOf_snoc, nrm_apply, L.mem]
      · intro p hp
        show p.1 ∈ keepOf s.head
        rw [f] at hp
        rcases mem_mput.1 hp with rfl | ⟨hp, -⟩
        · exact mem_keep_log _
        · exact L.clean p hp
theorem LiveH.ready (L : LiveH s d good N b) : s.ready d = true := by
  obtain ⟨gs, m, L, -⟩ := L
  exact L.ready
theorem apply_ok (L : LiveH s d good N b) {l : List Ch} (hl : l ≠ [] ∧ l.length ≤ 20) (hbad : ∀ c ∈ l, c.bad = false) (hb2 : b + l.length ≤ 1000) (hbig : N + 2 < 100000000) :
    Stp d (s.apply d l).2.2 ∧ (s.apply d l).2.2.Ok ∧ (s.apply d l).2.1.views = s.views ∧ (s.apply d l).2.1.next = s.next ∧ (s.apply d l).2.1.turn = s.turn ∧
      (((s.apply d l).1 = 0 ∧ (s.apply d l).2.1.now = doAll s.now l ∧ LiveH (s.apply d l).2.1 (s.apply d l).2.2 (fun e => good e ∨ e = doAll s.now l) (N + 2) (b + l.length)) ∨
        ((s.apply d l).1 = 8 ∧ (s.apply d l).2.1.now = s.now ∧ Crash (s.apply d l).2.1 d (s.apply d l).2.2 (fun e => good e ∨ e = doAll s.now l) (N + 2) (b + l.length))) := by
  have LH := L
  have hunf : s.apply d l = if (if 64 < s.mem.length + l.length then s.flush d else (0, s, d)).1 ≠ 0 then (if 64 < s.mem.length + l.length then s.flush d else (0, s, d)) else (if 64 < s.mem.length + l.length then s.flush d else (0, s, d)).2.1.putG (if 64 < s.mem.length + l.length then s.flush d else (0, s, d)).2.2 l := by
    unfold St.apply
    rw [L.ready, if_neg (by decide), if_neg, if_neg (by have := hl.2; omega)]
    · rfl
    · rintro (h | h)
      · exact hl.1 (List.eq_nil_of_length_eq_zero h)
      · obtain ⟨c, hc, h⟩ := List.any_eq_true.1 h
        rw [hbad c hc] at h
        cases h
  rw [hunf]
  clear hunf
  by_cases h64 : 64 < s.mem.length + l.length
  · rw [if_pos h64]
    obtain ⟨gs, m, L, hg, hN, hb⟩ := L
    obtain ⟨h1, h2, h3, h4⟩ := flush_ok L hb (by omega) (by omega) hg
    rcases h4 with ⟨e, L2⟩ | ⟨e, C⟩
    · rw [if_neg (by rw [e]; decide)]
      obtain ⟨g1, g2, g3, g4, g5, g6⟩ := putG_ok L2 hl hbad hb2
      rw [h2.now] at g6
      have hgn : good s.now := by
        have := hg gs.length L.base.mle (Nat.le_refl _)
        rwa [List.take_length, ← L.now] at this
      have hgg : ∀ x, (x = s.now ∨ x = doAll s.now l) → good x ∨ x = doAll s.now l := fun x hx => hx.elim (fun e => .inl (by rw [e]; exact hgn)) .inr
      refine ⟨h1.trans g1, g2, g3.trans h2.views, g4.trans h2.next, g5.trans h2.turn, g6.imp (fun ⟨a, c, gs, m, L, c1, c2, c3⟩ => ⟨a, c, gs, m, L, fun j x y => hgg _ (c1 j x y), by omega, c3⟩) fun ⟨a, c, q⟩ => ⟨a, c, q.broken, q.down, Nat.pos_of_ne_zero fun e => by have := h1.left0 e; have := q.armed; omega, q.back.mono hgg (by omega) (Nat.le_refl _)⟩⟩
    · rw [if_pos (by rw [e]; decide)]
      exact ⟨h1, h3, h2.views, h2.next, h2.turn, .inr ⟨e, h2.now, C.broken, C.down, C.armed, C.back.mono (fun _ h => .inl h) (by omega) (Nat.le_add_right _ _)⟩⟩
  · rw [if_neg h64, if_neg (fun h => h rfl)]
    obtain ⟨g1, g2, g3, g4, g5, g6⟩ := putG_ok LH hl hbad hb2
    refine ⟨g1, g2, g3, g4, g5, g6.imp (fun ⟨a, c, gs, m, L, c1, c2, c3⟩ => ⟨a, c, gs, m, L, c1, Nat.le_trans c2 (Nat.le_add_right _ _), c3⟩) fun ⟨a, c, q⟩ => ⟨a, c, q.broken, q.down, q.armed, q.back.mono (fun _ h => h) (Nat.le_add_right _ _) (Nat.le_refl _)⟩⟩
end
section
variable {d : Dk} {h : Hd} {ts : List Tab} {gs : List (List Ch)} {tail : Bs} {m : Nat} {good : En → Prop} {N b : Nat}
/-- a store is opened, or the disk goes down meanwhile -/
theorem open_ok (B : Base d h ts gs tail m) (up : d.down = false) (ho : d.opened + 1 < 1000000000) (hN : h.next ≤ N) (hbig : N + 2 < 100000000) (hb : cntT ts + cntG gs ≤ b) (hb2 : b ≤ 1000) (hg : ∀ j, m ≤ j → j ≤ gs.length → good (nowOf (memOf (gs.take j)) ts)) :
    (openSt d h ts gs tail).2.2.Ok ∧ (openSt d h ts gs tail).2.2.opened = d.opened + 1 ∧ (d.left = 0 → (openSt d h ts gs tail).2.2.left = 0) ∧
      ((∃ s, (openSt d h ts gs tail).1 = some s ∧ (openSt d h ts gs tail).2.1 = 0 ∧ s.now = nowOf (memOf gs) ts ∧ s.views = [] ∧ s.next = 0 ∧ s.turn = d.opened + 1 ∧ LiveH s (openSt d h ts gs tail).2.2 (· = nowOf (memOf gs) ts) (N + 2) b) ∨
        ((openSt d h ts gs tail).1 = none ∧ (openSt d h ts gs tail).2.1 = 8 ∧ (openSt d h ts gs tail).2.2.down = true ∧ 0 < d.left ∧ Rec (openSt d h ts gs tail).2.2 good (N + 2) b)) := by
  have ok1 : Dk.Ok { d with opened := d.opened + 1 } := ⟨B.ok.srt, B.ok.few, B.ok.size, B.ok.left, ho, B.ok.safe, B.ok.name⟩
  have B1 : Base { d with opened := d.opened + 1 } h ts gs tail m := B.other ok1 B.names fun _ _ => rfl
  obtain ⟨L, hL⟩ : ∃ L, L = d.names.filter fun x => !(keepOf h).contains x := ⟨_, rfl⟩
  have hLn : L.Nodup := by
    rw [hL]
    refine List.Pairwise.filter _ ?_
    unfold Dk.names
    exact List.Pairwise.map _ (fun a b hab => bb_ne hab) B.ok.srt
  have hLm : ∀ x ∈ L, x ∉ keepOf h ∧ (mget x d.files).isSome = true := fun x hx => by
    rw [hL, List.mem_filter] at hx
    obtain ⟨p, hp, rfl⟩ := List.mem_map.1 hx.1
    refine ⟨fun hk => ?_, by rw [mem_mget B.ok.srt (show (p.1, p.2) ∈ d.files from hp)]; rfl⟩
    have := hx.2
    rw [List.contains_iff_mem.2 hk] at this
    cases this
  obtain ⟨R, B2, f⟩ := removes_ok L { d with opened := d.opened + 1 } B1 up hLn hLm
  have hunf : openSt d h ts gs tail = if (acts (removes L) { d with opened := d.opened + 1 }).1 ≠ 0 then (none, (acts (removes L) { d with opened := d.opened + 1 }).1, (acts (removes L) { d with opened := d.opened + 1 }).2) else
      if (if tail.length = 0 then St.sync ⟨d.opened + 1, false, h, memOf gs, ts, [], 0⟩ (acts (removes L) { d with opened := d.opened + 1 }).2 else St.flush ⟨d.opened + 1, false, h, memOf gs, ts, [], 0⟩ (acts (removes L) { d with opened := d.opened + 1 }).2).1 ≠ 0 then
        (none, (if tail.length = 0 then St.sync ⟨d.opened + 1, false, h, memOf gs, ts, [], 0⟩ (acts (removes L) { d with opened := d.opened + 1 }).2 else St.flush ⟨d.opened + 1, false, h, memOf gs, ts, [], 0⟩ (acts (removes L) { d with opened := d.opened + 1 }).2).1, (if tail.length = 0 then St.sync ⟨d.opened + 1, false, h, memOf gs, ts, [], 0⟩ (acts (removes L) { d with opened := d.opened + 1 }).2 else St.flush ⟨d.opened + 1, false, h, memOf gs, ts, [], 0⟩ (acts (removes L) { d with opened := d.opened + 1 }).2).2.2)
      else (some (if tail.length = 0 then St.sync ⟨d.opened + 1, false, h, memOf gs, ts, [], 0⟩ (acts (removes L) { d with opened := d.opened + 1 }).2 else St.flush ⟨d.opened + 1, false, h, memOf gs, ts, [], 0⟩ (acts (removes L) { d with opened := d.opened + 1 }).2).2.1, 0, (if tail.length = 0 then St.sync ⟨d.opened + 1, false, h, memOf gs, ts, [], 0⟩ (acts (removes L) { d with opened := d.opened + 1 }).2 else St.flush ⟨d.opened + 1, false, h, memOf gs, ts, [], 0⟩ (acts (removes L) { d with opened := d.opened + 1 }).2).2.2) := by
    rw [hL]
    rfl
  rw [hunf]
  clear hunf
  generalize acts (removes L) { d with opened := d.opened + 1 } = q at R B2 f ⊢
  have hop : q.2.opened = d.opened + 1 := R.stp.opened
  by_cases e : q.1 ≠ 0
  · rw [if_pos e]
    obtain ⟨g1, g2, g3⟩ := R.nz e
    exact ⟨R.ok, hop, R.stp.left0, .inr ⟨rfl, g1, g2, g3, h, ts, gs, tail, m, B2, hg, by omega, hb⟩⟩
  · rw [if_neg e]
    have e := Decidable.not_not.1 e
    obtain ⟨s0, hs0⟩ : ∃ s0 : St, s0 = ⟨d.opened + 1, false, h, memOf gs, ts, [], 0⟩ := ⟨_, rfl⟩
    have hnow : s0.now = nowOf (memOf gs) ts := by rw [now_eq, hs0]
    have hv : s0.views = [] ∧ s0.next = 0 ∧ s0.turn = d.opened + 1 := by rw [hs0]; exact ⟨rfl, rfl, rfl⟩
    have hhd : s0.head = h ∧ s0.runs = ts := by rw [hs0]; exact ⟨rfl, rfl⟩
    have Lv : Live s0 q.2 gs tail m := by
      rw [hs0]
      refine ⟨B2, R.z e, hop.symm, rfl, rfl, fun p hp => ?_⟩
      show p.1 ∈ keepOf h
      rw [f e, List.mem_filter] at hp
      obtain ⟨hp1, hp2⟩ := hp
      refine Classical.byContradiction fun hk => ?_
      have : p.1 ∈ L := by
        rw [hL, List.mem_filter]
        refine ⟨List.mem_map.2 ⟨p, hp1, rfl⟩, ?_⟩
        cases hc : (keepOf h).contains p.1 with
        | false => rfl
        | true => exact absurd (List.contains_iff_mem.1 hc) hk
      rw [List.contains_iff_mem.2 this] at hp2
      cases hp2
    rw [← hs0]
    have fin : ∀ (r : Nat × St × Dk), Stp q.2 r.2.2 → Same s0 r.2.1 → r.2.2.Ok → ((r.1 = 0 ∧ LiveH r.2.1 r.2.2 (· = s0.now) (N + 2) b) ∨ (r.1 = 8 ∧ Crash r.2.1 q.2 r.2.2 good (N + 2) b)) →
        (if r.1 ≠ 0 then (none, r.1, r.2.2) else (some r.2.1, 0, r.2.2) : Option St × Nat × Dk).2.2.Ok ∧ (if r.1 ≠ 0 then (none, r.1, r.2.2) else (some r.2.1, 0, r.2.2) : Option St × Nat × Dk).2.2.opened = d.opened + 1 ∧ (d.left = 0 → (if r.1 ≠ 0 then (none, r.1, r.2.2) else (some r.2.1, 0, r.2.2) : Option St × Nat × Dk).2.2.left = 0) ∧
        ((∃ s, (if r.1 ≠ 0 then (none, r.1, r.2.2) else (some r.2.1, 0, r.2.2) : Option St × Nat × Dk).1 = some s ∧ (if r.1 ≠ 0 then (none, r.1, r.2.2) else (some r.2.1, 0, r.2.2) : Option St × Nat × Dk).2.1 = 0 ∧ s.now = nowOf (memOf gs) ts ∧ s.views = [] ∧ s.next = 0 ∧ s.turn = d.opened + 1 ∧ LiveH s (if r.1 ≠ 0 then (none, r.1, r.2.2) else (some r.2.1, 0, r.2.2) : Option St × Nat × Dk).2.2 (· = nowOf (memOf gs) ts) (N + 2) b) ∨
        ((if r.1 ≠ 0 then (none, r.1, r.2.2) else (some r.2.1, 0, r.2.2) : Option St × Nat × Dk).1 = none ∧ (if r.1 ≠ 0 then (none, r.1, r.2.2) else (some r.2.1, 0, r.2.2) : Option St × Nat × Dk).2.1 = 8 ∧ (if r.1 ≠ 0 then (none, r.1, r.2.2) else (some r.2.1, 0, r.2.2) : Option St × Nat × Dk).2.2.down = true ∧ 0 < d.left ∧ Rec (if r.1 ≠ 0 then (none, r.1, r.2.2) else (some r.2.1, 0, r.2.2) : Option St × Nat × Dk).2.2 good (N + 2) b)) := by
      intro r h1 h2 h3 h4
      have h1' := R.stp.trans h1
      rcases h4 with ⟨e0, L2⟩ | ⟨e0, C⟩
      · rw [if_neg (by rw [e0]; decide)]
        refine ⟨h3, h1'.opened, h1'.left0, .inl ⟨r.2.1, rfl, rfl, h2.now.trans hnow, h2.views.trans hv.1, h2.next.trans hv.2.1, h2.turn.trans hv.2.2, ?_⟩⟩
        rw [← hnow]
        exact L2
      · rw [if_pos (by rw [e0]; decide)]
        exact ⟨h3, h1'.opened, h1'.left0, .inr ⟨rfl, e0, C.down, Nat.pos_of_ne_zero fun e => by have := R.stp.left0 e; have := C.armed; omega, C.back⟩⟩
    by_cases ht : tail.length = 0
    · rw [if_pos ht]
      have ht0 : tail = [] := List.eq_nil_of_length_eq_zero ht
      rw [ht0] at Lv
      obtain ⟨h1, h2, h3, h4⟩ := sync_ok (good := good) (N := N) (b := b) (s := s0) (d := q.2) ⟨gs, m, Lv, by rw [hhd.2]; exact hg, by rw [hhd.1]; exact hN, by rw [hhd.2]; exact hb⟩
      exact fin _ h1 h2 h3 (h4.imp (fun ⟨a, gs, m, L, c1, c2, c3⟩ => ⟨a, gs, m, L, c1, by omega, c3⟩) fun ⟨a, c⟩ => ⟨a, c.broken, c.down, c.armed, c.back.mono (fun _ h => h) (by omega) (Nat.le_refl _)⟩)
    · rw [if_neg ht]
      obtain ⟨h1, h2, h3, h4⟩ := flush_ok (good := good) (b := b) Lv (by rw [hhd.2]; exact hb) hb2 (by rw [hhd.1]; omega) (by rw [hhd.2]; exact hg)
      rw [hhd.1] at h4
      exact fin _ h1 h2 h3 (h4.imp (fun ⟨a, gs, m, L, c1, c2, c3⟩ => ⟨a, gs, m, L, c1, by omega, c3⟩) fun ⟨a, c⟩ => ⟨a, c.broken, c.down, c.armed, c.back.mono (fun _ h => h) (by omega) (Nat.le_refl _)⟩)
/-- restarted, and found -/
theorem rec_restart (h : Rec d good N b) (ho : d.opened + 1 < 1000000000) (keep : Int) :
    ∃ h ts gs tail, Base (d.restart keep) h ts gs tail gs.length ∧ good (nowOf (memOf gs) ts) ∧ h.next ≤ N ∧ cntT ts + cntG gs ≤ b := by
  obtain ⟨h, ts, gs, tail, m, B, hg, h1, h2⟩ := h
  obtain ⟨j, tail', h3, h4, B'⟩ := B.restart ho keep
  refine ⟨h, ts, gs.take j, tail', B', hg j h3 h4, h1, ?_⟩
  have : cntG (gs.take j) ≤ cntG gs := by
    unfold cntG
    rw [List.map_take]
    exact sum_take_le _ _
  omega
where
  sum_take_le : ∀ (l : List Nat) (k : Nat), (l.take k).sum ≤ l.sum
    | [], k => by rw [List.take_nil]; exact Nat.le_refl _
    | x :: r, 0 => Nat.zero_le _
    | x :: r, k + 1 => by
      rw [List.take_succ_cons, List.sum_cons, List.sum_cons]
      have := sum_take_le r k
      omega
/-- a store at work: what is found after a power failure is good -/
theorem LiveH.back {s : St} (L : LiveH s d good N b) : Rec d good N b := by
  obtain ⟨gs, m, L, hg, hN, hb⟩ := L
  exact ⟨_, _, _, _, _, L.base, hg, hN, hb⟩
/-- a disk without files -/
theorem base_new {d : Dk} (ok : d.Ok) (hf : d.files = []) : Base d ⟨0, [], 1⟩ [] [] [] 0 :=
  ⟨ok, by rw [hf]; exact (fun p hp => by cases hp), .inr ⟨by rw [hf]; rfl, rfl⟩, ⟨by decide, (fun r hr => by cases hr)⟩, List.nodup_nil, by decide, rfl, by decide, fun i hi => absurd hi (Nat.not_lt_zero _), (fun t ht => by cases ht), by unfold Dk.bytes; rw [hf]; rfl, (fun g hg => by cases hg), torn_nil, Nat.zero_le _, fun h => absurd rfl h, Nat.le_refl _, fun f h => by (rw [hf] at h; cases h)⟩
end
end Go.Proofs.YtpenleogafdbhaaGreatDoor

namespace Go.Proofs.YtpenleogafdbhaaGreatDoor
open Go.WideShapes Go.WideAt
/-- what a store should have: the entries after each group, how many groups are synced, a group that may be there, views -/
structure RS where
  steps : List En
  sure : Nat
  maybe : Bool
  after : En
  views : List (Int × En)
  next : Nat
def RS.new : RS := ⟨[[]], 0, false, [], [], 0⟩
def RS.now (r : RS) : En := r.steps.getLast?.getD []
def RS.good (r : RS) (e : En) : Prop := (∃ k, r.sure ≤ k ∧ r.steps[k]? = some e) ∨ (r.maybe = true ∧ e = r.after)
def RS.apply (r : RS) (l : List Ch) : RS := { r with steps := r.steps ++ [doAll r.now l] }
def RS.failed (r : RS) (l : List Ch) : RS := { r with maybe := true, after := doAll r.now l }
def RS.synced (r : RS) : RS := { r with sure := r.steps.length - 1 }
def RS.view (r : RS) : RS := { r with views := r.views ++ [((r.next : Int), r.now)], next := r.next + 1 }
def RS.drop (r : RS) (n : Int) : RS := { r with views := r.views.filter fun p => !(p.1 == n) }
def RS.opened (e : En) : RS := ⟨[e], 0, false, [], [], 0⟩
/-- a store, its disk, and what it should have -/
structure Inv (s : St) (d : Dk) (r : RS) (armed : Bool) (N b : Nat) : Prop where
  ok : d.Ok
  now : s.now = r.now
  sure : r.sure < r.steps.length
  vw : s.views.map (fun p => (p.1, ent p.2)) = r.views
  nx : s.next = r.next
  vs : s.views.Pairwise (fun a b => a.1 < b.1) ∧ ∀ p ∈ s.views, 0 ≤ p.1 ∧ p.1 < s.next
  v8 : s.views.length ≤ 8
  st : (d.down = false ∧ s.broken = false ∧ (d.left = 0 ∨ armed = true) ∧ r.maybe = false ∧ LiveH s d r.good N b) ∨ (d.down = true ∧ s.broken = true ∧ Rec d r.good N b)
section
variable {s : St} {d : Dk} {r : RS} {armed : Bool} {N b : Nat}
theorem now_snoc (l : List En) (e : En) (r : RS) (h : r.steps = l ++ [e]) : r.now = e := by
  unfold RS.now
  rw [h, List.getLast?_append]
  rfl
theorem Inv.eq (h : Inv s d r armed N b) : s.broken = d.down := by
  rcases h.st with ⟨h1, h2, -⟩ | ⟨h1, h2, -⟩ <;> rw [h1, h2]
theorem Inv.live (h : Inv s d r armed N b) (hb : s.broken = false) : d.down = false ∧ (d.left = 0 ∨ armed = true) ∧ r.maybe = false ∧ LiveH s d r.good N b := by
  rcases h.st with ⟨h1, h2, h3, h4⟩ | ⟨h1, h2, -⟩
  · exact ⟨h1, h3, h4⟩
  · rw [hb] at h2; cases h2
theorem Inv.ready (h : Inv s d r armed N b) (hb : s.broken = false) : s.ready d = true := (h.live hb).2.2.2.ready
theorem Inv.found (h : Inv s d r armed N b) : Rec d r.good N b := by
  rcases h.st with ⟨-, -, -, -, L⟩ | ⟨-, -, L⟩
  · exact L.back
  · exact L
theorem good_apply (r : RS) (l : List Ch) (hs : r.sure < r.steps.length) : ∀ e, r.good e ∨ e = doAll r.now l → (r.apply l).good e := by
  rintro e ((⟨k, h1, h2⟩ | h) | rfl)
  · refine .inl ⟨k, h1, ?_⟩
    show (r.steps ++ [_])[k]? = _
    rw [List.getElem?_append_left (List.getElem?_eq_some_iff.1 h2).1]
    exact h2
  · exact .inr h
  · refine .inl ⟨r.steps.length, Nat.le_of_lt hs, ?_⟩
    show (r.steps ++ [_])[r.steps.length]? = _
    rw [List.getElem?_append_right (Nat.le_refl _), Nat.sub_self]
    rfl
theorem good_failed (r : RS) (l : List Ch) (hm : r.maybe = false) : ∀ e, r.good e ∨ e = doAll r.now l → (r.failed l).good e := by
  rintro e ((h | ⟨h, -⟩) | rfl)
  · exact .inl h
  · rw [hm] at h; cases h
  · exact .inr ⟨rfl, rfl⟩
theorem good_synced (r : RS) (hs : r.steps ≠ []) : r.synced.good r.now := by
  refine .inl ⟨r.steps.length - 1, Nat.le_refl _, ?_⟩
  show r.steps[r.steps.length - 1]? = _
  unfold RS.now
  rw [← List.getLast?_eq_getElem?]
  cases h : r.steps.getLast? with
  | none => exact absurd (List.getLast?_eq_none_iff.1 h) hs
  | some e => rfl
end
end Go.Proofs.YtpenleogafdbhaaGreatDoor

namespace Go.Proofs.YtpenleogafdbhaaGreatDoor
open Go.RowKit Go.Maps Go.ChangeMaps Go.WideElems Go.WideShapes Go.WideAt Go.WideMaps
/-- a value as it stands -/
def Rv (v : Value) : Option (DataW Value × List MemPlace) := some (.held v, [])
theorem own_tight {H : Type} {P : Program} {k : TypeId} {R : Value → Option (DataW H × List MemPlace)} {w : World} {b n : Nat} {D : DataW H} (h : w.ownsMap P k R b n D) : w.ownsMap P k R b (Maps.size D) D := by
  obtain ⟨es, clock, hb, F, _, rfl⟩ := h
  exact ⟨es, clock, hb, F, by simp [Maps.size, length_sorted], rfl⟩
/-- block b is a map from strings to values -/
def MapM (P : Program) (k : TypeId) (w : World) (b : Nat) (m : Mp Value) : Prop := Srt m ∧ w.ownsMap P k Rv b m.length (dm .held m)
section
variable {P : Program} {k : TypeId} {w : World} {b : Nat} {m : Mp Value}
theorem MapM.lt (h : MapM P k w b m) : b < w.heap.size := h.2.lt
theorem MapM.block {w' : World} (h : MapM P k w b m) (hb : w'.heap[b]? = w.heap[b]?) : MapM P k w' b m := by
  obtain ⟨h1, es, clock, h2, h3⟩ := h
  exact ⟨h1, es, clock, hb.trans h2, h3⟩
theorem MapM.of {n : Nat} {D : DataW Value} (hs : Srt m) (h : w.ownsMap P k Rv b n D) (e : D = dm .held m) : MapM P k w b m := by
  subst e
  have := own_tight h
  rw [dm_size] at this
  exact ⟨hs, this⟩
theorem mapM_made (w : World) (P : Program) (k : TypeId) : MapM P k (w.alloc (.map #[] 0)) w.heap.size [] := MapM.of srt_nil (World.ownsMap_made w P k Rv) rfl
/-- what kind of thing the block is -/
theorem MapM.kind (h : MapM P k w b m) : ∃ es clock, w.heap[b]? = some (.map es clock) := by
  obtain ⟨_, es, clock, h2, _⟩ := h
  exact ⟨es, clock, h2⟩
theorem at_held (s : Bs) (z : Value) (m : Mp Value) : (dm .held m).atKey (.string s) (.held z) = .held ((mget s m).getD z) := by
  rw [dm_at]
  cases mget s m <;> rfl
theorem MapM.look {t e : TypeId} (h : MapM P k w b m) (hk : P.underlying k = some .string) (ht : P.underlying t = some (.map k e)) {z : Value} (hz : (zeroValue e).run P w = .ok z w) {s : ByteArray} (hs : s.size ≤ maxLen) :
    (Instr.lookup t (.map (some b)) (.string s) false).run P w = .ok ((mget s.data.toList m).getD z) w := by
  obtain ⟨v, ps, hrun, hv⟩ := h.2.lookup (string_keyed hk) ht hz (zd := .held z) (zp := []) rfl (keyOf_string_mk hk hs)
  rw [at_held] at hv
  unfold Rv at hv
  cases hv
  exact hrun
theorem MapM.look_ok {t e : TypeId} (h : MapM P k w b m) (hk : P.underlying k = some .string) (ht : P.underlying t = some (.map k e)) {z : Value} (hz : (zeroValue e).run P w = .ok z w) {s : ByteArray} (hs : s.size ≤ maxLen) :
    (Instr.lookup t (.map (some b)) (.string s) true).run P w = .ok (.tuple #[(mget s.data.toList m).getD z, .bool (mget s.data.toList m).isSome]) w := by
  obtain ⟨v, ps, hrun, hv⟩ := h.2.look_ok (string_keyed hk) ht hz (zd := .held z) (zp := []) rfl (keyOf_string_mk hk hs)
  rw [at_held] at hv
  rw [dm_has] at hrun
  unfold Rv at hv
  cases hv
  exact hrun
theorem MapM.len {t e : TypeId} (h : MapM P k w b m) (ht : P.underlying t = some (.map k e)) (ty : TypeId) : (Builtin.len_ #[t] ty #[.map (some b)]).run P w = .ok (.int .i64 (m.length : Int)) w := by
  have := h.2.len ht ty
  rwa [dm_size] at this
section
variable {ops : Array Oper} {rest : List Oper} {o : Oper} {a : Act} {Q : Exit → Act → World → Prop}
theorem wpl_look (hg : o.guard = none) (x y : Operand) (t : TypeId) (hop : o.op = Op.lookup t x y false) (k e : TypeId) (hk : P.underlying k = some .string) (ht : P.underlying t = some (.map k e)) {z : Value} (hz : (zeroValue e).run P w = .ok z w)
    (b : Nat) (m : Mp Value) (hm : a.eval x = .map (some b)) (hown : MapM P k w b m) (s : ByteArray) (hx : a.eval y = .string s) (hs : s.size ≤ maxLen)
    (hK : wpList P ops Q rest (a.put o.dst ((mget s.data.toList m).getD z)) w) : wpList P ops Q (o :: rest) a w := by
  refine wpList_plain hg fun K' hK' => ?_
  unfold Oper.wp
  simp [execOp, hop, hm, hx, hown.look hk ht hz hs, Result.andThen]
  exact hK' _ _ hK
theorem wpl_look_ok (hg : o.guard = none) (x y : Operand) (t : TypeId) (hop : o.op = Op.lookup t x y true) (k e : TypeId) (hk : P.underlying k = some .string) (ht : P.underlying t = some (.map k e)) {z : Value} (hz : (zeroValue e).run P w = .ok z w)
    (b : Nat) (m : Mp Value) (hm : a.eval x = .map (some b)) (hown : MapM P k w b m) (s : ByteArray) (hx : a.eval y = .string s) (hs : s.size ≤ maxLen)
    (hK : wpList P ops Q rest (a.put o.dst (.tuple #[(mget s.data.toList m).getD z, .bool (mget s.data.toList m).isSome])) w) : wpList P ops Q (o :: rest) a w := by
  refine wpList_plain hg fun K' hK' => ?_
  unfold Oper.wp
  simp [execOp, hop, hm, hx, hown.look_ok hk ht hz hs, Result.andThen]
  exact hK' _ _ hK
theorem wpl_put (hg : o.guard = none) (x y u : Operand) (t : TypeId) (hop : o.op = Op.mapUpdate t x y u) (k e : TypeId) (hk : P.underlying k = some .string) (ht : P.underlying t = some (.map k e))
    (b : Nat) (m : Mp Value) (hm : a.eval x = .map (some b)) (hown : MapM P k w b m) (hn : m.length < maxLen) (s : ByteArray) (hx : a.eval y = .string s) (hs : s.size ≤ maxLen) (v : Value) (hu : a.eval u = v)
    (hK : ∀ w', MapM P k w' b (mput s.data.toList v m) → w.mapTurned w' b → wpList P ops Q rest (a.put o.dst undef) w') : wpList P ops Q (o :: rest) a w :=
  wpList_mapUpdate_in w hg x y u t hop k e (string_keyed hk) ht Rv b m.length (dm .held m) hm hown.2 hn (.string s) v _ hx hu (keyOf_string_mk hk hs) (.held v) [] rfl
    (fun w' h1 h2 => hK w' (MapM.of (srt_mput _ _ hown.1) h1 (dm_put _ _ _ _)) h2)
theorem wpl_del (hg : o.guard = none) (x y : Operand) (t k : TypeId) (hop : o.op = Op.call { callee := Callee.builtin Builtin.delete, args := #[x, y], argTypes := #[t, k] }) (e : TypeId) (hk : P.underlying k = some .string) (ht : P.underlying t = some (.map k e))
    (b : Nat) (m : Mp Value) (hm : a.eval x = .map (some b)) (hown : MapM P k w b m) (s : ByteArray) (hx : a.eval y = .string s) (hs : s.size ≤ maxLen)
    (hK : ∀ w', MapM P k w' b (mdel s.data.toList m) → w.mapTurned w' b → wpList P ops Q rest (a.put o.dst (.tuple #[])) w') : wpList P ops Q (o :: rest) a w :=
  wpList_delete_own w hg x y t k hop e (string_keyed hk) ht Rv b m.length (dm .held m) hm hown.2 (.string s) _ hx (keyOf_string_mk hk hs)
    (fun w' h1 h2 => hK w' (MapM.of (srt_mdel _ hown.1) h1 (dm_del _ _ _)) h2)
theorem wpl_len (hg : o.guard = none) (x : Operand) (t : TypeId) (hop : o.op = Op.call { callee := Callee.builtin Builtin.len, args := #[x], argTypes := #[t] }) (k e : TypeId) (ht : P.underlying t = some (.map k e))
    (b : Nat) (m : Mp Value) (hm : a.eval x = .map (some b)) (hown : MapM P k w b m)
    (hK : wpList P ops Q rest (a.put o.dst (.int .i64 (m.length : Int))) w) : wpList P ops Q (o :: rest) a w := by
  refine wpList_plain hg fun K' hK' => ?_
  unfold Oper.wp
  simp [execOp, hop, resolve, invoke, builtin, hm, hown.len ht o.type, Result.andThen]
  exact hK' _ _ hK
end
/-- a loop over a map: what is still to come -/
def RangeM (P : Program) (k : TypeId) (w : World) (b r : Nat) (m rem : Mp Value) : Prop :=
  Srt m ∧ Srt rem ∧ (∀ p ∈ rem, p ∈ m) ∧ ∃ left, (∀ s, left (.string s) = (mget s rem).isSome) ∧ w.ranges P k Rv b r m.length (dm .held m) left (w.rangeLeft b r)
theorem RangeM.map {r : Nat} {rem : Mp Value} (h : RangeM P k w b r m rem) : MapM P k w b m := by
  obtain ⟨h1, _, _, left, _, h2⟩ := h
  exact ⟨h1, h2.owns⟩
theorem RangeM.ne {r : Nat} {rem : Mp Value} (h : RangeM P k w b r m rem) : r ≠ b := by
  obtain ⟨_, _, _, left, _, h2⟩ := h
  exact h2.ne
theorem RangeM.lt {r : Nat} {rem : Mp Value} (h : RangeM P k w b r m rem) : r < w.heap.size := by
  obtain ⟨_, _, _, left, _, h2⟩ := h
  exact h2.lt
theorem rangeLeft_same {w' : World} {r : Nat} (hb : w'.heap[b]? = w.heap[b]?) (hr : w'.heap[r]? = w.heap[r]?) : w'.rangeLeft b r = w.rangeLeft b r := by
  unfold World.rangeLeft
  rw [hb, hr]
theorem RangeM.block {w' : World} {r : Nat} {rem : Mp Value} (h : RangeM P k w b r m rem) (hb : w'.heap[b]? = w.heap[b]?) (hr : w'.heap[r]? = w.heap[r]?) : RangeM P k w' b r m rem := by
  obtain ⟨h1, h2, h3, left, h4, es, clock, since, seen, c0, g1, g2, g3, g4, g5, g6⟩ := h
  refine ⟨h1, h2, h3, left, h4, es, clock, since, seen, c0, hb.trans g1, g2, g3, g4, hr.trans g5, ?_⟩
  rw [rangeLeft_same hb hr]
  exact g6
section
variable {ops : Array Oper} {rest : List Oper} {o : Oper} {a : Act} {Q : Exit → Act → World → Prop}
theorem wpl_range (hg : o.guard = none) (x : Operand) (t : TypeId) (hop : o.op = Op.range t x) (k e : TypeId) (hk : P.underlying k = some .string) (ht : P.underlying t = some (.map k e)) (b : Nat) (m : Mp Value)
    (hm : a.eval x = .map (some b)) (hown : MapM P k w b m)
    (hK : ∀ w', RangeM P k w' b w.heap.size m m → Below w.heap.size w w' → w'.heap.size = w.heap.size + 1 → wpList P ops Q rest (a.put o.dst (.pointer (some ⟨w.heap.size, 0, none⟩))) w') :
    wpList P ops Q (o :: rest) a w :=
  wpList_range_own w hg x t hop k e (string_keyed hk) ht Rv b m.length (dm .held m) hm hown.2
    (fun w' h1 h2 h3 => hK w' ⟨hown.1, hown.1, fun p hp => hp, _, fun s => dm_has _ _ _, by rw [h1.left_eq]; exact h1⟩ ⟨h2.os, h2.tape, h2.output, h2.size, fun j hj => h2.block j hj (by simp)⟩ h3)
theorem string_inv (hk : P.underlying k = some .string) {key : Value} {kl : Lit} (h : keyOf P k key = some kl) : ∃ s : ByteArray, key = .string s ∧ kl = .string s.data.toList ∧ s.size ≤ maxLen := by
  cases key <;> simp [keyOf, hk, mapKey] at h
  rename_i s
  obtain ⟨h1, h2⟩ := h
  exact ⟨s, rfl, h2.symm, h1⟩
theorem wpl_next (hg : o.guard = none) (it : Operand) (hop : o.op = Op.next it false) (k : TypeId) (hk : P.underlying k = some .string) (b r : Nat) (m rem : Mp Value)
    (hit : a.eval it = .pointer (some ⟨r, 0, none⟩)) (h : RangeM P k w b r m rem)
    (hDone : rem = [] → wpList P ops Q rest (a.put o.dst (.tuple #[.bool false])) w)
    (hMore : ∀ (s : ByteArray) (v : Value) (w' : World), (s.data.toList, v) ∈ rem → s.size ≤ maxLen → RangeM P k w' b r m (mdel s.data.toList rem) → w'.rangeLeft b r < w.rangeLeft b r → w.grownBy w' (some r) → w'.heap.size = w.heap.size →
      (Instr.entry (.pointer (some ⟨r, 0, none⟩))).run P w' = .ok (.tuple #[.string s, v]) w' → wpList P ops Q rest (a.put o.dst (.tuple #[.bool true, .string s, v])) w') :
    wpList P ops Q (o :: rest) a w := by
  obtain ⟨h1, h2, h3, left, h4, h5⟩ := h
  refine wpList_next_ranges w hg it hop k (string_keyed hk) Rv id id (fun key _ _ => ⟨key, rfl⟩) (fun v _ _ => ⟨v, rfl⟩) b r m.length (dm .held m) left _ hit h5 ?_ ?_
  · intro _ hl
    refine hDone ?_
    cases rem with
    | nil => rfl
    | cons p q =>
      have := hl (.string p.1)
      rw [h4, mget_cons, if_pos rfl] at this
      cases this
  · intro key v kl y w' cnt' hkey hlk hv hat hrg hlt hgr hsz hen
    obtain ⟨s, e, rfl, hs⟩ := string_inv hk hkey
    simp only [id] at e hen hv
    subst e
    unfold Rv at hv
    cases hv
    rw [h4] at hlk
    obtain ⟨u, hu⟩ := Option.isSome_iff_exists.1 hlk
    have hm := h3 _ (mget_mem hu)
    have e2 := hat (.held v)
    rw [at_held, mem_mget h1 hm] at e2
    obtain rfl : u = v := by injection e2
    have hrl := hrg.left_eq
    refine hMore s u w' (mget_mem hu) hs ⟨h1, srt_mdel _ h2, fun p hp => h3 p (mem_mdel.1 hp).1, _, fun j => ?_, by rw [hrl]; exact hrg⟩ (by rw [hrl]; exact hlt) hgr hsz hen
    show (left (.string j) && !(j == s.data.toList)) = _
    rw [h4]
    by_cases hj : j = s.data.toList
    · rw [hj, mget_mdel_same]; simp
    · rw [mget_mdel_other hj]; simp [hj]
/-- an entry is struck in the round -/
theorem wpl_del_range (hg : o.guard = none) (x y : Operand) (t k : TypeId) (hop : o.op = Op.call { callee := Callee.builtin Builtin.delete, args := #[x, y], argTypes := #[t, k] }) (e : TypeId) (hk : P.underlying k = some .string) (ht : P.underlying t = some (.map k e))
    (b r : Nat) (m rem : Mp Value) (hm : a.eval x = .map (some b)) (h : RangeM P k w b r m rem) (s : ByteArray) (hx : a.eval y = .string s) (hs : s.size ≤ maxLen)
    (hK : ∀ w', RangeM P k w' b r (mdel s.data.toList m) (mdel s.data.toList rem) → w'.rangeLeft b r ≤ w.rangeLeft b r → w.mapTurned w' b → wpList P ops Q rest (a.put o.dst (.tuple #[])) w') : wpList P ops Q (o :: rest) a w := by
  obtain ⟨h1, h2, h3, left, h4, h5⟩ := h
  refine wpList_delete_ranges w hg x y t k hop e (string_keyed hk) ht Rv b r m.length (dm .held m) left _ hm h5 (.string s) _ hx (keyOf_string_mk hk hs) ?_
  intro w' cnt' hrg hle hmt
  have hrl := hrg.left_eq
  have ho := hrg.owns
  rw [dm_del] at ho hrg
  refine hK w' ⟨srt_mdel _ h1, srt_mdel _ h2, fun p hp => mem_mdel.2 ⟨h3 p (mem_mdel.1 hp).1, (mem_mdel.1 hp).2⟩, (fun z => left z && !z.sameKey (.string s.data.toList)), fun j => ?_, ?_⟩ (by rw [hrl]; exact hle) hmt
  · show (left (.string j) && !(j == s.data.toList)) = _
    rw [h4]
    by_cases hj : j = s.data.toList
    · rw [hj, mget_mdel_same]; simp
    · rw [mget_mdel_other hj]; simp [hj]
  · rw [hrl]
    obtain ⟨es, clock, since, seen, c0, g1, g2, g3, g4, g5⟩ := hrg
    refine ⟨es, clock, since, seen, c0, g1, g2, ?_, g4, g5⟩
    have e3 : Maps.size (dm DataW.held (mdel s.data.toList m)) = es.size := by rw [g4]; simp [Maps.size, length_sorted]
    rw [dm_size] at e3
    omega
end
end
end Go.Proofs.YtpenleogafdbhaaGreatDoor

namespace Go.Proofs.YtpenleogafdbhaaGreatDoor
open Go.RowKit Go.ChangeMaps Go.MapKept Go.WideShapes
abbrev Fp := Nat → Prop
/-- only blocks of F may have turned -/
structure Chg (F : Fp) (w w' : World) : Prop where
  os : w'.os = w.os
  tape : w'.tape = w.tape
  output : w'.output = w.output
  size : w.heap.size ≤ w'.heap.size
  block : ∀ k, k < w.heap.size → ¬ F k → w'.heap[k]? = w.heap[k]?
/-- new blocks, or some of before -/
def New (w : World) (F G : Fp) : Prop := ∀ k, G k → F k ∨ w.heap.size ≤ k
theorem Chg.refl (F : Fp) (w : World) : Chg F w w := ⟨rfl, rfl, rfl, Nat.le_refl _, fun _ _ _ => rfl⟩
theorem Chg.mono {F G : Fp} {w w' : World} (h : Chg F w w') (hF : ∀ k, F k → G k) : Chg G w w' :=
  ⟨h.os, h.tape, h.output, h.size, fun k hk hn => h.block k hk fun hf => hn (hF k hf)⟩
theorem Chg.trans {F G : Fp} {a b c : World} (h : Chg F a b) (k : Chg G b c) (hG : New a F G) : Chg F a c :=
  ⟨k.os.trans h.os, k.tape.trans h.tape, k.output.trans h.output, Nat.le_trans h.size k.size, fun i hi hn => (k.block i (Nat.lt_of_lt_of_le hi h.size) fun hg => (hG i hg).elim hn fun hle => absurd hi (Nat.not_lt.2 hle)).trans (h.block i hi hn)⟩
theorem Chg.trans0 {F : Fp} {a b c : World} (h : Chg F a b) (k : Chg F b c) : Chg F a c := h.trans k fun _ hk => .inl hk
/-- whatever was there stands -/
theorem chg_below {F : Fp} {w w' : World} (h : Below w.heap.size w w') : Chg F w w' := ⟨h.os, h.tape, h.output, h.size, fun k hk _ => h.block k hk⟩
theorem Chg.toBelow {w w' : World} (h : Chg (fun _ => False) w w') : Below w.heap.size w w' := ⟨h.os, h.tape, h.output, h.size, fun k hk => h.block k hk id⟩
theorem Chg.below {F : Fp} {B : Nat} {w w' : World} (h : Chg F w w') (hB : B ≤ w.heap.size) (hF : ∀ k, F k → B ≤ k) : Below B w w' :=
  ⟨h.os, h.tape, h.output, h.size, fun k hk => h.block k (Nat.lt_of_lt_of_le hk hB) fun hf => absurd hk (Nat.not_lt.2 (hF k hf))⟩
theorem chg_of_below {B : Nat} {w w' : World} (h : Below B w w') : Chg (fun k => B ≤ k) w w' := ⟨h.os, h.tape, h.output, h.size, fun k _ hn => h.block k (Nat.not_le.1 hn)⟩
theorem chg_grown {F : Fp} {w w' : World} {row : Option Nat} (h : w.grownBy w' row) (hr : ∀ k, row = some k → F k) : Chg F w w' :=
  ⟨h.os, h.tape, h.output, h.size, fun k hk hn => h.block k hk fun e => hn (hr k e.symm)⟩
theorem chg_set {F : Fp} {w : World} {a : Addr} {v : Value} (h : F a.block) : Chg F w (w.setCell a v) :=
  ⟨rfl, rfl, rfl, by simp, fun k _ hn => Below.heap_setCell _ _ _ _ (fun e => hn (e ▸ h))⟩
theorem chg_alloc {F : Fp} (w : World) (o : Obj) : Chg F w (w.alloc o) := chg_below ((Below.refl _ _).alloc (Nat.le_refl _) _)
theorem chg_drew {F : Fp} (w : World) : Chg F w w.drew := ⟨rfl, rfl, rfl, Nat.le_refl _, fun _ _ _ => rfl⟩
theorem chg_turned {F : Fp} {w w' : World} {b : Nat} (h : w.mapTurned w' b) (hb : F b) : Chg F w w' := chg_grown h.grown fun k e => by cases e; exact hb
theorem New.refl {w : World} {F : Fp} : New w F F := fun _ h => .inl h
theorem New.trans {w w' : World} {F G H : Fp} (h : New w F G) (k : New w' G H) (hs : w.heap.size ≤ w'.heap.size) : New w F H := fun x hx => (k x hx).elim (h x) fun hle => .inr (Nat.le_trans hs hle)
/-- two sets have no block in common -/
def Sep (F G : Fp) : Prop := ∀ k, F k → G k → False
theorem Sep.symm {F G : Fp} (h : Sep F G) : Sep G F := fun k a b => h k b a
/-- what F grows to keeps apart from what was there -/
theorem Sep.new {F F' G : Fp} {w : World} (h : Sep F G) (hn : New w F F') (hG : ∀ k, G k → k < w.heap.size) : Sep F' G := fun k a b => (hn k a).elim (fun c => h k c b) fun c => absurd (hG k b) (Nat.not_lt.2 c)
theorem Chg.keep {F G : Fp} {w w' : World} (h : Chg F w w') (hs : Sep F G) (hG : ∀ k, G k → k < w.heap.size) : ∀ k, G k → w'.heap[k]? = w.heap[k]? := fun k hk => h.block k (hG k hk) fun hf => hs k hf hk
theorem mapTurned_other {w w' : World} {b : Nat} (h : w.mapTurned w' b) {k : Nat} (hk : k ≠ b) : w'.heap[k]? = w.heap[k]? := by
  obtain ⟨es, clock, es', clock', hb, rfl⟩ := h
  exact heap_setBlock_other hb _ hk
theorem mapTurned_size {w w' : World} {b : Nat} (h : w.mapTurned w' b) : w'.heap.size = w.heap.size := by
  obtain ⟨es, clock, es', clock', hb, rfl⟩ := h
  simp [setBlock]
end Go.Proofs.YtpenleogafdbhaaGreatDoor

namespace Go.Proofs.YtpenleogafdbhaaGreatDoor
open Go.RowKit Go.Maps Go.ChangeMaps Go.WideElems Go.WideShapes Go.WideAt Go.WideMaps
def bv (c : UInt8) : Value := .int .u8 (c.toNat : Int)
/-- a file in memory: its block, its slice, what it holds -/
structure FileR where
  g : Nat
  v : Value
  f : Fl
def FileR.ptr (r : FileR) : Value := .pointer (some ⟨r.g, 0, none⟩)
def FileM (w : World) (r : FileR) : Prop := w.heap[r.g]? = some (.cells #[r.v, .int .i64 (r.f.safe : Int)] 123) ∧ OwnV w 0 5 r.v (r.f.data.map bv)
/-- no two files share a block -/
def FAp (L : Mp FileR) : Prop := ∀ p ∈ L, ∀ q ∈ L, p.1 ≠ q.1 → p.2.g ≠ q.2.g ∧ ∀ k, p.2.v.ownBlock = some k → q.2.v.ownBlock ≠ some k
structure DiskM (w : World) (dp mb : Nat) (L : Mp FileR) (d : Dk) : Prop where
  cells : w.heap[dp]? = some (.cells #[.bool true, .map (some mb), .bool d.down, .int .i64 (d.left : Int), .int .i64 (d.opened : Int)] 51)
  map : MapM Tryz.prog 9 w mb (mmap FileR.ptr L)
  files : d.files = mmap FileR.f L
  file : ∀ p ∈ L, FileM w p.2
  apart : FAp L
/-- the blocks of a disk -/
def fpD (dp mb : Nat) (L : Mp FileR) : Fp := fun k => k = dp ∨ k = mb ∨ ∃ p ∈ L, k = p.2.g ∨ p.2.v.ownBlock = some k
theorem ownV_keep {w w' : World} {B : Nat} {e : TypeId} {v : Value} {xs : List Value} (h : OwnV w B e v xs) (hk : ∀ k, v.ownBlock = some k → w'.heap[k]? = w.heap[k]?) : OwnV w' B e v xs := by
  obtain ⟨h0, h | ⟨g, cap, cur, h1, h2, h3, h4⟩⟩ := h
  · exact ⟨h0, .inl h⟩
  · exact ⟨h0, .inr ⟨g, cap, cur, h1, h2, (hk g (by rw [h1]; rfl)).trans h3, h4⟩⟩
theorem FileM.keep {w w' : World} {r : FileR} (h : FileM w r) (hg : w'.heap[r.g]? = w.heap[r.g]?) (hk : ∀ k, r.v.ownBlock = some k → w'.heap[k]? = w.heap[k]?) : FileM w' r := ⟨hg.trans h.1, ownV_keep h.2 hk⟩
theorem FileM.lt {w : World} {r : FileR} (h : FileM w r) : r.g < w.heap.size ∧ ∀ k, r.v.ownBlock = some k → k < w.heap.size := ⟨heap_lt h.1, fun k hk => (ownV_lt h.2 k hk).2⟩
/-- the blocks of files are no maps, no disks, no rows of bytes -/
theorem FileM.row {w : World} {r q : FileR} (h : FileM w r) (h2 : FileM w q) : ∀ k, r.v.ownBlock = some k → k ≠ q.g := fun k hk e => by
  obtain ⟨cs, hcs⟩ := row_type h.2 k hk
  rw [e, h2.1] at hcs
  simp at hcs
section
variable {w w' : World} {dp mb : Nat} {L : Mp FileR} {d : Dk}
theorem DiskM.srt (h : DiskM w dp mb L d) : Srt L := srt_of_mmap _ h.map.1
theorem DiskM.lt (h : DiskM w dp mb L d) : ∀ k, fpD dp mb L k → k < w.heap.size := by
  rintro k (rfl | rfl | ⟨p, hp, rfl | hk⟩)
  · exact heap_lt h.cells
  · exact h.map.lt
  · exact (h.file p hp).lt.1
  · exact (h.file p hp).lt.2 k hk
theorem DiskM.keep (h : DiskM w dp mb L d) (hk : ∀ k, fpD dp mb L k → w'.heap[k]? = w.heap[k]?) : DiskM w' dp mb L d :=
  ⟨(hk dp (.inl rfl)).trans h.cells, h.map.block (hk mb (.inr (.inl rfl))), h.files, fun p hp => (h.file p hp).keep (hk _ (.inr (.inr ⟨p, hp, .inl rfl⟩))) fun k hv => hk k (.inr (.inr ⟨p, hp, .inr hv⟩)), h.apart⟩
theorem DiskM.below (h : DiskM w dp mb L d) (hb : Below w.heap.size w w') : DiskM w' dp mb L d := h.keep fun k hk => hb.block k (h.lt k hk)
theorem DiskM.get (h : DiskM w dp mb L d) (s : Bs) : mget s d.files = (mget s L).map FileR.f := by rw [h.files, mget_mmap]
theorem DiskM.len (h : DiskM w dp mb L d) : d.files.length = L.length := by rw [h.files, mmap_length]
theorem DiskM.dp_mb (h : DiskM w dp mb L d) : dp ≠ mb := fun e => by
  obtain ⟨es, clock, hm⟩ := h.map.kind
  rw [← e, h.cells] at hm
  cases hm
theorem DiskM.g_dp (h : DiskM w dp mb L d) {p : Bs × FileR} (hp : p ∈ L) : p.2.g ≠ dp := fun e => by
  have := (h.file p hp).1
  rw [e, h.cells] at this
  simp at this
theorem DiskM.g_mb (h : DiskM w dp mb L d) {p : Bs × FileR} (hp : p ∈ L) : p.2.g ≠ mb := fun e => by
  obtain ⟨es, clock, hm⟩ := h.map.kind
  rw [← e, (h.file p hp).1] at hm
  cases hm
theorem DiskM.v_dp (h : DiskM w dp mb L d) {p : Bs × FileR} (hp : p ∈ L) : p.2.v.ownBlock ≠ some dp := fun e => by
  obtain ⟨cs, hcs⟩ := row_type (h.file p hp).2 _ e
  rw [h.cells] at hcs
  simp at hcs
theorem DiskM.v_mb (h : DiskM w dp mb L d) {p : Bs × FileR} (hp : p ∈ L) : p.2.v.ownBlock ≠ some mb := fun e => by
  obtain ⟨es, clock, hm⟩ := h.map.kind
  obtain ⟨cs, hcs⟩ := row_type (h.file p hp).2 _ e
  rw [hm] at hcs
  cases hcs
/-- the scalars of a disk are written -/
theorem DiskM.scal (h : DiskM w dp mb L d) {d' : Dk} (hd : d'.files = d.files) (hc : w'.heap[dp]? = some (.cells #[.bool true, .map (some mb), .bool d'.down, .int .i64 (d'.left : Int), .int .i64 (d'.opened : Int)] 51))
    (hk : ∀ k, k < w.heap.size → k ≠ dp → w'.heap[k]? = w.heap[k]?) : DiskM w' dp mb L d' :=
  ⟨hc, h.map.block (hk mb h.map.lt h.dp_mb.symm), hd.trans h.files, fun p hp => (h.file p hp).keep (hk _ (h.file p hp).lt.1 (h.g_dp hp)) fun k hv => hk k ((h.file p hp).lt.2 k hv) fun e => h.v_dp hp (e ▸ hv), h.apart⟩
/-- a file is put in, or turned -/
theorem DiskM.put (h : DiskM w dp mb L d) (s : Bs) (r : FileR) (hc : w'.heap[dp]? = w.heap[dp]?) (hm : MapM Tryz.prog 9 w' mb (mput s r.ptr (mmap FileR.ptr L))) (hr : FileM w' r)
    (ho : ∀ p ∈ L, p.1 ≠ s → w'.heap[p.2.g]? = w.heap[p.2.g]? ∧ ∀ k, p.2.v.ownBlock = some k → w'.heap[k]? = w.heap[k]?)
    (ha : ∀ p ∈ L, p.1 ≠ s → p.2.g ≠ r.g ∧ ∀ k, p.2.v.ownBlock = some k → r.v.ownBlock ≠ some k) : DiskM w' dp mb (mput s r L) { d with files := mput s r.f d.files } := by
  refine ⟨hc.trans h.cells, by rw [mmap_mput]; exact hm, by rw [mmap_mput]; show mput s r.f d.files = _; rw [h.files], fun p hp => ?_, fun p hp q hq hne => ?_⟩
  · rcases mem_mput.1 hp with rfl | ⟨hp, hn⟩
    · exact hr
    · exact (h.file p hp).keep (ho p hp hn).1 (ho p hp hn).2
  · rcases mem_mput.1 hp with rfl | ⟨hp, hn⟩
    · rcases mem_mput.1 hq with rfl | ⟨hq, hn2⟩
      · exact absurd rfl hne
      · exact ⟨(ha q hq hn2).1.symm, fun k hk e => (ha q hq hn2).2 k e hk⟩
    · rcases mem_mput.1 hq with rfl | ⟨hq, hn2⟩
      · exact ha p hp hn
      · exact h.apart p hp q hq hne
/-- a file is struck -/
theorem DiskM.del (h : DiskM w dp mb L d) (s : Bs) (hm : MapM Tryz.prog 9 w' mb (mdel s (mmap FileR.ptr L))) (ho : ∀ k, k < w.heap.size → k ≠ mb → w'.heap[k]? = w.heap[k]?) : DiskM w' dp mb (mdel s L) { d with files := mdel s d.files } := by
  refine ⟨(ho dp (heap_lt h.cells) h.dp_mb).trans h.cells, by rw [mmap_mdel]; exact hm, by rw [mmap_mdel]; show mdel s d.files = _; rw [h.files], fun p hp => ?_, fun p hp q hq hne => h.apart p (mem_mdel.1 hp).1 q (mem_mdel.1 hq).1 hne⟩
  have hp := (mem_mdel.1 hp).1
  exact (h.file p hp).keep (ho _ (h.file p hp).lt.1 (h.g_mb hp)) fun k hk => ho k ((h.file p hp).lt.2 k hk) fun e => h.v_mb hp (e ▸ hk)
end
end Go.Proofs.YtpenleogafdbhaaGreatDoor
