/-
  The signs are read (24, 32, 33, 45); Faces (10); Same (8).
-/
import Derived.Test.YtppkgilpmmhpoaaDoorWalkQ
namespace Go.Proofs.YtppkgilpmmhpoaaDoor
open Go.RowKit
theorem sign_any (x : Int) (w : World) (h : x = 1 ∨ x = -1) : Calls Tryd.prog 33 #[.int .i64 x] w fun e w' => e = .returned (.bool false) ∧ w' = w := by
  rcases h with rfl | rfl
  · go_enter Tryd.func33, Tryd.ntmps33
    go_wp2_with fail
    go_ret
    exact ⟨rfl, rfl⟩
  · go_enter Tryd.func33, Tryd.ntmps33
    go_wp2_with fail
    go_ret
    exact ⟨rfl, rfl⟩
def sgn (sg x : Nat) : Int := if sg.testBit x then 1 else -1
theorem sgn_or (sg x : Nat) : sgn sg x = 1 ∨ sgn sg x = -1 := by unfold sgn; split <;> simp
set_option maxRecDepth 100000 in
set_option maxHeartbeats 4000000 in
theorem indexF_any (n sgb sc sg : Nat) (w : World) (hn : n ≤ 10) (hs : ∀ x, x < n → w.cell? ⟨sgb, x, none⟩ = some (.int .i64 (sgn sg x))) :
    Calls Tryd.prog 45 #[.slice (some ⟨sgb, 0, none⟩) n sc, .func (.func 33) #[] #[]] w fun e w' => e = .returned (.int .i64 (-1)) ∧ w' = w := by
  have HS := hid hs
  clear hs
  go_enter Tryd.func45, Tryd.ntmps45
  go_wp2_with fail
  go_loop [8] (fun iv => ∃ i : Nat, iv = .int .i64 i ∧ i ≤ n) (fun iv => n - (intOf iv).toNat)
  case atStart => exact ⟨0, rfl, Nat.zero_le _⟩
  case round =>
    obtain ⟨i, rfl, hi⟩ := hrel
    by_cases hlt : i < n
    · have cx := HS.out i hlt
      have SC := hid (sign_any (sgn sg i) w (sgn_or sg i))
      generalize sgn sg i = y at *
      go_wp2_with (first | (go_at_call 33; refine SC.out.mono ?_; rintro e w2 ⟨rfl, rfl⟩) | fail)
      go_round
      case rel => exact ⟨i + 1, by go_num, by omega⟩
      case measure => simp [intOf]; omega
    · obtain rfl : n = i := by omega
      go_wp2_with fail
      go_ret
      exact ⟨rfl, rfl⟩
theorem containsF_any (n sgb sc sg : Nat) (w : World) (hn : n ≤ 10) (hs : ∀ x, x < n → w.cell? ⟨sgb, x, none⟩ = some (.int .i64 (sgn sg x))) :
    Calls Tryd.prog 32 #[.slice (some ⟨sgb, 0, none⟩) n sc, .func (.func 33) #[] #[]] w fun e w' => e = .returned (.bool false) ∧ w' = w := by
  have IC := hid (indexF_any n sgb sc sg w hn hs)
  clear hs
  go_enter Tryd.func32, Tryd.ntmps32
  go_wp2_with (first | (go_at_call 45; refine IC.out.mono ?_; rintro e w2 ⟨rfl, rfl⟩) | fail)
  go_ret
  exact ⟨rfl, rfl⟩
/-- the signs, in memory -/
def Sgs (w : World) (n sg sgb : Nat) : Prop := ∀ x, x < n → w.cell? ⟨sgb, x, none⟩ = some (.int .i64 (sgn sg x))
theorem Sgs.below {w w' : World} {n sg sgb : Nat} (h : Sgs w n sg sgb) (hb : Below w.heap.size w w') : Sgs w' n sg sgb := fun i hi => (hb.cell (World.block_lt_of_cell? w _ (h i hi))).trans (h i hi)
set_option maxRecDepth 100000 in
set_option maxHeartbeats 4000000 in
theorem signed_any (n wb wc sg sgb sc : Nat) (w : World) (hn : 1 ≤ n ∧ n ≤ 10) (hw : Wrd w n 0 wb) (hs : Sgs w n sg sgb) :
    Calls Tryd.prog 24 #[.slice (some ⟨wb, 0, none⟩) (2 * n) wc, .slice (some ⟨sgb, 0, none⟩) n sc] w fun e w' => ∃ D pb gs cs, e = .returned (.tuple #[.pointer (some ⟨D, 0, none⟩), .int .i64 0]) ∧ Hid (Cur w' D n wb wc pb gs cs) ∧ Below w.heap.size w w' := by
  have RC := hid (read_cur n wb wc w hn hw)
  have HS := hid hs
  obtain ⟨hn1, hn10⟩ := hn
  clear hw hs
  generalize 2 * n = m at *
  go_enter Tryd.func24, Tryd.ntmps24
  go_upto_region 2 with (first | (go_at_call 12; refine RC.out.mono ?_; rintro e w1 ⟨D, pb, gs, cs, rfl, HC, hb1⟩; have HB1 := hid hb1; clear hb1) | fail)
  have CC := hid (containsF_any n sgb sc sg w1 hn10 (HS.out.below HB1.out))
  have k0 := (cells3_of HC.out.box).1
  go_wp2_with (first | (go_at_call 32; refine CC.out.mono ?_; rintro e w2 ⟨rfl, rfl⟩) | fail)
  go_ret2
  exact ⟨D, pb, gs, cs, rfl, HC, HB1.out⟩
theorem ownFL_mono {n : Nat} {w : World} {B B' : Nat} {v : Value} {us : List Value} {Ls : List (List Nat)} (h : OwnFL n w B v us Ls) (hb : B' ≤ B) : OwnFL n w B' v us Ls :=
  ⟨h.1, ownV_mono h.2.1 hb, fun j hj => ownV_mono (h.2.2 j hj) hb⟩
set_option maxRecDepth 100000 in
set_option maxHeartbeats 4000000 in
theorem facesP_any (n wb wc sg sgb sc : Nat) (w : World) (hn : 1 ≤ n ∧ n ≤ 10) (hw : Wrd w n 0 wb) (hs : Sgs w n sg sgb) :
    Calls Tryd.prog 10 #[.slice (some ⟨wb, 0, none⟩) (2 * n) wc, .slice (some ⟨sgb, 0, none⟩) n sc] w fun e w' => ∃ u, e = .returned (.tuple #[u, .int .i64 0]) ∧ (∃ us, OwnFL n w' w.heap.size u us (faces n sg)) ∧ Below w.heap.size w w' := by
  have SG := hid (signed_any n wb wc sg sgb sc w hn hw hs)
  have HS := hid hs
  clear hw hs
  generalize 2 * n = m at *
  go_enter Tryd.func10, Tryd.ntmps10
  go_upto_region 2 with (first | (go_at_call 24; refine SG.out.mono ?_; rintro e w1 ⟨D, pb, gs, cs, rfl, HC, hb1⟩; have HB1 := hid hb1; clear hb1) | fail)
  have FC := hid (faces_any D n wb wc pb gs cs sg sgb sc w1 HC.out (HS.out.below HB1.out))
  go_wp2_with (first | (go_at_call 25; refine FC.out.mono ?_; rintro e w2 ⟨u, rfl, ⟨us, ho⟩, hb2⟩; have HO := hid ho; have HB2 := hid (below_step HB1.out hb2); obtain ⟨ua, un, uc, rfl⟩ := ownV_sh ho.2.1; clear ho hb2) | fail)
  go_ret2
  exact ⟨_, rfl, ⟨us, ownFL_mono HO.out HB1.out.size⟩, HB2.out⟩
set_option maxRecDepth 100000 in
set_option maxHeartbeats 4000000 in
theorem same_any (m g1 c1 g2 c2 : Nat) (z : Nat → Int) (w : World) (hm : m ≤ 20) (h1 : ∀ j, j < m → w.cell? ⟨g1, j, none⟩ = some (.int .i64 (z j))) (h2 : ∀ j, j < m → w.cell? ⟨g2, j, none⟩ = some (.int .i64 (z j))) :
    Calls Tryd.prog 8 #[.slice (some ⟨g1, 0, none⟩) m c1, .slice (some ⟨g2, 0, none⟩) m c2] w fun e w' => e = .returned (.bool true) ∧ Below w.heap.size w w' := by
  have H1 : Hid (∀ w' j, Below w.heap.size w w' → j < m → w'.cell? ⟨g1, j, none⟩ = some (.int .i64 (z j))) := fun w' j hb hj => (hb.cell (World.block_lt_of_cell? w _ (h1 j hj))).trans (h1 j hj)
  have H2 : Hid (∀ w' j, Below w.heap.size w w' → j < m → w'.cell? ⟨g2, j, none⟩ = some (.int .i64 (z j))) := fun w' j hb hj => (hb.cell (World.block_lt_of_cell? w _ (h2 j hj))).trans (h2 j hj)
  clear h1 h2
  go_enter Tryd.func8, Tryd.ntmps8
  go_wp2_with fail
  go_loopw [5] (fun iv wr => ∃ i : Nat, iv = .int .i64 i ∧ i ≤ m ∧ Hid (Below w.heap.size w wr)) (fun iv _ => m - (intOf iv).toNat)
  case atStart => exact ⟨0, rfl, Nat.zero_le _, Below.refl _ _⟩
  case round =>
    obtain ⟨i, rfl, hi, HBr⟩ := hrel
    rename World => wr
    by_cases hlt : i < m
    · have q1 := H1.out wr i HBr.out hlt
      have q2 := H2.out wr i HBr.out hlt
      generalize z i = y at *
      go_upto_region 6 with fail
      go_quiet (fail)
      go_wp2_with fail
      go_roundw
      case rel => exact ⟨i + 1, by go_num, by omega, below_drewN_r HBr.out _⟩
      case measure => simp [intOf]; omega
    · obtain rfl : m = i := by omega
      go_wp2_with fail
      go_ret
      exact ⟨rfl, HBr.out⟩
end Go.Proofs.YtppkgilpmmhpoaaDoor
