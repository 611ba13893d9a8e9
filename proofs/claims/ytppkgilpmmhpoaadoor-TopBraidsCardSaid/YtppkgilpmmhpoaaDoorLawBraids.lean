/-
  The law TopBraids holds: its contract.
-/
import Derived.Test.YtppkgilpmmhpoaaDoorWalkT
import Derived.Test.YtppkgilpmmhpoaaDoorWalkS
import Derived.Test.YtppkgilpmmhpoaaDoorWalkM
import Derived.Test.YtppkgilpmmhpoaaDoorWalkI
import Derived.Test.YtppkgilpmmhpoaaDoorPlainB
namespace Go.Proofs.YtppkgilpmmhpoaaDoor
open Go.RowKit
theorem abcd_at {z : Nat} (hz : z < 4) : ((⟨#[97, 98, 99, 100]⟩ : ByteArray).extract z (z + 1)).data.toList = [UInt8.ofNat (97 + z)] := by
  rw [← toList_data, Lib.extract_toList]
  have : z = 0 ∨ z = 1 ∨ z = 2 ∨ z = 3 := by omega
  rcases this with rfl | rfl | rfl | rfl <;> rfl
theorem lets_more {n i : Nat} {s : ByteArray} (h : s.data.toList = lets n i) : (s ++ (⟨#[97, 98, 99, 100]⟩ : ByteArray).extract (i % n % 4) (i % n % 4 + 1)).data.toList = lets n (i + 1) := by
  rw [ByteArray.data_append, Array.toList_append, h, abcd_at (Nat.mod_lt _ (by decide)), lets_snoc]
theorem u8_in {a : Int} (h : (Lit.int .u8 a).wf = true) : 0 ≤ a ∧ a ≤ 255 := by
  unfold Lit.wf at h
  rw [Bool.and_eq_true, decide_eq_true_eq, decide_eq_true_eq] at h
  have h1 : IntKind.u8.min = 0 := by decide
  have h2 : IntKind.u8.max = 255 := by decide
  omega
theorem okB_odd {n : Nat} {g : Int} {j : Nat} (h1 : 1 ≤ n) (h2 : n ≤ 10) (hp : n % 2 = 1) (hl : leastF n (2 ^ n) none = some (g, j)) :
    g = 0 ∧ (faces n (sgOf n j)).length = n + 2 ∧ (n = 1 ∨ (((faces n (sgOf n j)).filter fun l => l.length == n).length = 2 ∧ ((faces n (sgOf n j)).filter fun l => l.length == 2).length = n)) := by
  have h := okB_all h1 h2
  unfold okB at h
  rw [hl] at h
  have hp' : (n % 2 == 1) = true := by simpa using hp
  simp only [hp', if_true] at h
  simp only [Bool.and_eq_true, Bool.or_eq_true, beq_iff_eq] at h
  exact ⟨h.1.1, h.1.2, h.2⟩
theorem okB_even {n : Nat} {g : Int} {j : Nat} (h1 : 1 ≤ n) (h2 : n ≤ 10) (hp : n % 2 = 0) (hl : leastF n (2 ^ n) none = some (g, j)) : g ≠ 0 := by
  have h := okB_all h1 h2
  unfold okB at h
  rw [hl] at h
  have hp' : (n % 2 == 1) = false := by simp [hp]
  simp only [hp'] at h
  simpa using h
theorem plane_odd (n wb wc : Nat) (w : World) (hn : 1 ≤ n ∧ n ≤ 10) (hp : n % 2 = 1) (hw : Wrd w n 0 wb) :
    Calls Tryd.prog 5 #[.slice (some ⟨wb, 0, none⟩) (2 * n) wc] w fun e w' => ∃ j sgb sc, e = .returned (.tuple #[.slice (some ⟨sgb, 0, none⟩) n sc, .int .i64 0]) ∧ Hid (Sgs w' n (sgOf n j) sgb) ∧ Hid (gen n (sgOf n j) = 0) ∧ Hid ((faces n (sgOf n j)).length = n + 2 ∧ (n = 1 ∨ (((faces n (sgOf n j)).filter fun l => l.length == n).length = 2 ∧ ((faces n (sgOf n j)).filter fun l => l.length == 2).length = n))) ∧ Below w.heap.size w w' := by
  refine (plane_any n wb wc w hn hw).mono ?_
  rintro e w' ⟨x, rfl, ⟨g, j, hl, hc⟩, hb⟩
  obtain ⟨h0, h1, h2⟩ := okB_odd hn.1 hn.2 hp hl
  rcases hc with ⟨_, u, rfl, ho⟩ | ⟨hg, _⟩
  · obtain ⟨sgb, sc, rfl, -⟩ := ownV_some ho (by rw [sgl_len]; omega)
    rw [sgl_len] at ho ⊢
    refine ⟨j, sgb, sc, rfl, fun x hx => ?_, ?_, ⟨h1, h2⟩, hb⟩
    · have h := ownV_cell ho x (by rw [sgl_len]; exact hx)
      rw [sgl_at _ _ _ hx] at h
      exact h
    · show gen n (sgOf n j) = 0
      unfold gen
      rw [h1]
      have e : (n : Int) + 2 - ((n + 2 : Nat) : Int) = 0 := by omega
      rw [e]; rfl
  · exact absurd h0 hg
theorem plane_even (n wb wc : Nat) (w : World) (hn : 1 ≤ n ∧ n ≤ 10) (hp : n % 2 = 0) (hw : Wrd w n 0 wb) :
    Calls Tryd.prog 5 #[.slice (some ⟨wb, 0, none⟩) (2 * n) wc] w fun e w' => e = .returned (.tuple #[.slice none 0 0, .int .i64 5]) ∧ Below w.heap.size w w' := by
  refine (plane_any n wb wc w hn hw).mono ?_
  rintro e w' ⟨x, rfl, ⟨g, j, hl, hc⟩, hb⟩
  have h0 := okB_even hn.1 hn.2 hp hl
  rcases hc with ⟨hg, _⟩ | ⟨_, rfl⟩
  · exact absurd hg h0
  · exact ⟨rfl, hb⟩
/-- the word, turned by r -/
def rotB (n m r : Nat) : List Value := ((brd n m).drop r).take (m - r) ++ ((brd n m).drop 0).take (r - 0)
theorem rotB_len {n m r : Nat} (h : r < m) : (rotB n m r).length = m := by
  unfold rotB
  rw [List.length_append, List.length_take, List.length_take, List.length_drop, List.length_drop, brd_len]; omega
theorem rotB_at {n r i : Nat} (hr : r < 2 * n) (hi : i < 2 * n) : (rotB n (2 * n) r).getD i undef = iv ((i + r % n) % n) := by
  unfold rotB
  rw [List.getD_eq_getElem?_getD]
  by_cases h : i < 2 * n - r
  · rw [List.getElem?_append_left (by rw [List.length_take, List.length_drop, brd_len]; omega), List.getElem?_take_of_lt h, List.getElem?_drop, ← List.getD_eq_getElem?_getD, brd_at (by omega), Nat.add_mod_mod, Nat.add_comm]
  · have e : (((brd n (2 * n)).drop r).take (2 * n - r)).length = 2 * n - r := by rw [List.length_take, List.length_drop, brd_len]; omega
    rw [List.getElem?_append_right (by rw [e]; omega), e, List.getElem?_take_of_lt (by omega), List.getElem?_drop, ← List.getD_eq_getElem?_getD, brd_at (by omega), Nat.add_mod_mod]
    have e2 : i + r = 0 + (i - (2 * n - r)) + 2 * n := by omega
    rw [e2, show 2 * n = n * 2 by omega, Nat.add_mul_mod_self_left]
section
variable {md : Region.Mode} {ops : Array Oper} {Q : Exit → Act → World → Prop} {S : World → Prop} {fuel : Nat} {listed : Array Bool} {a : Act} {w : World} {i : Nat} {o : Oper} {rs : List Nat}
theorem node_f6 (d : Nat) (k1 : Nat) (v1 : Value) (hi : ops[i]? = some o) (hgd : Region.wanted o (yielded ops a.tmps) = true) (ho : o.op = .call { callee := .value (.func 6), args := #[.tmp k1], argTypes := #[22] }) (hd : o.dst = some d)
    (hp1 : a.tmps[k1]?.getD undef = v1)
    (h : Calls Tryd.prog 6 #[v1] w fun e w' => ∃ u, e = .returned u ∧ S w' ∧ wpAnyH Tryd.prog md ops Q S fuel (listed.setIfInBounds i true) (a.put (some d) u) w')
    (hs : AllReadyH Tryd.prog md ops Q S fuel listed a w rs) : AllReadyH Tryd.prog md ops Q S fuel listed a w (i :: rs) := by
  refine AllReadyH.cons hi (fun K hK => ?_) hs
  rw [if_pos hgd]
  unfold Oper.wp execOp
  simp [ho, go_sem, hp1]
  refine h.mono ?_
  rintro e w' ⟨u, rfl, h1, h2⟩
  have hk := hK.out _ _ h1 (fun _ => h2)
  rw [hd]
  exact hk
end
theorem brd_one (n m : Nat) : ∀ u ∈ brd n m, u.oneCell' = true := fun u hu => by
  unfold brd at hu
  rw [List.mem_map] at hu
  obtain ⟨_, _, rfl⟩ := hu; rfl
theorem take_contains {pl : List Nat} {k n : Nat} (h : k < pl.length) : (pl.take (k + 1)).contains n = ((pl.take k).contains n || (pl.getD k 0 == n)) := by
  rw [List.take_succ_eq_append_getElem h, List.contains_eq_any_beq, List.contains_eq_any_beq, List.any_append, List.getD_eq_getElem?_getD, List.getElem?_eq_getElem h]
  simp [Bool.beq_comm, eq_comm]
theorem filt_more {α : Type} [Inhabited α] (p : List α → Bool) {L : List (List α)} {v : Nat} (h : v < L.length) : ((L.take (v + 1)).filter p).length = ((L.take v).filter p).length + if p (L.getD v []) = true then 1 else 0 := by
  rw [List.take_succ_eq_append_getElem h, List.filter_append, List.length_append, List.getD_eq_getElem?_getD, List.getElem?_eq_getElem h]
  congr 1
  simp only [Option.getD_some, List.filter_cons, List.filter_nil]
  split <;> rfl
theorem filt_le {α : Type} (p : List α → Bool) (L : List (List α)) (v : Nat) : ((L.take v).filter p).length ≤ v := Nat.le_trans (List.length_filter_le _ _) (List.length_take_le _ _)
set_option maxRecDepth 100000 in
set_option maxHeartbeats 8000000 in
theorem TopBraids_ok (a b : Int) (w : World) (ha : (Lit.int .u8 a).wf = true) (hb : (Lit.int .u8 b).wf = true) :
    Calls Tryd.prog 3 #[.int .u8 a, .int .u8 b] w fun e w' => e = .returned (.bool true) ∧ Below w.heap.size w w' := by
  have ha2 := u8_in ha
  have hb2 := u8_in hb
  clear ha hb
  obtain ⟨ax, rfl⟩ : ∃ x : Nat, a = x := ⟨a.toNat, by omega⟩
  obtain ⟨bx, rfl⟩ : ∃ x : Nat, b = x := ⟨b.toNat, by omega⟩
  obtain ⟨ha3, ha4⟩ := ha2
  obtain ⟨hb3, hb4⟩ := hb2
  obtain ⟨k, hk⟩ : ∃ k : Nat, (ax : Int) % 10 = (k : Int) := ⟨ax % 10, by omega⟩
  have hk9 : k ≤ 9 := by omega
  obtain ⟨n, hn⟩ : ∃ n : Nat, (k : Int) + 1 = (n : Int) := ⟨k + 1, by omega⟩
  have hn1 : 1 ≤ n := by omega
  have hn10 : n ≤ 10 := by omega
  have HN : Hid (1 ≤ n ∧ n ≤ 10) := ⟨hn1, hn10⟩
  obtain ⟨m, hm⟩ : ∃ m, m = 2 * n := ⟨_, rfl⟩
  have HM := hid hm
  have hm2 : 2 ≤ m := by omega
  have hm20 : m ≤ 20 := by omega
  clear hm
  have HB1 := hid (ba w (.cells #[] 3))
  have HO1 := hid (ownV_made w w.heap.size 3 (Nat.le_refl _))
  go_enter Tryd.func3, Tryd.ntmps3
  go_upto_region 4 with fail
  clear hk hn
  generalize w.alloc (.cells #[] 3) = w1 at *
  have HW0 : Hid (w.heap.size ≤ w1.heap.size) := HB1.out.size
  go_loopw [6, 7, 8] (fun wv tv iv wr => ∃ (i : Nat) (s : ByteArray), iv = .int .i64 i ∧ i ≤ m ∧ Hid (OwnV wr w.heap.size 3 wv (brd n i)) ∧ tv = .string s ∧ Hid (s.data.toList = lets n i) ∧ Hid (Below w.heap.size w wr)) (fun _ _ iv _ => m - (intOf iv).toNat)
  case atStart => exact ⟨0, _, rfl, Nat.zero_le _, HO1.out, rfl, rfl, HB1⟩
  case round =>
    obtain ⟨i, s, rfl, hi, HO, rfl, HSL, HBr⟩ := hrel
    rename World => wr
    have hm2i : 2 * (n : Int) = (m : Int) := by have := HM.out; omega
    by_cases hlt : i < m
    · obtain ⟨oa, on, oc, rfl⟩ := ownV_sh HO.out
      obtain ⟨y, hy⟩ : ∃ y, y = i % n := ⟨_, rfl⟩
      obtain ⟨z, hz⟩ : ∃ z, z = y % 4 := ⟨_, rfl⟩
      have hss : s.size ≤ 20 := by
        have e : s.data.toList.length = s.size := rfl
        rw [HSL.out, lets_len] at e; omega
      have hyn : y < n := by rw [hy]; exact Nat.mod_lt _ hn1
      have hz4 : z < 4 := by omega
      have HT1 : Hid ((i : Int).tmod (n : Int) = (y : Int)) := by show _ = _; rw [Int.tmod_eq_emod_of_nonneg (by omega), hy]; exact (Int.natCast_emod i n).symm
      have HT2 : Hid ((y : Int).tmod 4 = (z : Int)) := by show _ = _; rw [Int.tmod_eq_emod_of_nonneg (by omega)]; omega
      have HLN : Hid ((brd n i).length < 1000000) := by show _ < _; rw [brd_len]; omega
      have HBS : Hid (brd n i ++ [.int .i64 (y : Int)] = brd n (i + 1)) := by rw [hy]; exact brd_snoc n i
      have HSN : Hid ((s ++ (⟨#[97, 98, 99, 100]⟩ : ByteArray).extract z (z + 1)).data.toList = lets n (i + 1)) := by rw [hz, hy]; exact lets_more HSL.out
      have hiy : (i : Int) % (n : Int) = (y : Int) := by rw [hy]; exact (Int.natCast_emod i n).symm
      clear hy hz
      go_upto_region 7 with (first
        | (at_builtin; refine wpl_app_int (y : Int) _ _ (.slice oa on oc) w.heap.size (brd n i) (by rfl) (by rfl) (by rfl) (by rfl) HO.out HLN.out HBr.out.size ?_; intro v' w7 ho7 hb7 hg7; have HO7 : Hid (OwnV w7 w.heap.size 3 v' (brd n (i + 1))) := (by rw [← HBS.out]; exact ho7); have HB7 := hid (HBr.out.trans hb7); obtain ⟨sa, sn, sc, rfl⟩ := ownV_sh ho7; clear ho7 hb7 hg7)
        | fail)
      clear hiy
      refine wp_region_held_drew (S := fun w' => True) (by kernel_rfl) trivial (fun hHeld => ?_)
      have HB8 := hid (HB7.out.drew)
      have HO8 := hid (ownV_below HO7.out (Below.refl _ w7).drew)
      generalize w7.drew = u0 at *
      refine take_at (i := 0) 46 (v := .string s) rfl (by kernel_rfl) (by kernel_rfl) (by kernel_rfl) rfl (fun _ _ _ h => h) (by rfl) (fun w hSw => ?_) hHeld ?_
      · (try dsimp only at hSw); go_simp
      simp only [Act.put, List.setIfInBounds_toArray, List.set_cons_zero, List.set_cons_succ]
      refine take_at (i := 1) 47 (v := .int .i64 (i : Int)) rfl (by kernel_rfl) (by kernel_rfl) (by kernel_rfl) rfl (fun _ _ _ h => h) (by rfl) (fun w hSw => ?_) hHeld ?_
      · (try dsimp only at hSw); go_simp
      simp only [Act.put, List.setIfInBounds_toArray, List.set_cons_zero, List.set_cons_succ]
      refine take_at (i := 2) 48 (v := .int .i64 (n : Int)) rfl (by kernel_rfl) (by kernel_rfl) (by kernel_rfl) rfl (fun _ _ _ h => h) (by rfl) (fun w hSw => ?_) hHeld ?_
      · (try dsimp only at hSw); go_simp
      simp only [Act.put, List.setIfInBounds_toArray, List.set_cons_zero, List.set_cons_succ]
      refine take_at (i := 3) 49 (v := .int .i64 (y : Int)) rfl (by kernel_rfl) (by kernel_rfl) (by kernel_rfl) rfl (fun _ _ _ h => h) (by rfl) (fun w hSw => ?_) hHeld ?_
      · (try dsimp only at hSw); go_simp; first | done | (rw [if_neg (by omega), HT1.out])
      simp only [Act.put, List.setIfInBounds_toArray, List.set_cons_zero, List.set_cons_succ]
      refine take_at (i := 4) 50 (v := .int .i64 (z : Int)) rfl (by kernel_rfl) (by kernel_rfl) (by kernel_rfl) rfl (fun _ _ _ h => h) (by rfl) (fun w hSw => ?_) hHeld ?_
      · (try dsimp only at hSw); go_simp; first | done | (rw [HT2.out])
      simp only [Act.put, List.setIfInBounds_toArray, List.set_cons_zero, List.set_cons_succ]
      refine take_at (i := 5) 51 (v := .int .i64 (i : Int)) rfl (by kernel_rfl) (by kernel_rfl) (by kernel_rfl) rfl (fun _ _ _ h => h) (by rfl) (fun w hSw => ?_) hHeld ?_
      · (try dsimp only at hSw); go_simp
      simp only [Act.put, List.setIfInBounds_toArray, List.set_cons_zero, List.set_cons_succ]
      refine take_at (i := 6) 52 (v := .int .i64 (n : Int)) rfl (by kernel_rfl) (by kernel_rfl) (by kernel_rfl) rfl (fun _ _ _ h => h) (by rfl) (fun w hSw => ?_) hHeld ?_
      · (try dsimp only at hSw); go_simp
      simp only [Act.put, List.setIfInBounds_toArray, List.set_cons_zero, List.set_cons_succ]
      refine take_at (i := 7) 53 (v := .int .i64 (y : Int)) rfl (by kernel_rfl) (by kernel_rfl) (by kernel_rfl) rfl (fun _ _ _ h => h) (by rfl) (fun w hSw => ?_) hHeld ?_
      · (try dsimp only at hSw); go_simp; first | done | (rw [if_neg (by omega), HT1.out])
      simp only [Act.put, List.setIfInBounds_toArray, List.set_cons_zero, List.set_cons_succ]
      refine take_at (i := 8) 54 (v := .int .i64 (z : Int)) rfl (by kernel_rfl) (by kernel_rfl) (by kernel_rfl) rfl (fun _ _ _ h => h) (by rfl) (fun w hSw => ?_) hHeld ?_
      · (try dsimp only at hSw); go_simp; first | done | (rw [HT2.out])
      simp only [Act.put, List.setIfInBounds_toArray, List.set_cons_zero, List.set_cons_succ]
      refine take_at (i := 9) 55 (v := .int .i64 ((z : Int) + 1)) rfl (by kernel_rfl) (by kernel_rfl) (by kernel_rfl) rfl (fun _ _ _ h => h) (by rfl) (fun w hSw => ?_) hHeld ?_
      · (try dsimp only at hSw); go_simp; first | done | (rw [IntKind.wrap_i64]; omega)
      simp only [Act.put, List.setIfInBounds_toArray, List.set_cons_zero, List.set_cons_succ]
      refine take_at (i := 10) 56 (v := .string ((⟨#[97, 98, 99, 100]⟩ : ByteArray).extract z (z + 1))) rfl (by kernel_rfl) (by kernel_rfl) (by kernel_rfl) rfl (fun _ _ _ h => h) (by rfl) (fun w hSw => ?_) hHeld ?_
      · (try dsimp only at hSw); rw [show ((z : Int) + 1) = ((z + 1 : Nat) : Int) by omega]; go_simp; rw [if_pos ⟨by omega, by omega⟩, if_pos (by omega)]
      simp only [Act.put, List.setIfInBounds_toArray, List.set_cons_zero, List.set_cons_succ]
      refine take_at (i := 11) 57 (v := .string (s ++ (⟨#[97, 98, 99, 100]⟩ : ByteArray).extract z (z + 1))) rfl (by kernel_rfl) (by kernel_rfl) (by kernel_rfl) rfl (fun _ _ _ h => h) (by rfl) (fun w hSw => ?_) hHeld ?_
      · (try dsimp only at hSw); go_simp; first | done | omega
      simp only [Act.put, List.setIfInBounds_toArray, List.set_cons_zero, List.set_cons_succ]
      refine take_at (i := 12) 7 (v := .string (s ++ (⟨#[97, 98, 99, 100]⟩ : ByteArray).extract z (z + 1))) rfl (by kernel_rfl) (by kernel_rfl) (by kernel_rfl) rfl (fun _ _ _ h => h) (by rfl) (fun w hSw => ?_) hHeld ?_
      · (try dsimp only at hSw); go_simp
      simp only [Act.put, List.setIfInBounds_toArray, List.set_cons_zero, List.set_cons_succ]
      refine wpAnyH_done (by kernel_rfl) ?_ _
      clear hHeld
      go_wp2_with fail
      go_roundw
      case rel => exact ⟨i + 1, _, by go_num, by omega, HO8.out, rfl, HSN.out, HB8⟩
      case measure => simp [intOf]; omega
    · obtain rfl : m = i := by omega
      have HMI := hid hm2i
      clear hlt hi
      obtain ⟨wb, wc, rfl, -⟩ := ownV_some HO.out (by rw [brd_len]; omega)
      have hwc := ownV_capN HO.out
      rw [brd_len] at HO hwc ⊢
      have HWO := HO
      have HWD : Hid (∀ w', Below wr.heap.size wr w' → Wrd w' n 0 wb) := fun w' hb i hi => by
        have h := ownV_cell (ownV_below HO.out hb) i (by rw [brd_len, HM.out]; exact hi)
        rw [brd_at (by rw [HM.out]; exact hi)] at h
        rw [h]; rfl
      have HWRW : Hid (w.heap.size ≤ wr.heap.size) := HBr.out.size
      rcases (show n % 2 = 1 ∨ n % 2 = 0 by omega) with hp | hp
      · have DR : Hid (Calls Tryd.prog 4 #[.slice (some ⟨wb, 0, none⟩) m wc] wr fun e w'' => e = .returned (.tuple #[.bool true, .int .i64 0]) ∧ Below wr.heap.size wr w'') := by rw [HM.out]; exact drawn_odd n wb wc wr HN.out hp (HWD.out wr (Below.refl _ _))
        have PL : Hid (∀ w', Below wr.heap.size wr w' → Calls Tryd.prog 5 #[.slice (some ⟨wb, 0, none⟩) m wc] w' fun e w'' => ∃ j sgb sc, e = .returned (.tuple #[.slice (some ⟨sgb, 0, none⟩) n sc, .int .i64 0]) ∧ Hid (Sgs w'' n (sgOf n j) sgb) ∧ Hid (gen n (sgOf n j) = 0) ∧ Hid ((faces n (sgOf n j)).length = n + 2 ∧ (n = 1 ∨ (((faces n (sgOf n j)).filter fun l => l.length == n).length = 2 ∧ ((faces n (sgOf n j)).filter fun l => l.length == 2).length = n))) ∧ Below w'.heap.size w' w'') := fun w' hb => by rw [HM.out]; exact plane_odd n wb wc w' HN.out hp (HWD.out w' hb)
        go_upto_region 10 with (first | (go_at_call 4; refine DR.out.mono ?_; rintro e w2 ⟨rfl, hb2⟩; have HB2 := hid hb2; clear hb2) | (go_at_call 5; refine (PL.out w2 HB2.out).mono ?_; rintro e w3 ⟨j, sgb, sc, rfl, HSG, HGN, HFL, hb3⟩; have HB3 := hid (below_step HB2.out hb3); clear hb3) | fail)
        clear DR PL
        obtain ⟨r1, hr1e⟩ : ∃ r, r = bx % m := ⟨_, rfl⟩
        have hr1 : r1 < m := by rw [hr1e]; exact Nat.mod_lt _ (by omega)
        have HR1 : Hid ((bx : Int).tmod (m : Int) = (r1 : Int)) := by show _ = _; rw [Int.tmod_eq_emod_of_nonneg (by omega), hr1e]; exact (Int.natCast_emod bx m).symm
        clear hr1e
        refine wp_region_held_drew (S := fun w' => True) (by kernel_rfl) trivial (fun hHeld => ?_)
        have HBU := hid (HB3.out.drew)
        have HSU : Hid (Below w3.heap.size w3 w3.drew) := (Below.refl _ w3).drew
        generalize w3.drew = u0 at *
        refine take_at (i := 1) 70 (v := .slice (some ⟨wb, 0, none⟩) m wc) rfl (by kernel_rfl) (by kernel_rfl) (by kernel_rfl) rfl (fun _ _ _ h => h) (by rfl) (fun w hSw => ?_) hHeld ?_
        · (try dsimp only at hSw); go_simp
        simp only [Act.put, List.setIfInBounds_toArray, List.set_cons_zero, List.set_cons_succ]
        refine take_at (i := 2) 71 (v := .int .u8 (bx : Int)) rfl (by kernel_rfl) (by kernel_rfl) (by kernel_rfl) rfl (fun _ _ _ h => h) (by rfl) (fun w hSw => ?_) hHeld ?_
        · (try dsimp only at hSw); go_simp
        simp only [Act.put, List.setIfInBounds_toArray, List.set_cons_zero, List.set_cons_succ]
        refine take_at (i := 3) 72 (v := .int .i64 (bx : Int)) rfl (by kernel_rfl) (by kernel_rfl) (by kernel_rfl) rfl (fun _ _ _ h => h) (by rfl) (fun w hSw => ?_) hHeld ?_
        · (try dsimp only at hSw); go_simp; first | done | (rw [IntKind.wrap_i64]; omega) | (simp; omega)
        simp only [Act.put, List.setIfInBounds_toArray, List.set_cons_zero, List.set_cons_succ]
        refine take_at (i := 4) 73 (v := .slice (some ⟨wb, 0, none⟩) m wc) rfl (by kernel_rfl) (by kernel_rfl) (by kernel_rfl) rfl (fun _ _ _ h => h) (by rfl) (fun w hSw => ?_) hHeld ?_
        · (try dsimp only at hSw); go_simp
        simp only [Act.put, List.setIfInBounds_toArray, List.set_cons_zero, List.set_cons_succ]
        refine take_at (i := 5) 74 (v := .int .i64 (m : Int)) rfl (by kernel_rfl) (by kernel_rfl) (by kernel_rfl) rfl (fun _ _ _ h => h) (by rfl) (fun w hSw => ?_) hHeld ?_
        · (try dsimp only at hSw); go_simp
        simp only [Act.put, List.setIfInBounds_toArray, List.set_cons_zero, List.set_cons_succ]
        refine take_at (i := 6) 75 (v := .int .i64 (r1 : Int)) rfl (by kernel_rfl) (by kernel_rfl) (by kernel_rfl) rfl (fun _ _ _ h => h) (by rfl) (fun w hSw => ?_) hHeld ?_
        · (try dsimp only at hSw); go_simp; first | done | (rw [if_neg (by omega), HR1.out])
        simp only [Act.put, List.setIfInBounds_toArray, List.set_cons_zero, List.set_cons_succ]
        refine take_at (i := 7) 76 (v := .slice (some ⟨wb, r1, none⟩) (m - r1) (wc - r1)) rfl (by kernel_rfl) (by kernel_rfl) (by kernel_rfl) rfl (fun _ _ _ h => h) (by rfl) (fun w hSw => ?_) hHeld ?_
        · (try dsimp only at hSw); go_simp; rw [if_pos (by omega), if_neg (by omega)]
        simp only [Act.put, List.setIfInBounds_toArray, List.set_cons_zero, List.set_cons_succ]
        refine take_at (i := 9) 78 (v := .slice (some ⟨wb, 0, none⟩) m wc) rfl (by kernel_rfl) (by kernel_rfl) (by kernel_rfl) rfl (fun _ _ _ h => h) (by rfl) (fun w hSw => ?_) hHeld ?_
        · (try dsimp only at hSw); go_simp
        simp only [Act.put, List.setIfInBounds_toArray, List.set_cons_zero, List.set_cons_succ]
        refine take_at (i := 10) 79 (v := .int .u8 (bx : Int)) rfl (by kernel_rfl) (by kernel_rfl) (by kernel_rfl) rfl (fun _ _ _ h => h) (by rfl) (fun w hSw => ?_) hHeld ?_
        · (try dsimp only at hSw); go_simp
        simp only [Act.put, List.setIfInBounds_toArray, List.set_cons_zero, List.set_cons_succ]
        refine take_at (i := 11) 80 (v := .int .i64 (bx : Int)) rfl (by kernel_rfl) (by kernel_rfl) (by kernel_rfl) rfl (fun _ _ _ h => h) (by rfl) (fun w hSw => ?_) hHeld ?_
        · (try dsimp only at hSw); go_simp; first | done | (rw [IntKind.wrap_i64]; omega) | (simp; omega)
        simp only [Act.put, List.setIfInBounds_toArray, List.set_cons_zero, List.set_cons_succ]
        refine take_at (i := 12) 81 (v := .slice (some ⟨wb, 0, none⟩) m wc) rfl (by kernel_rfl) (by kernel_rfl) (by kernel_rfl) rfl (fun _ _ _ h => h) (by rfl) (fun w hSw => ?_) hHeld ?_
        · (try dsimp only at hSw); go_simp
        simp only [Act.put, List.setIfInBounds_toArray, List.set_cons_zero, List.set_cons_succ]
        refine take_at (i := 13) 82 (v := .int .i64 (m : Int)) rfl (by kernel_rfl) (by kernel_rfl) (by kernel_rfl) rfl (fun _ _ _ h => h) (by rfl) (fun w hSw => ?_) hHeld ?_
        · (try dsimp only at hSw); go_simp
        simp only [Act.put, List.setIfInBounds_toArray, List.set_cons_zero, List.set_cons_succ]
        refine take_at (i := 14) 83 (v := .int .i64 (r1 : Int)) rfl (by kernel_rfl) (by kernel_rfl) (by kernel_rfl) rfl (fun _ _ _ h => h) (by rfl) (fun w hSw => ?_) hHeld ?_
        · (try dsimp only at hSw); go_simp; first | done | (rw [if_neg (by omega), HR1.out])
        simp only [Act.put, List.setIfInBounds_toArray, List.set_cons_zero, List.set_cons_succ]
        refine take_at (i := 15) 84 (v := .slice (some ⟨wb, 0, none⟩) (r1 - 0) wc) rfl (by kernel_rfl) (by kernel_rfl) (by kernel_rfl) rfl (fun _ _ _ h => h) (by rfl) (fun w hSw => ?_) hHeld ?_
        · (try dsimp only at hSw); go_simp; first | done | omega | (rw [if_pos (by omega)]) | (simp; omega)
        simp only [Act.put, List.setIfInBounds_toArray, List.set_cons_zero, List.set_cons_succ]
        refine wpAnyH_ready (rs := [0]) (by kernel_rfl) (by simp) ?_
        refine node_none22 69 rfl rfl rfl rfl trivial (fun hHeld => ?_) AllReadyH.nil
        · have HB4 : Hid (Below wr.heap.size wr (u0.alloc (.cells #[] 3))) := hid (HBU.out.alloc HBU.out.size _)
          have HS4 : Hid (Below w3.heap.size w3 (u0.alloc (.cells #[] 3))) := hid (HSU.out.alloc HSU.out.size _)
          have HE4 := hid (ownV_made u0 w3.heap.size 3 HSU.out.size)
          have HW4 := hid (ownV_below HWO.out HB4.out)
          have HRA := hid (ownV_rd HW4.out (brd_one n m) r1 m (by omega) (by rw [brd_len]; exact Nat.le_refl _) (wc - r1))
          generalize u0.alloc (.cells #[] 3) = u4 at *
          generalize u0.heap.size = eb at *
          simp only [Act.put, List.setIfInBounds_toArray, List.set_cons_zero, List.set_cons_succ]
          refine wpAnyH_ready (rs := [8]) (by kernel_rfl) (by simp) ?_
          refine node_app22n 77 w3.heap.size 69 76 (.slice (some ⟨eb, 0, none⟩) 0 0) [] _ (m - r1) _ rfl rfl rfl rfl rfl rfl HRA.out HE4.out HS4.out.size ⟨by simp, by omega⟩ ?_ AllReadyH.nil
          · intro v5 u5 ho5 hg5
            rw [List.nil_append] at ho5
            have HS5 := hid (Below.grown HS4.out hg5 HS4.out.size (fun b hb => (ownV_lt HE4.out b hb).1))
            have HB5 := hid (HB3.out.trans (HS5.out.mono HB3.out.size))
            have HO5 := hid ho5
            have HW5 := hid (ownV_below HWO.out HB5.out)
            have HRB := hid (ownV_rd HW5.out (brd_one n m) 0 r1 (by omega) (by rw [brd_len]; omega) wc)
            obtain ⟨qa, qn, qc, rfl⟩ := ownV_sh ho5
            clear ho5 hg5
            refine ⟨trivial, ?_⟩
            simp only [Act.put, List.setIfInBounds_toArray, List.set_cons_zero, List.set_cons_succ]
            refine wpAnyH_ready (rs := [16]) (by kernel_rfl) (by simp) ?_
            refine node_app22n 85 w3.heap.size 77 84 (.slice qa qn qc) _ _ (r1 - 0) _ rfl rfl rfl rfl rfl rfl HRB.out HO5.out HS5.out.size ⟨by rw [List.length_take, List.length_drop, brd_len]; omega, by omega⟩ ?_ AllReadyH.nil
            · intro v6 u6 ho6 hg6
              have ho6 : OwnV u6 w3.heap.size 3 v6 (rotB n m r1) := ho6
              have HS6 := hid (Below.grown HS5.out hg6 HS5.out.size (fun b hb => (ownV_lt HO5.out b hb).1))
              have HB6 := hid (HB3.out.trans (HS6.out.mono HB3.out.size))
              obtain ⟨rb, rc, rfl, -⟩ := ownV_some ho6 (by rw [rotB_len hr1]; omega)
              have hrc := ownV_capN ho6
              rw [rotB_len hr1] at ho6 hrc
              rw [rotB_len hr1]
              have CN := hid (canon_any n (r1 % n) rb rc u6 HN.out (Nat.mod_lt _ hn1) (by rw [← HM.out]; exact hrc) (fun i hi => by have h := ownV_cell ho6 i (by rw [rotB_len hr1, HM.out]; exact hi); rw [HM.out, rotB_at (by rw [← HM.out]; exact hr1) hi] at h; exact h))
              rw [← HM.out] at CN
              clear ho6 hg6 hrc
              refine ⟨trivial, ?_⟩
              simp only [Act.put, List.setIfInBounds_toArray, List.set_cons_zero, List.set_cons_succ]
              refine wpAnyH_ready (rs := [17]) (by kernel_rfl) (by simp) ?_
              refine node_f6 86 85 (.slice (some ⟨rb, 0, none⟩) m rc) rfl rfl rfl rfl rfl ?_ AllReadyH.nil
              · refine CN.out.mono ?_
                rintro e w7 ⟨v7, rfl, ho7, hb7⟩
                have HB7 := hid (below_step HB6.out hb7)
                have HS7 := hid (below_step HS6.out hb7)
                obtain ⟨cg, cc, rfl, -⟩ := ownV_some ho7 (by rw [brd_len]; omega)
                rw [brd_len] at ho7
                rw [brd_len]
                have HC7 := hid ho7
                clear ho7 hb7
                refine ⟨_, rfl, trivial, ?_⟩
                simp only [Act.put, List.setIfInBounds_toArray, List.set_cons_zero, List.set_cons_succ]
                refine take_at (i := 18) 68 (v := .tuple #[.slice (some ⟨cg, 0, none⟩) m cc, .int .i64 0]) rfl (by kernel_rfl) (by kernel_rfl) (by kernel_rfl) rfl (fun _ _ _ h => h) (by rfl) (fun w hSw => ?_) hHeld ?_
                · (try dsimp only at hSw); go_simp
                simp only [Act.put, List.setIfInBounds_toArray, List.set_cons_zero, List.set_cons_succ]
                refine take_at (i := 19) 87 (v := .slice (some ⟨cg, 0, none⟩) m cc) rfl (by kernel_rfl) (by kernel_rfl) (by kernel_rfl) rfl (fun _ _ _ h => h) (by rfl) (fun w hSw => ?_) hHeld ?_
                · (try dsimp only at hSw); go_simp
                simp only [Act.put, List.setIfInBounds_toArray, List.set_cons_zero, List.set_cons_succ]
                refine take_at (i := 20) 88 (v := .int .i64 0) rfl (by kernel_rfl) (by kernel_rfl) (by kernel_rfl) rfl (fun _ _ _ h => h) (by rfl) (fun w hSw => ?_) hHeld ?_
                · (try dsimp only at hSw); go_simp
                simp only [Act.put, List.setIfInBounds_toArray, List.set_cons_zero, List.set_cons_succ]
                refine take_at (i := 21) 13 (v := .slice (some ⟨cg, 0, none⟩) m cc) rfl (by kernel_rfl) (by kernel_rfl) (by kernel_rfl) rfl (fun _ _ _ h => h) (by rfl) (fun w hSw => ?_) hHeld ?_
                · (try dsimp only at hSw); go_simp
                simp only [Act.put, List.setIfInBounds_toArray, List.set_cons_zero, List.set_cons_succ]
                refine take_at (i := 22) 14 (v := .int .i64 0) rfl (by kernel_rfl) (by kernel_rfl) (by kernel_rfl) rfl (fun _ _ _ h => h) (by rfl) (fun w hSw => ?_) hHeld ?_
                · (try dsimp only at hSw); go_simp
                simp only [Act.put, List.setIfInBounds_toArray, List.set_cons_zero, List.set_cons_succ]
                refine wpAnyH_done (by kernel_rfl) ?_ _
                clear hHeld
                have PR : Hid (Calls Tryd.prog 7 #[.slice (some ⟨wb, 0, none⟩) m wc] w7 fun e w'' => ∃ a c, e = .returned (.tuple #[.slice a (n * (n - 1) / 2) c, .int .i64 0]) ∧ Below w7.heap.size w7 w'') := by rw [HM.out]; exact pairs_any n wb wc w7 HN.out (HWD.out w7 HB7.out)
                obtain ⟨pp, hpp⟩ : ∃ p, p = n * (n - 1) / 2 := ⟨_, rfl⟩
                rw [← hpp] at PR
                have HPP := hid hpp
                clear hpp
                go_upto_region 12 with (first | (go_at_call 7; refine PR.out.mono ?_; rintro e w8 ⟨pa, pc, rfl, hb8⟩; have HB8 := hid (below_step HB7.out hb8); have HS8 := hid (below_step HS7.out hb8); have HC8 := hid (ownV_below HC7.out hb8); clear hb8) | fail)
                clear PR
                have SM := hid (same_any m cg cc wb wc (fun j => ((j % n : Nat) : Int)) w8 hm20 (fun j hj => by have h := ownV_cell HC8.out j (by rw [brd_len]; exact hj); rw [brd_at hj] at h; exact h) (fun j hj => by have h := HWD.out w8 HB8.out j (by rw [← HM.out]; exact hj); exact h))
                have hpar : (n : Int) % 2 = 1 := by omega
                obtain ⟨q, hq⟩ : ∃ q, q = n * (n - 1) := ⟨_, rfl⟩
                have hqn : (n : Int) * ((n : Int) - 1) = (q : Int) := by
                  rw [hq, Int.natCast_mul, Int.natCast_sub hn1]; rfl
                have hq90 : q ≤ 90 := by rw [hq]; exact Nat.le_trans (Nat.mul_le_mul hn10 (show n - 1 ≤ 9 by omega)) (by decide)
                have hqp : (q : Int) / 2 = (pp : Int) := by rw [HPP.out, ← hq]; omega
                clear hq
                have HSZ : Hid (s.size = m) := by
                  have e : s.data.toList.length = s.size := rfl
                  rw [HSL.out, lets_len] at e
                  exact e.symm
                have PD : Hid (∀ w', Calls Tryd.prog 9 #[.string s] w' fun e w'' => ∃ v, e = .returned (.tuple #[v, .int .i64 0]) ∧ OwnV w'' w'.heap.size 3 v ((pers (lets n m) m).map iv) ∧ Below w'.heap.size w' w'') := fun w' => by
                  have h := periods_any s w' (by rw [HSZ.out]; omega) (by rw [HSZ.out]; omega) (by rw [HSL.out, HM.out]; exact lets_all n (by omega))
                  rw [HSL.out, HSZ.out] at h
                  exact h
                have HMEM : Hid (n ∈ pers (lets n m) m) := pers_mem hn1 (by have := HM.out; omega) (by rw [HM.out]; exact lets_period n (by omega) hn1)
                have hpl := pers_len (lets n m) m
                generalize pers (lets n m) m = pl at *
                go_upto_region 15 with (first
                  | (go_at_call 8; refine SM.out.mono ?_; rintro e w9 ⟨rfl, hb9⟩; have HB9 := hid (below_step HB8.out hb9); have HS9 := hid (below_step HS8.out hb9); clear hb9)
                  | (go_at_call 9; refine (PD.out _).mono ?_; rintro e w10 ⟨v10, rfl, ho10, hb10⟩; have HB10 := hid (below_step HB9.out hb10); have HS10 := hid (below_step HS9.out hb10); obtain ⟨qg, qc', rfl, -⟩ := ownV_some ho10 (by rw [List.length_map]; exact List.length_pos_of_mem HMEM.out); have HO10 := hid ho10; clear ho10 hb10)
                  | fail)
                rw [List.length_map] at HO10
                clear hqn hqp hq90 SM PD
                obtain ⟨Q, hQ⟩ : ∃ Q, Q = pl.length := ⟨_, rfl⟩
                have HQ := hid hQ
                rw [← hQ] at hpl
                have hpar' := hid hpar
                clear hpar
                rw [← hQ] at HO10
                try rw [List.length_map]
                try rw [← hQ]
                clear hQ
                go_wp2_with fail
                go_loop [19, 20] (fun fv kv => ∃ k : Nat, kv = .int .i64 k ∧ k ≤ Q ∧ fv = .bool ((pl.take k).contains n)) (fun _ kv => Q - (intOf kv).toNat)
                case atStart => exact ⟨0, rfl, Nat.zero_le _, by simp⟩
                case round =>
                  obtain ⟨k2, rfl, hk2, rfl⟩ := hrel
                  by_cases hltk : k2 < Q
                  · have hk2l : k2 < pl.length := by rw [← HQ.out]; exact hltk
                    have HTS : Hid ((pl.take (k2 + 1)).contains n = ((pl.take k2).contains n || (pl.getD k2 0 == n))) := hid (take_contains hk2l)
                    have ck := ownV_cell HO10.out k2 (by rw [List.length_map]; exact hk2l)
                    replace ck : w10.cell? ⟨qg, k2, none⟩ = some (.int .i64 ((pl.getD k2 0 : Nat) : Int)) := by
                      rw [ck, List.getD_eq_getElem?_getD, List.getElem?_map, List.getElem?_eq_getElem hk2l, List.getD_eq_getElem?_getD, List.getElem?_eq_getElem hk2l]; rfl
                    clear hk2l
                    cases hbc : (pl.take k2).contains n with
                    | true =>
                      rw [hbc, Bool.true_or] at HTS
                      clear hbc ck
                      go_wp2_with fail
                      go_round
                      case rel => exact ⟨k2 + 1, by go_num, by omega, by rw [HTS.out]⟩
                      case measure => simp [intOf]; omega
                    | false =>
                      rw [hbc, Bool.false_or] at HTS
                      clear hbc
                      generalize pl.getD k2 0 = y at *
                      by_cases hyn : y = n
                      · have HYE : Hid ((y == n) = true) := by rw [hyn]; show (n == n) = true; simp
                        subst hyn
                        go_wp2_with fail
                        go_round
                        case rel => exact ⟨k2 + 1, by go_num, by omega, by rw [HTS.out, HYE.out]⟩
                        case measure => simp [intOf]; omega
                      · have hye : (y == n) = false := by simpa using hyn
                        have hyi : ((y : Int) == (n : Int)) = false := by simp; omega
                        have HYE := hid hye
                        go_wp2_with fail
                        go_round
                        case rel => exact ⟨k2 + 1, by go_num, by omega, by rw [HTS.out, HYE.out]⟩
                        case measure => simp [intOf]; omega
                  · obtain rfl : Q = k2 := by omega
                    have hct : (pl.take Q).contains n = true := by
                      rw [HQ.out, List.take_length]
                      simpa using HMEM.out
                    rw [hct]
                    clear hct
                    obtain ⟨sg, hsg⟩ : ∃ sg, sg = sgOf n j := ⟨_, rfl⟩
                    rw [← hsg] at HSG HGN HFL
                    clear hsg
                    have HSG10 := hid (HSG.out.below HS10.out)
                    have FC : Hid (Calls Tryd.prog 10 #[.slice (some ⟨wb, 0, none⟩) m wc, .slice (some ⟨sgb, 0, none⟩) n sc] w10 fun e w'' => ∃ u, e = .returned (.tuple #[u, .int .i64 0]) ∧ (∃ us, OwnFL n w'' w10.heap.size u us (faces n sg)) ∧ Below w10.heap.size w10 w'') := by rw [HM.out]; exact facesP_any n wb wc sg sgb sc w10 HN.out (HWD.out w10 HB10.out) HSG10.out
                    have KC : Hid (∀ w', Below w10.heap.size w10 w' → Calls Tryd.prog 11 #[.slice (some ⟨wb, 0, none⟩) m wc, .slice (some ⟨sgb, 0, none⟩) n sc] w' fun e w'' => ∃ x : Int, e = .returned (.tuple #[.int .i64 (((faces n sg).length : Int) - x), .int .i64 x, .int .i64 0]) ∧ Hid (-1000 ≤ x ∧ x ≤ 1000) ∧ Below w'.heap.size w' w'') := fun w' hb => by rw [HM.out]; exact colors_any n wb wc sg sgb sc w' HN.out (HWD.out w' (below_step HB10.out hb)) (HSG10.out.below hb) HGN.out (by rw [HFL.out.1]; omega)
                    have HFA : Hid (∀ l, l ∈ faces n sg → l.length ≤ 40) := fun l hl => by have := (faces_all hn1 l hl).1; omega
                    have hK0 := HFL.out.1
                    generalize faces n sg = FS at *
                    obtain ⟨K, hK⟩ : ∃ K, K = FS.length := ⟨_, rfl⟩
                    have HK := hid hK
                    rw [← hK] at KC hK0
                    have hKn : (K : Int) = (n : Int) + 2 := by omega
                    have hK12 : K ≤ 12 := by omega
                    clear hK hK0
                    go_upto_region 26 with (first
                      | (go_at_call 10; refine FC.out.mono ?_; rintro e w11 ⟨u, rfl, ⟨us, ho⟩, hb11⟩; have HB11 := hid hb11; have KC2 := hid (KC.out w11 hb11); have hul : lenOf u = K := (by rw [HK.out, ← ho.1]; exact ownV_len ho.2.1); have HU : Hid (IsFL n w11 u FS) := ownFL_isLL ho (by rw [← HK.out]; omega) (fun l hl => by have := HFA.out l hl; omega); obtain ⟨ua, un, uc, rfl⟩ := ownV_sh ho.2.1; clear ho hb11)
                      | (go_at_call 11; refine KC2.out.mono ?_; rintro e w12 ⟨x, rfl, HX, hb12⟩; have HB12 := hid (below_step HB11.out hb12); have HU12 := hid (isFL_below HU.out hb12); clear hb12)
                      | fail)
                    have hun : un = K := hul
                    subst hun
                    clear hul KC FC KC2
                    obtain ⟨hx1, hx2⟩ := HX.out
                    go_wp2_with fail
                    have HKN := hid hKn
                    clear hKn
                    go_loop [26, 27, 28] (fun lv sv iv => ∃ v : Nat, iv = .int .i64 v ∧ v ≤ un ∧ lv = .int .i64 ((((FS.take v).filter fun l => l.length == n).length : Nat) : Int) ∧ sv = .int .i64 ((((FS.take v).filter fun l => l.length == 2).length : Nat) : Int)) (fun _ _ iv => un - (intOf iv).toNat)
                    case atStart => exact ⟨0, rfl, Nat.zero_le _, by simp, by simp⟩
                    case round =>
                      obtain ⟨v, rfl, hv, rfl, rfl⟩ := hrel
                      have hc1 := filt_le (fun l : List Nat => l.length == n) FS v
                      have hc2 := filt_le (fun l : List Nat => l.length == 2) FS v
                      by_cases hltv : v < un
                      · have hvF : v < FS.length := by rw [← HK.out]; exact hltv
                        have HF1 := hid (filt_more (fun l : List Nat => l.length == n) hvF)
                        have HF2 := hid (filt_more (fun l : List Nat => l.length == 2) hvF)
                        obtain ⟨ug, ra, rc2, rfl, hrow⟩ := isFL_row HU12.out v hvF
                        have cu := (hrow w12 (Below.refl _ _)).1
                        have hll := HFA.out (FS.getD v []) (by rw [List.getD_eq_getElem?_getD, List.getElem?_eq_getElem hvF]; exact List.getElem_mem hvF)
                        generalize FS.getD v [] = l at *
                        generalize ((FS.take v).filter fun l => l.length == n).length = c1 at *
                        generalize ((FS.take v).filter fun l => l.length == 2).length = c2 at *
                        clear hrow hvF
                        try dsimp only at HF1 HF2
                        obtain ⟨ln, hln⟩ : ∃ ln, ln = l.length := ⟨_, rfl⟩
                        rw [← hln] at cu hll HF1 HF2
                        clear hln
                        by_cases he : ln = n
                        · have h2 : (ln == 2) = false := by simp; omega
                          have h1 : (ln == n) = true := by simpa using he
                          rw [h1, if_pos rfl] at HF1
                          rw [h2, if_neg (by decide)] at HF2
                          clear h1
                          subst he
                          go_wp2_with fail
                          go_round
                          case rel => exact ⟨v + 1, by go_num, by omega, by rw [HF1.out]; go_num, by rw [HF2.out]; rfl⟩
                          case measure => simp [intOf]; omega
                        · have h1 : (ln == n) = false := by simpa using he
                          have h1i : ((ln : Int) == (n : Int)) = false := by simp; omega
                          rw [h1, if_neg (by decide)] at HF1
                          by_cases he2 : ln = 2
                          · have h2 : (ln == 2) = true := by simpa using he2
                            rw [h2, if_pos rfl] at HF2
                            clear h2
                            subst he2
                            go_wp2_with fail
                            go_round
                            case rel => exact ⟨v + 1, by go_num, by omega, by rw [HF1.out]; rfl, by rw [HF2.out]; go_num⟩
                            case measure => simp [intOf]; omega
                          · have h2 : (ln == 2) = false := by simpa using he2
                            have h2i : ((ln : Int) == 2) = false := by simp; omega
                            rw [h2, if_neg (by decide)] at HF2
                            go_wp2_with fail
                            go_round
                            case rel => exact ⟨v + 1, by go_num, by omega, by rw [HF1.out]; rfl, by rw [HF2.out]; rfl⟩
                            case measure => simp [intOf]; omega
                      · obtain rfl : un = v := by omega
                        have htk : FS.take un = FS := by rw [HK.out]; exact List.take_length
                        rw [htk] at hc1 hc2 ⊢
                        have hfl := HFL.out.2
                        by_cases hn1e : n = 1
                        · have hn1i : ((n : Int) == 1) = true := by simp; omega
                          generalize (FS.filter fun l => l.length == n).length = c1 at *
                          generalize (FS.filter fun l => l.length == 2).length = c2 at *
                          clear hfl
                          go_wp2_with fail
                          go_ret
                          exact ⟨rfl, HBr.out.trans ((below_step HB10.out HB12.out).mono HWRW.out)⟩
                        · obtain ⟨hf1, hf2⟩ := hfl.resolve_left hn1e
                          rw [hf1, hf2]
                          have hn1i : ((n : Int) == 1) = false := by simp; omega
                          have hn2i : ((n : Int) == 2) = false := by simp; omega
                          clear hfl hf1 hf2 hc1 hc2
                          go_wp2_with fail
                          go_ret
                          exact ⟨rfl, HBr.out.trans ((below_step HB10.out HB12.out).mono HWRW.out)⟩
      · have DR : Hid (Calls Tryd.prog 4 #[.slice (some ⟨wb, 0, none⟩) m wc] wr fun e w'' => e = .returned (.tuple #[.bool false, .int .i64 0]) ∧ Below wr.heap.size wr w'') := by rw [HM.out]; exact drawn_even n wb wc wr HN.out hp (HWD.out wr (Below.refl _ _))
        have PL : Hid (∀ w', Below wr.heap.size wr w' → Calls Tryd.prog 5 #[.slice (some ⟨wb, 0, none⟩) m wc] w' fun e w'' => e = .returned (.tuple #[.slice none 0 0, .int .i64 5]) ∧ Below w'.heap.size w' w'') := fun w' hb => by rw [HM.out]; exact plane_even n wb wc w' HN.out hp (HWD.out w' hb)
        go_upto_region 10 with (first | (go_at_call 4; refine DR.out.mono ?_; rintro e w2 ⟨rfl, hb2⟩; have HB2 := hid hb2; clear hb2) | (go_at_call 5; refine (PL.out w2 HB2.out).mono ?_; rintro e w3 ⟨rfl, hb3⟩; have HB3 := hid (below_step HB2.out hb3); clear hb3) | fail)
        clear DR PL
        obtain ⟨r1, hr1e⟩ : ∃ r, r = bx % m := ⟨_, rfl⟩
        have hr1 : r1 < m := by rw [hr1e]; exact Nat.mod_lt _ (by omega)
        have HR1 : Hid ((bx : Int).tmod (m : Int) = (r1 : Int)) := by show _ = _; rw [Int.tmod_eq_emod_of_nonneg (by omega), hr1e]; exact (Int.natCast_emod bx m).symm
        clear hr1e
        refine wp_region_held_drew (S := fun w' => True) (by kernel_rfl) trivial (fun hHeld => ?_)
        have HBU := hid (HB3.out.drew)
        have HSU : Hid (Below w3.heap.size w3 w3.drew) := (Below.refl _ w3).drew
        generalize w3.drew = u0 at *
        refine take_at (i := 1) 70 (v := .slice (some ⟨wb, 0, none⟩) m wc) rfl (by kernel_rfl) (by kernel_rfl) (by kernel_rfl) rfl (fun _ _ _ h => h) (by rfl) (fun w hSw => ?_) hHeld ?_
        · (try dsimp only at hSw); go_simp
        simp only [Act.put, List.setIfInBounds_toArray, List.set_cons_zero, List.set_cons_succ]
        refine take_at (i := 2) 71 (v := .int .u8 (bx : Int)) rfl (by kernel_rfl) (by kernel_rfl) (by kernel_rfl) rfl (fun _ _ _ h => h) (by rfl) (fun w hSw => ?_) hHeld ?_
        · (try dsimp only at hSw); go_simp
        simp only [Act.put, List.setIfInBounds_toArray, List.set_cons_zero, List.set_cons_succ]
        refine take_at (i := 3) 72 (v := .int .i64 (bx : Int)) rfl (by kernel_rfl) (by kernel_rfl) (by kernel_rfl) rfl (fun _ _ _ h => h) (by rfl) (fun w hSw => ?_) hHeld ?_
        · (try dsimp only at hSw); go_simp; first | done | (rw [IntKind.wrap_i64]; omega) | (simp; omega)
        simp only [Act.put, List.setIfInBounds_toArray, List.set_cons_zero, List.set_cons_succ]
        refine take_at (i := 4) 73 (v := .slice (some ⟨wb, 0, none⟩) m wc) rfl (by kernel_rfl) (by kernel_rfl) (by kernel_rfl) rfl (fun _ _ _ h => h) (by rfl) (fun w hSw => ?_) hHeld ?_
        · (try dsimp only at hSw); go_simp
        simp only [Act.put, List.setIfInBounds_toArray, List.set_cons_zero, List.set_cons_succ]
        refine take_at (i := 5) 74 (v := .int .i64 (m : Int)) rfl (by kernel_rfl) (by kernel_rfl) (by kernel_rfl) rfl (fun _ _ _ h => h) (by rfl) (fun w hSw => ?_) hHeld ?_
        · (try dsimp only at hSw); go_simp
        simp only [Act.put, List.setIfInBounds_toArray, List.set_cons_zero, List.set_cons_succ]
        refine take_at (i := 6) 75 (v := .int .i64 (r1 : Int)) rfl (by kernel_rfl) (by kernel_rfl) (by kernel_rfl) rfl (fun _ _ _ h => h) (by rfl) (fun w hSw => ?_) hHeld ?_
        · (try dsimp only at hSw); go_simp; first | done | (rw [if_neg (by omega), HR1.out])
        simp only [Act.put, List.setIfInBounds_toArray, List.set_cons_zero, List.set_cons_succ]
        refine take_at (i := 7) 76 (v := .slice (some ⟨wb, r1, none⟩) (m - r1) (wc - r1)) rfl (by kernel_rfl) (by kernel_rfl) (by kernel_rfl) rfl (fun _ _ _ h => h) (by rfl) (fun w hSw => ?_) hHeld ?_
        · (try dsimp only at hSw); go_simp; rw [if_pos (by omega), if_neg (by omega)]
        simp only [Act.put, List.setIfInBounds_toArray, List.set_cons_zero, List.set_cons_succ]
        refine take_at (i := 9) 78 (v := .slice (some ⟨wb, 0, none⟩) m wc) rfl (by kernel_rfl) (by kernel_rfl) (by kernel_rfl) rfl (fun _ _ _ h => h) (by rfl) (fun w hSw => ?_) hHeld ?_
        · (try dsimp only at hSw); go_simp
        simp only [Act.put, List.setIfInBounds_toArray, List.set_cons_zero, List.set_cons_succ]
        refine take_at (i := 10) 79 (v := .int .u8 (bx : Int)) rfl (by kernel_rfl) (by kernel_rfl) (by kernel_rfl) rfl (fun _ _ _ h => h) (by rfl) (fun w hSw => ?_) hHeld ?_
        · (try dsimp only at hSw); go_simp
        simp only [Act.put, List.setIfInBounds_toArray, List.set_cons_zero, List.set_cons_succ]
        refine take_at (i := 11) 80 (v := .int .i64 (bx : Int)) rfl (by kernel_rfl) (by kernel_rfl) (by kernel_rfl) rfl (fun _ _ _ h => h) (by rfl) (fun w hSw => ?_) hHeld ?_
        · (try dsimp only at hSw); go_simp; first | done | (rw [IntKind.wrap_i64]; omega) | (simp; omega)
        simp only [Act.put, List.setIfInBounds_toArray, List.set_cons_zero, List.set_cons_succ]
        refine take_at (i := 12) 81 (v := .slice (some ⟨wb, 0, none⟩) m wc) rfl (by kernel_rfl) (by kernel_rfl) (by kernel_rfl) rfl (fun _ _ _ h => h) (by rfl) (fun w hSw => ?_) hHeld ?_
        · (try dsimp only at hSw); go_simp
        simp only [Act.put, List.setIfInBounds_toArray, List.set_cons_zero, List.set_cons_succ]
        refine take_at (i := 13) 82 (v := .int .i64 (m : Int)) rfl (by kernel_rfl) (by kernel_rfl) (by kernel_rfl) rfl (fun _ _ _ h => h) (by rfl) (fun w hSw => ?_) hHeld ?_
        · (try dsimp only at hSw); go_simp
        simp only [Act.put, List.setIfInBounds_toArray, List.set_cons_zero, List.set_cons_succ]
        refine take_at (i := 14) 83 (v := .int .i64 (r1 : Int)) rfl (by kernel_rfl) (by kernel_rfl) (by kernel_rfl) rfl (fun _ _ _ h => h) (by rfl) (fun w hSw => ?_) hHeld ?_
        · (try dsimp only at hSw); go_simp; first | done | (rw [if_neg (by omega), HR1.out])
        simp only [Act.put, List.setIfInBounds_toArray, List.set_cons_zero, List.set_cons_succ]
        refine take_at (i := 15) 84 (v := .slice (some ⟨wb, 0, none⟩) (r1 - 0) wc) rfl (by kernel_rfl) (by kernel_rfl) (by kernel_rfl) rfl (fun _ _ _ h => h) (by rfl) (fun w hSw => ?_) hHeld ?_
        · (try dsimp only at hSw); go_simp; first | done | omega | (rw [if_pos (by omega)]) | (simp; omega)
        simp only [Act.put, List.setIfInBounds_toArray, List.set_cons_zero, List.set_cons_succ]
        refine wpAnyH_ready (rs := [0]) (by kernel_rfl) (by simp) ?_
        refine node_none22 69 rfl rfl rfl rfl trivial (fun hHeld => ?_) AllReadyH.nil
        · have HB4 : Hid (Below wr.heap.size wr (u0.alloc (.cells #[] 3))) := hid (HBU.out.alloc HBU.out.size _)
          have HS4 : Hid (Below w3.heap.size w3 (u0.alloc (.cells #[] 3))) := hid (HSU.out.alloc HSU.out.size _)
          have HE4 := hid (ownV_made u0 w3.heap.size 3 HSU.out.size)
          have HW4 := hid (ownV_below HWO.out HB4.out)
          have HRA := hid (ownV_rd HW4.out (brd_one n m) r1 m (by omega) (by rw [brd_len]; exact Nat.le_refl _) (wc - r1))
          generalize u0.alloc (.cells #[] 3) = u4 at *
          generalize u0.heap.size = eb at *
          simp only [Act.put, List.setIfInBounds_toArray, List.set_cons_zero, List.set_cons_succ]
          refine wpAnyH_ready (rs := [8]) (by kernel_rfl) (by simp) ?_
          refine node_app22n 77 w3.heap.size 69 76 (.slice (some ⟨eb, 0, none⟩) 0 0) [] _ (m - r1) _ rfl rfl rfl rfl rfl rfl HRA.out HE4.out HS4.out.size ⟨by simp, by omega⟩ ?_ AllReadyH.nil
          · intro v5 u5 ho5 hg5
            rw [List.nil_append] at ho5
            have HS5 := hid (Below.grown HS4.out hg5 HS4.out.size (fun b hb => (ownV_lt HE4.out b hb).1))
            have HB5 := hid (HB3.out.trans (HS5.out.mono HB3.out.size))
            have HO5 := hid ho5
            have HW5 := hid (ownV_below HWO.out HB5.out)
            have HRB := hid (ownV_rd HW5.out (brd_one n m) 0 r1 (by omega) (by rw [brd_len]; omega) wc)
            obtain ⟨qa, qn, qc, rfl⟩ := ownV_sh ho5
            clear ho5 hg5
            refine ⟨trivial, ?_⟩
            simp only [Act.put, List.setIfInBounds_toArray, List.set_cons_zero, List.set_cons_succ]
            refine wpAnyH_ready (rs := [16]) (by kernel_rfl) (by simp) ?_
            refine node_app22n 85 w3.heap.size 77 84 (.slice qa qn qc) _ _ (r1 - 0) _ rfl rfl rfl rfl rfl rfl HRB.out HO5.out HS5.out.size ⟨by rw [List.length_take, List.length_drop, brd_len]; omega, by omega⟩ ?_ AllReadyH.nil
            · intro v6 u6 ho6 hg6
              have ho6 : OwnV u6 w3.heap.size 3 v6 (rotB n m r1) := ho6
              have HS6 := hid (Below.grown HS5.out hg6 HS5.out.size (fun b hb => (ownV_lt HO5.out b hb).1))
              have HB6 := hid (HB3.out.trans (HS6.out.mono HB3.out.size))
              obtain ⟨rb, rc, rfl, -⟩ := ownV_some ho6 (by rw [rotB_len hr1]; omega)
              have hrc := ownV_capN ho6
              rw [rotB_len hr1] at ho6 hrc
              rw [rotB_len hr1]
              have CN := hid (canon_any n (r1 % n) rb rc u6 HN.out (Nat.mod_lt _ hn1) (by rw [← HM.out]; exact hrc) (fun i hi => by have h := ownV_cell ho6 i (by rw [rotB_len hr1, HM.out]; exact hi); rw [HM.out, rotB_at (by rw [← HM.out]; exact hr1) hi] at h; exact h))
              rw [← HM.out] at CN
              clear ho6 hg6 hrc
              refine ⟨trivial, ?_⟩
              simp only [Act.put, List.setIfInBounds_toArray, List.set_cons_zero, List.set_cons_succ]
              refine wpAnyH_ready (rs := [17]) (by kernel_rfl) (by simp) ?_
              refine node_f6 86 85 (.slice (some ⟨rb, 0, none⟩) m rc) rfl rfl rfl rfl rfl ?_ AllReadyH.nil
              · refine CN.out.mono ?_
                rintro e w7 ⟨v7, rfl, ho7, hb7⟩
                have HB7 := hid (below_step HB6.out hb7)
                have HS7 := hid (below_step HS6.out hb7)
                obtain ⟨cg, cc, rfl, -⟩ := ownV_some ho7 (by rw [brd_len]; omega)
                rw [brd_len] at ho7
                rw [brd_len]
                have HC7 := hid ho7
                clear ho7 hb7
                refine ⟨_, rfl, trivial, ?_⟩
                simp only [Act.put, List.setIfInBounds_toArray, List.set_cons_zero, List.set_cons_succ]
                refine take_at (i := 18) 68 (v := .tuple #[.slice (some ⟨cg, 0, none⟩) m cc, .int .i64 0]) rfl (by kernel_rfl) (by kernel_rfl) (by kernel_rfl) rfl (fun _ _ _ h => h) (by rfl) (fun w hSw => ?_) hHeld ?_
                · (try dsimp only at hSw); go_simp
                simp only [Act.put, List.setIfInBounds_toArray, List.set_cons_zero, List.set_cons_succ]
                refine take_at (i := 19) 87 (v := .slice (some ⟨cg, 0, none⟩) m cc) rfl (by kernel_rfl) (by kernel_rfl) (by kernel_rfl) rfl (fun _ _ _ h => h) (by rfl) (fun w hSw => ?_) hHeld ?_
                · (try dsimp only at hSw); go_simp
                simp only [Act.put, List.setIfInBounds_toArray, List.set_cons_zero, List.set_cons_succ]
                refine take_at (i := 20) 88 (v := .int .i64 0) rfl (by kernel_rfl) (by kernel_rfl) (by kernel_rfl) rfl (fun _ _ _ h => h) (by rfl) (fun w hSw => ?_) hHeld ?_
                · (try dsimp only at hSw); go_simp
                simp only [Act.put, List.setIfInBounds_toArray, List.set_cons_zero, List.set_cons_succ]
                refine take_at (i := 21) 13 (v := .slice (some ⟨cg, 0, none⟩) m cc) rfl (by kernel_rfl) (by kernel_rfl) (by kernel_rfl) rfl (fun _ _ _ h => h) (by rfl) (fun w hSw => ?_) hHeld ?_
                · (try dsimp only at hSw); go_simp
                simp only [Act.put, List.setIfInBounds_toArray, List.set_cons_zero, List.set_cons_succ]
                refine take_at (i := 22) 14 (v := .int .i64 0) rfl (by kernel_rfl) (by kernel_rfl) (by kernel_rfl) rfl (fun _ _ _ h => h) (by rfl) (fun w hSw => ?_) hHeld ?_
                · (try dsimp only at hSw); go_simp
                simp only [Act.put, List.setIfInBounds_toArray, List.set_cons_zero, List.set_cons_succ]
                refine wpAnyH_done (by kernel_rfl) ?_ _
                clear hHeld
                have PR : Hid (Calls Tryd.prog 7 #[.slice (some ⟨wb, 0, none⟩) m wc] w7 fun e w'' => ∃ a c, e = .returned (.tuple #[.slice a (n * (n - 1) / 2) c, .int .i64 0]) ∧ Below w7.heap.size w7 w'') := by rw [HM.out]; exact pairs_any n wb wc w7 HN.out (HWD.out w7 HB7.out)
                obtain ⟨pp, hpp⟩ : ∃ p, p = n * (n - 1) / 2 := ⟨_, rfl⟩
                rw [← hpp] at PR
                have HPP := hid hpp
                clear hpp
                go_upto_region 12 with (first | (go_at_call 7; refine PR.out.mono ?_; rintro e w8 ⟨pa, pc, rfl, hb8⟩; have HB8 := hid (below_step HB7.out hb8); have HS8 := hid (below_step HS7.out hb8); have HC8 := hid (ownV_below HC7.out hb8); clear hb8) | fail)
                clear PR
                have SM := hid (same_any m cg cc wb wc (fun j => ((j % n : Nat) : Int)) w8 hm20 (fun j hj => by have h := ownV_cell HC8.out j (by rw [brd_len]; exact hj); rw [brd_at hj] at h; exact h) (fun j hj => by have h := HWD.out w8 HB8.out j (by rw [← HM.out]; exact hj); exact h))
                have hpar : (n : Int) % 2 = 0 := by omega
                obtain ⟨q, hq⟩ : ∃ q, q = n * (n - 1) := ⟨_, rfl⟩
                have hqn : (n : Int) * ((n : Int) - 1) = (q : Int) := by
                  rw [hq, Int.natCast_mul, Int.natCast_sub hn1]; rfl
                have hq90 : q ≤ 90 := by rw [hq]; exact Nat.le_trans (Nat.mul_le_mul hn10 (show n - 1 ≤ 9 by omega)) (by decide)
                have hqp : (q : Int) / 2 = (pp : Int) := by rw [HPP.out, ← hq]; omega
                clear hq
                have HSZ : Hid (s.size = m) := by
                  have e : s.data.toList.length = s.size := rfl
                  rw [HSL.out, lets_len] at e
                  exact e.symm
                have PD : Hid (∀ w', Calls Tryd.prog 9 #[.string s] w' fun e w'' => ∃ v, e = .returned (.tuple #[v, .int .i64 0]) ∧ OwnV w'' w'.heap.size 3 v ((pers (lets n m) m).map iv) ∧ Below w'.heap.size w' w'') := fun w' => by
                  have h := periods_any s w' (by rw [HSZ.out]; omega) (by rw [HSZ.out]; omega) (by rw [HSL.out, HM.out]; exact lets_all n (by omega))
                  rw [HSL.out, HSZ.out] at h
                  exact h
                have HMEM : Hid (n ∈ pers (lets n m) m) := pers_mem hn1 (by have := HM.out; omega) (by rw [HM.out]; exact lets_period n (by omega) hn1)
                have hpl := pers_len (lets n m) m
                generalize pers (lets n m) m = pl at *
                go_upto_region 15 with (first
                  | (go_at_call 8; refine SM.out.mono ?_; rintro e w9 ⟨rfl, hb9⟩; have HB9 := hid (below_step HB8.out hb9); have HS9 := hid (below_step HS8.out hb9); clear hb9)
                  | (go_at_call 9; refine (PD.out _).mono ?_; rintro e w10 ⟨v10, rfl, ho10, hb10⟩; have HB10 := hid (below_step HB9.out hb10); have HS10 := hid (below_step HS9.out hb10); obtain ⟨qg, qc', rfl, -⟩ := ownV_some ho10 (by rw [List.length_map]; exact List.length_pos_of_mem HMEM.out); have HO10 := hid ho10; clear ho10 hb10)
                  | fail)
                rw [List.length_map] at HO10
                clear hqn hqp hq90 SM PD
                obtain ⟨Q, hQ⟩ : ∃ Q, Q = pl.length := ⟨_, rfl⟩
                have HQ := hid hQ
                rw [← hQ] at hpl
                have hpar' := hid hpar
                clear hpar
                rw [← hQ] at HO10
                try rw [List.length_map]
                try rw [← hQ]
                clear hQ
                go_wp2_with fail
                go_loop [19, 20] (fun fv kv => ∃ k : Nat, kv = .int .i64 k ∧ k ≤ Q ∧ fv = .bool ((pl.take k).contains n)) (fun _ kv => Q - (intOf kv).toNat)
                case atStart => exact ⟨0, rfl, Nat.zero_le _, by simp⟩
                case round =>
                  obtain ⟨k2, rfl, hk2, rfl⟩ := hrel
                  by_cases hltk : k2 < Q
                  · have hk2l : k2 < pl.length := by rw [← HQ.out]; exact hltk
                    have HTS : Hid ((pl.take (k2 + 1)).contains n = ((pl.take k2).contains n || (pl.getD k2 0 == n))) := hid (take_contains hk2l)
                    have ck := ownV_cell HO10.out k2 (by rw [List.length_map]; exact hk2l)
                    replace ck : w10.cell? ⟨qg, k2, none⟩ = some (.int .i64 ((pl.getD k2 0 : Nat) : Int)) := by
                      rw [ck, List.getD_eq_getElem?_getD, List.getElem?_map, List.getElem?_eq_getElem hk2l, List.getD_eq_getElem?_getD, List.getElem?_eq_getElem hk2l]; rfl
                    clear hk2l
                    cases hbc : (pl.take k2).contains n with
                    | true =>
                      rw [hbc, Bool.true_or] at HTS
                      clear hbc ck
                      go_wp2_with fail
                      go_round
                      case rel => exact ⟨k2 + 1, by go_num, by omega, by rw [HTS.out]⟩
                      case measure => simp [intOf]; omega
                    | false =>
                      rw [hbc, Bool.false_or] at HTS
                      clear hbc
                      generalize pl.getD k2 0 = y at *
                      by_cases hyn : y = n
                      · have HYE : Hid ((y == n) = true) := by rw [hyn]; show (n == n) = true; simp
                        subst hyn
                        go_wp2_with fail
                        go_round
                        case rel => exact ⟨k2 + 1, by go_num, by omega, by rw [HTS.out, HYE.out]⟩
                        case measure => simp [intOf]; omega
                      · have hye : (y == n) = false := by simpa using hyn
                        have hyi : ((y : Int) == (n : Int)) = false := by simp; omega
                        have HYE := hid hye
                        go_wp2_with fail
                        go_round
                        case rel => exact ⟨k2 + 1, by go_num, by omega, by rw [HTS.out, HYE.out]⟩
                        case measure => simp [intOf]; omega
                  · obtain rfl : Q = k2 := by omega
                    have hct : (pl.take Q).contains n = true := by
                      rw [HQ.out, List.take_length]
                      simpa using HMEM.out
                    rw [hct]
                    clear hct
                    go_wp2_with fail
                    go_ret
                    exact ⟨rfl, HBr.out.trans (HB10.out.mono HWRW.out)⟩
end Go.Proofs.YtppkgilpmmhpoaaDoor
