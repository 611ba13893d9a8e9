/-
  The law ClaimNames of chapter 12: its contract.
-/
import Derived.Test.YtaedbkdimpdngaaWalkZ
import Derived.Test.YtaedbkdimpdngaaLawRings
namespace Go.Proofs.Ytaedbkdimpdngaa
open Go.RowKit
/-- an attack by other names -/
def mvP (n k : Nat) (p : Pr) : Pr := ((p.1 + (k : Int)) % (n : Int), (p.2 + (k : Int)) % (n : Int))
def revM (n k : Nat) (l : List Pr) (j : Nat) : List Pr := ((l.drop j).reverse).map (mvP n k)
theorem revM_step (n k : Nat) (l : List Pr) (i : Nat) (h : i < l.length) : revM n k l i = revM n k l (i + 1) ++ [mvP n k (prAt l i)] := by
  unfold revM
  rw [List.drop_eq_getElem_cons h, List.reverse_cons, List.map_append]
  have : prAt l i = l[i] := by unfold prAt; rw [List.getD_eq_getElem?_getD, List.getElem?_eq_getElem h]; rfl
  rw [this]; rfl
theorem revM_len (n k : Nat) (l : List Pr) (j : Nat) : (revM n k l j).length ≤ l.length := by
  unfold revM
  rw [List.length_map, List.length_reverse, List.length_drop]; omega
theorem mem_revM (n k : Nat) (l : List Pr) (q : Pr) : q ∈ revM n k l 0 ↔ ∃ p, p ∈ l ∧ mvP n k p = q := by
  unfold revM
  rw [List.drop_zero, List.mem_map]
  constructor
  · rintro ⟨p, hp, e⟩; exact ⟨p, List.mem_reverse.1 hp, e⟩
  · rintro ⟨p, hp, e⟩; exact ⟨p, List.mem_reverse.2 hp, e⟩
theorem rot_int {n k i : Nat} (hi : i < n) (hk : k < n) : ((i : Int) + (k : Int)) % (n : Int) = ((rot n k i : Nat) : Int) := by
  rw [← rot_mod hi hk]; push_cast; rfl
theorem mvP_in {n k : Nat} (hn : 0 < n) (p : Pr) : inB (n : Int) (mvP n k p) = true := by
  have h0 : (0 : Int) < (n : Int) := by omega
  exact decide_eq_true ⟨Int.emod_nonneg _ (by omega), Int.emod_lt_of_pos _ h0, Int.emod_nonneg _ (by omega), Int.emod_lt_of_pos _ h0⟩
theorem valid_all {n : Int} {l : List Pr} (h : validP n l = true) : ∀ p, p ∈ l → inB n p = true := by
  unfold validP at h
  simp only [Bool.and_eq_true, List.all_eq_true] at h
  exact h.2
theorem valid_sub {n : Int} {l m : List Pr} (h : validP n l = true) (hm : m.length ≤ 40) (hx : ∀ p, p ∈ m → inB n p = true) : validP n m = true := by
  unfold validP at *
  simp only [Bool.and_eq_true, decide_eq_true_eq, List.all_eq_true] at *
  exact ⟨⟨h.1.1, hm⟩, hx⟩
theorem names_moved {size k : Nat} {l M : List Pr} (hva : validP (size : Int) l = true) (hk : k < size) (hM : ∀ q, q ∈ M ↔ q ∈ revM size k l 0) : Moved (dsp size l) (dsp size M) k := by
  refine ⟨hk, rfl, fun a b ha hb => ?_⟩
  change a < size at ha
  change b < size at hb
  show (dsp size M).att (rot size k a) (rot size k b) = _
  rw [Bool.eq_iff_iff, dsp_att, dsp_att, hM, mem_revM]
  constructor
  · rintro ⟨⟨x, y⟩, hp, e⟩
    have hin : 0 ≤ x ∧ x < (size : Int) ∧ 0 ≤ y ∧ y < (size : Int) := of_decide_eq_true (valid_all hva _ hp)
    obtain ⟨x', rfl⟩ : ∃ x' : Nat, x = (x' : Int) := ⟨x.toNat, by omega⟩
    obtain ⟨y', rfl⟩ : ∃ y' : Nat, y = (y' : Int) := ⟨y.toNat, by omega⟩
    unfold mvP at e
    dsimp only at e
    rw [rot_int (by omega) hk, rot_int (by omega) hk] at e
    have e1 : rot size k x' = rot size k a := by have h := congrArg Prod.fst e; dsimp only at h; omega
    have e2 : rot size k y' = rot size k b := by have h := congrArg Prod.snd e; dsimp only at h; omega
    have a1 : x' = a := by rw [← tor_rot (show x' < size by omega) hk, ← tor_rot (show a < size from ha) hk, e1]
    have a2 : y' = b := by rw [← tor_rot (show y' < size by omega) hk, ← tor_rot (show b < size from hb) hk, e2]
    rw [← a1, ← a2]; exact hp
  · intro hp
    refine ⟨_, hp, ?_⟩
    unfold mvP
    dsimp only
    rw [rot_int ha hk, rot_int hb hk]
theorem names_lists {d : Dsp} {k : Nat} {L K : List Nat} (hk : k < d.n) (hn : d.n ≤ 16) (hL : ∀ s, s ∈ L → s < 2 ^ d.n) (hp : K.Perm (L.map (mv d.n k))) : lists ((lists L).map (mvL d.n k)) = lists K := by
  refine lists_eq ?_
  have h1 : ((lists L).map (mvL d.n k)).Perm ((L.map elems).map (mvL d.n k)) := (lists_perm L).map _
  have h2 : (L.map elems).map (mvL d.n k) = L.map (mv d.n k) := by
    rw [List.map_map]
    exact List.map_congr_left fun s hs => mvL_elems hk hn (hL s hs)
  rw [h2] at h1
  exact h1.trans hp.symm
theorem rows_lt {n : Nat} {L : List Nat} (hL : ∀ s, s ∈ L → s < 2 ^ n) : ∀ x, x ∈ lists L → ∀ a, a ∈ x → a < n := fun x hx a ha => by
  obtain ⟨s, hs, rfl⟩ := List.mem_map.1 ((lists_perm L).mem_iff.1 hx)
  exact elems_lt (hL s hs) a ha
theorem pref_lt (d : Dsp) (s : Nat) (hs : s ∈ d.pref) : s < 2 ^ d.n := d.adm_lt ((d.mem_pref s).1 hs).1
theorem comps_lt (d : Dsp) (s : Nat) (hs : s ∈ d.comps) : s < 2 ^ d.n := alls_lt d _ s hs
set_option maxRecDepth 100000 in
set_option maxHeartbeats 4000000 in
theorem ClaimNames_ok (nb : Int) (ja : Option Addr) (jn jc : Nat) (by' : Int) (w : World) (hnb : 0 ≤ nb ∧ nb < 256) (hx : ArgAr w ja jn) (hby : 0 ≤ by' ∧ by' < 256) :
    Calls Try.prog 5 #[.int .u8 nb, .slice ja jn jc, .int .u8 by'] w fun e w' => e = .returned (.bool true) ∧ Below w.heap.size w w' := by
  have HM := hid (made_any nb ja jn jc 10 w hnb (by decide) hx)
  clear hnb hx
  obtain ⟨bn, rfl⟩ : ∃ bn : Nat, by' = (bn : Int) := ⟨by'.toNat, by omega⟩
  have hbn : bn < 256 := by omega
  clear hby
  go_enter Try.func5, Try.ntmps5
  go_upto_region 2 with (first | (go_at_call 27; refine (HM.out).mono ?_; rintro e w2 ⟨size, v2, l, rfl, hp2, hva, h1, h12, -, -, hb2⟩; obtain ⟨na, nc, rfl⟩ := row_slice hp2; have HB2 := hid hb2; have HVA := hid hva; have HP2 := hid (ownP_all hp2 hva); clear hp2 hva hb2) | fail)
  clear HM
  have hl40 : l.length ≤ 40 := by have := HVA.out; unfold validP at this; simp only [Bool.and_eq_true, decide_eq_true_eq] at this; omega
  obtain ⟨k, hk⟩ : ∃ k, k = bn % size := ⟨_, rfl⟩
  have hkz : k < size := by rw [hk]; exact Nat.mod_lt _ h1
  have hmd : (bn : Int).tmod (size : Int) = (k : Int) := by
    rw [Int.tmod_eq_emod_of_nonneg (by omega), hk]
    exact (Int.natCast_emod bn size).symm
  have hnz : ¬ size = 0 := by omega
  have HNZ : Hid (¬ size = 0) := hnz
  clear hk
  have HB0 : Hid (Below w2.heap.size w2 (w2.alloc (.cells #[] 45))) := ba w2 _
  have HT0 : Hid (OwnP (w2.alloc (.cells #[] 45)) w2.heap.size 45 (.slice (some ⟨w2.heap.size, 0, none⟩) 0 0) (revM size k l l.length)) := by
    have h0 : revM size k l l.length = [] := by unfold revM; rw [List.drop_length]; rfl
    rw [h0]
    exact row_of_block (heap_alloc_new w2 (.cells #[] 45)) (Nat.le_refl _)
  go_upto_region 5 with fail
  clear hmd hbn
  go_loopw [11, 10] (fun zv ov wr => ∃ (j : Nat) (z : Int), zv = .int .i64 z ∧ z = (j : Int) - 1 ∧ j ≤ l.length ∧ Hid (OwnP wr w2.heap.size 45 ov (revM size k l j)) ∧ Hid (Below w2.heap.size w2 wr)) (fun zv _ _ => (intOf zv + 1).toNat)
  case atStart => exact ⟨l.length, _, rfl, rfl, Nat.le_refl _, HT0, HB0⟩
  case round =>
    obtain ⟨j, z, rfl, hz, hj, HT, HBr⟩ := hrel
    rename World => wr
    obtain ⟨ov, hov⟩ : ∃ ov, ov = u10 := ⟨_, rfl⟩
    rw [← hov] at HT ⊢
    clear hov HT0 HB0
    by_cases hj0 : j = 0
    · subst hj0
      have hz1 : ¬ (0 : Int) ≤ z := by omega
      clear hz
      obtain ⟨ma, mn, mc, rfl⟩ := ownP_sh HT.out
      obtain ⟨M0, hM0⟩ : ∃ M0, M0 = revM size k l 0 := ⟨_, rfl⟩
      have hml : M0.length ≤ l.length := by rw [hM0]; exact revM_len _ _ _ _
      have HME0 : Hid (∀ q, q ∈ M0 ↔ q ∈ revM size k l 0) := by rw [hM0]; exact fun q => Iff.rfl
      have HIN0 : Hid (∀ p, p ∈ M0 → inB (size : Int) p = true) := fun p hp => by
        obtain ⟨q, _, rfl⟩ := (mem_revM _ _ _ _).1 ((HME0.out p).1 hp)
        exact mvP_in h1 q
      rw [← hM0] at HT
      clear hM0
      have hmn : mn = M0.length := by
        obtain ⟨_, _, e⟩ := row_slice HT.out
        cases e; rfl
      have HMN := hid hmn
      by_cases hcase : 0 < mn ∧ mn < 40
      · have h0m : 0 < M0.length := by rw [← hmn]; exact hcase.1
        obtain ⟨q1, q2⟩ := hcase
        have hpa := isPr_at (ownP_isPr HT.out (by omega)) 0 h0m
        obtain ⟨mg, rfl, -, c0, c1⟩ := hpa
        have hin0 : prAt M0 0 ∈ M0 := List.mem_of_getElem? (prAt_eq M0 0 h0m)
        obtain ⟨M, hM⟩ : ∃ M, M = M0 ++ [prAt M0 0] := ⟨_, rfl⟩
        have HME : Hid (∀ q, q ∈ M ↔ q ∈ revM size k l 0) := fun q => by
          rw [hM, ← HME0.out q, List.mem_append, List.mem_singleton]
          constructor
          · rintro (h | rfl)
            · exact h
            · exact hin0
          · exact fun h => .inl h
        have HVM : Hid (validP (size : Int) M = true) := valid_sub HVA.out (by rw [hM, List.length_append]; simp; omega) fun p hp => HIN0.out p ((HME0.out p).2 ((HME.out p).1 hp))
        have HK2 : Hid (M0 ++ [((prAt M0 0).1, (prAt M0 0).2)] = M) := hM.symm
        have HLN : Hid (M0.length < 1000000) := by show _ < _; omega
        change wr.cell? ⟨mg, 0, none⟩ = _ at c0
        change wr.cell? ⟨mg, 1, none⟩ = _ at c1
        clear hin0 hM HIN0 HME0 hmn
        generalize (prAt M0 0).1 = x at *
        generalize (prAt M0 0).2 = y at *
        have HTM0 := HT
        go_upto_region 10 with (first | (at_builtin; refine wpl_app_pr x y _ _ (.slice (some ⟨mg, 0, none⟩) mn mc) w2.heap.size M0 (by rfl) (by rfl) (by rfl) (by rfl) HTM0.out HLN.out HBr.out.size ?_; intro v' wm ho7 hb7 hg7; rw [HK2.out] at ho7; obtain ⟨ma, mn2, mc2, rfl⟩ := ownP_sh ho7; have HTM := hid ho7; have HBm := hid (HBr.out.trans hb7); clear ho7 hb7 hg7) | fail)
        clear c0 c1 HTM0 HT HBr HK2
        have HMV := names_moved HVA.out hkz HME.out
        have HLP := hid (names_lists (d := (dsp (Int.toNat (size : Int)) l)) hkz (by show size ≤ 16; omega) (fun s hs => pref_lt _ s hs) HMV.pref)
        have HLC := hid (names_lists (d := (dsp (Int.toNat (size : Int)) l)) hkz (by show size ≤ 16; omega) (fun s hs => comps_lt _ s hs) HMV.comps)
        have HRP := hid (rows_lt (n := size) (L := (dsp (Int.toNat (size : Int)) l).pref) (fun s hs => pref_lt _ s hs))
        have HRC := hid (rows_lt (n := size) (L := (dsp (Int.toNat (size : Int)) l).comps) (fun s hs => comps_lt _ s hs))
        have HNP : Hid ((lists (dsp (Int.toNat (size : Int)) l).pref).length ≤ 5000) := by show _ ≤ _; rw [lists_len]; exact (small_pref _ (by show size ≤ 12; omega)).2
        have HNC : Hid ((lists (dsp (Int.toNat (size : Int)) l).comps).length ≤ 5000) := by show _ ≤ _; rw [lists_len]; exact (small_comps _ (by show size ≤ 12; omega)).2
        have HPL : Hid (∀ w', Below wm.heap.size wm w' → IsPr w' (.slice na l.length nc) l) := fun w' hb => HP2.out w' (HBm.out.trans (hb.mono HBm.out.size))
        have HPM : Hid (∀ w', Below wm.heap.size wm w' → IsPr w' (.slice ma mn2 mc2) M) := ownP_all HTM.out HVM.out
        have C1 : Hid (∀ w', Below wm.heap.size wm w' → Calls Try.prog 28 #[.int .i64 (size : Int), .slice na l.length nc] w' fun e w'' => ∃ a m c, e = .returned (.tuple #[.slice a m c, .int .i64 0]) ∧ IsLL w'' (.slice a m c) (lists (dsp (Int.toNat (size : Int)) l).pref) ∧ m = (dsp (Int.toNat (size : Int)) l).pref.length ∧ Below w'.heap.size w' w'') := fun w' hb => retLL_ok (w0 := w') (pPreferred_any _ _ _ w' (HPL.out w' hb)) HVA.out
        have C2 : Hid (∀ w', Below wm.heap.size wm w' → Calls Try.prog 28 #[.int .i64 (size : Int), .slice ma mn2 mc2] w' fun e w'' => ∃ a m c, e = .returned (.tuple #[.slice a m c, .int .i64 0]) ∧ IsLL w'' (.slice a m c) (lists (dsp (Int.toNat (size : Int)) M).pref) ∧ m = (dsp (Int.toNat (size : Int)) M).pref.length ∧ Below w'.heap.size w' w'') := fun w' hb => retLL_ok (w0 := w') (pPreferred_any _ _ _ w' (HPM.out w' hb)) HVM.out
        have C3 : Hid (∀ w', Below wm.heap.size wm w' → Calls Try.prog 29 #[.int .i64 (size : Int), .slice na l.length nc] w' fun e w'' => ∃ a m c, e = .returned (.tuple #[.slice a m c, .int .i64 0]) ∧ IsLL w'' (.slice a m c) (lists (dsp (Int.toNat (size : Int)) l).comps) ∧ m = (dsp (Int.toNat (size : Int)) l).comps.length ∧ Below w'.heap.size w' w'') := fun w' hb => retLL_ok (w0 := w') (pComplete_any _ _ _ w' (HPL.out w' hb)) HVA.out
        have C4 : Hid (∀ w', Below wm.heap.size wm w' → Calls Try.prog 29 #[.int .i64 (size : Int), .slice ma mn2 mc2] w' fun e w'' => ∃ a m c, e = .returned (.tuple #[.slice a m c, .int .i64 0]) ∧ IsLL w'' (.slice a m c) (lists (dsp (Int.toNat (size : Int)) M).comps) ∧ m = (dsp (Int.toNat (size : Int)) M).comps.length ∧ Below w'.heap.size w' w'') := fun w' hb => retLL_ok (w0 := w') (pComplete_any _ _ _ w' (HPM.out w' hb)) HVM.out
        have FIN : Hid (∀ w', Below wm.heap.size wm w' → Below w.heap.size w w') := fun w' hb => (below_step HB2.out HBm.out).trans (hb.mono (below_step HB2.out HBm.out).size)
        clear HMV HPL HPM HVM HVA HP2 HB2 HBm HTM HME
        have HT1 : Int.toNat (size : Int) = size := rfl
        change Hid (lists ((lists (dsp (Int.toNat (size : Int)) l).pref).map (mvL size k)) = lists (dsp (Int.toNat (size : Int)) M).pref) at HLP
        change Hid (lists ((lists (dsp (Int.toNat (size : Int)) l).comps).map (mvL size k)) = lists (dsp (Int.toNat (size : Int)) M).comps) at HLC
        clear HT1
        generalize (dsp (Int.toNat (size : Int)) M) = e2 at *
        generalize (dsp (Int.toNat (size : Int)) l) = d at *
        go_upto_region 14 with (first
          | (go_at_call 28; with_reducible refine (C1.out _ (Below.refl _ _)).mono ?_; rintro e w3 ⟨a3, m3, c3, rfl, hi3, -, hb3⟩; have HI3 := hid hi3; have HB3 := hid hb3; clear hi3 hb3)
          | (go_at_call 28; with_reducible refine (C2.out _ HB3.out).mono ?_; rintro e w4 ⟨a4, m4, c4, rfl, hi4, -, hb4⟩; have HJ4 := hid hi4; have HI4 := hid (isLL_below HI3.out hb4); have HB4 := hid (below_step HB3.out hb4); clear hi4 hb4)
          | (go_at_call 29; with_reducible refine (C3.out _ HB4.out).mono ?_; rintro e w5 ⟨a5, m5, c5, rfl, hi5, -, hb5⟩; have HC5 := hid hi5; have HJ5 := hid (isLL_below HJ4.out hb5); have HI5 := hid (isLL_below HI4.out hb5); have HB5 := hid (below_step HB4.out hb5); clear hi5 hb5)
          | (go_at_call 29; with_reducible refine (C4.out _ HB5.out).mono ?_; rintro e w6 ⟨a6, m6, c6, rfl, hi6, -, hb6⟩; have HD6 := hid hi6; have HC6 := hid (isLL_below HC5.out hb6); have HJ6 := hid (isLL_below HJ5.out hb6); have HI6 := hid (isLL_below HI5.out hb6); have HB6 := hid (below_step HB5.out hb6); clear hi6 hb6)
          | fail)
        have S1 : Hid (Calls Try.prog 31 #[.slice a3 m3 c3, .int .i64 (k : Int), .int .i64 (size : Int)] w6 fun e w' => ∃ u, e = .returned u ∧ IsLL w' u (lists e2.pref) ∧ Below w6.heap.size w6 w') := by
          have h := moved_any _ _ size k w6 HI6.out HRP.out hkz (by omega) HNP.out
          rw [HLP.out] at h
          exact h
        have S2 : Hid (∀ w', Below w6.heap.size w6 w' → Calls Try.prog 31 #[.slice a5 m5 c5, .int .i64 (k : Int), .int .i64 (size : Int)] w' fun e w'' => ∃ u, e = .returned u ∧ IsLL w'' u (lists e2.comps) ∧ Below w'.heap.size w' w'') := fun w' hb => by
          have h := moved_any _ _ size k w' (isLL_below HC6.out hb) HRC.out hkz (by omega) HNC.out
          rw [HLC.out] at h
          exact h
        have T1 : Hid (∀ w' u, Below w6.heap.size w6 w' → IsLL w' u (lists e2.pref) → Calls Try.prog 30 #[u, .slice a4 m4 c4] w' fun e w'' => e = .returned (.bool true) ∧ Below w'.heap.size w' w'') := fun w' u hb hu => by
          have h := same_any _ _ _ _ w' hu (isLL_below HJ6.out hb)
          rw [beq_self_eq_true] at h
          exact h
        have T2 : Hid (∀ w' u, Below w6.heap.size w6 w' → IsLL w' u (lists e2.comps) → Calls Try.prog 30 #[u, .slice a6 m6 c6] w' fun e w'' => e = .returned (.bool true) ∧ Below w'.heap.size w' w'') := fun w' u hb hu => by
          have h := same_any _ _ _ _ w' hu (isLL_below HD6.out hb)
          rw [beq_self_eq_true] at h
          exact h
        clear C1 C2 C3 C4 HI3 HI4 HJ4 HI5 HJ5 HC5 HI6 HJ6 HC6 HD6 HLP HLC HRP HRC HNP HNC HB3 HB4 HB5
        go_wp2_with (first
          | (go_at_call 31; with_reducible refine S1.out.mono ?_; rintro e w7 ⟨u7, rfl, hi7, hb7⟩; have HI7 := hid hi7; have HB7 := hid hb7; clear hi7 hb7)
          | (go_at_call 30; with_reducible refine (T1.out _ _ HB7.out HI7.out).mono ?_; rintro e w8 ⟨rfl, hb8⟩; have HB8 := hid (below_step HB7.out hb8); clear hb8)
          | (go_at_call 31; with_reducible refine (S2.out _ HB8.out).mono ?_; rintro e w9 ⟨u9, rfl, hi9, hb9⟩; have HI9 := hid hi9; have HB9 := hid (below_step HB8.out hb9); clear hi9 hb9)
          | (go_at_call 30; with_reducible refine (T2.out _ _ HB9.out HI9.out).mono ?_; rintro e w10 ⟨rfl, hb10⟩; have HB10 := hid (below_step HB9.out hb10); clear hb10)
          | (go_at_call 20; refine (lives_any _).mono ?_; rintro e w11 ⟨rfl, hb11⟩; have HB11 := hid (below_step HB10.out hb11); clear hb11)
          | fail)
        go_ret
        exact ⟨rfl, FIN.out _ (below_step HB6.out HB11.out)⟩
      · have HME := HME0
        have HVM : Hid (validP (size : Int) M0 = true) := valid_sub HVA.out (by omega) HIN0.out
        have HTM := HT
        have HBm := HBr
        clear HME0 HIN0
        obtain ⟨M, rfl⟩ : ∃ M, M = M0 := ⟨_, rfl⟩
        obtain ⟨wm, rfl⟩ : ∃ wm, wm = wr := ⟨_, rfl⟩
        by_cases h0 : mn = 0
        · subst h0
          clear hmn hml HMN
          go_upto_region 10 with fail
          have HMV := names_moved HVA.out hkz HME.out
          have HLP := hid (names_lists (d := (dsp (Int.toNat (size : Int)) l)) hkz (by show size ≤ 16; omega) (fun s hs => pref_lt _ s hs) HMV.pref)
          have HLC := hid (names_lists (d := (dsp (Int.toNat (size : Int)) l)) hkz (by show size ≤ 16; omega) (fun s hs => comps_lt _ s hs) HMV.comps)
          have HRP := hid (rows_lt (n := size) (L := (dsp (Int.toNat (size : Int)) l).pref) (fun s hs => pref_lt _ s hs))
          have HRC := hid (rows_lt (n := size) (L := (dsp (Int.toNat (size : Int)) l).comps) (fun s hs => comps_lt _ s hs))
          have HNP : Hid ((lists (dsp (Int.toNat (size : Int)) l).pref).length ≤ 5000) := by show _ ≤ _; rw [lists_len]; exact (small_pref _ (by show size ≤ 12; omega)).2
          have HNC : Hid ((lists (dsp (Int.toNat (size : Int)) l).comps).length ≤ 5000) := by show _ ≤ _; rw [lists_len]; exact (small_comps _ (by show size ≤ 12; omega)).2
          have HPL : Hid (∀ w', Below wm.heap.size wm w' → IsPr w' (.slice na l.length nc) l) := fun w' hb => HP2.out w' (HBm.out.trans (hb.mono HBm.out.size))
          have HPM : Hid (∀ w', Below wm.heap.size wm w' → IsPr w' (.slice ma 0 mc) M) := ownP_all HTM.out HVM.out
          have C1 : Hid (∀ w', Below wm.heap.size wm w' → Calls Try.prog 28 #[.int .i64 (size : Int), .slice na l.length nc] w' fun e w'' => ∃ a m c, e = .returned (.tuple #[.slice a m c, .int .i64 0]) ∧ IsLL w'' (.slice a m c) (lists (dsp (Int.toNat (size : Int)) l).pref) ∧ m = (dsp (Int.toNat (size : Int)) l).pref.length ∧ Below w'.heap.size w' w'') := fun w' hb => retLL_ok (w0 := w') (pPreferred_any _ _ _ w' (HPL.out w' hb)) HVA.out
          have C2 : Hid (∀ w', Below wm.heap.size wm w' → Calls Try.prog 28 #[.int .i64 (size : Int), .slice ma 0 mc] w' fun e w'' => ∃ a m c, e = .returned (.tuple #[.slice a m c, .int .i64 0]) ∧ IsLL w'' (.slice a m c) (lists (dsp (Int.toNat (size : Int)) M).pref) ∧ m = (dsp (Int.toNat (size : Int)) M).pref.length ∧ Below w'.heap.size w' w'') := fun w' hb => retLL_ok (w0 := w') (pPreferred_any _ _ _ w' (HPM.out w' hb)) HVM.out
          have C3 : Hid (∀ w', Below wm.heap.size wm w' → Calls Try.prog 29 #[.int .i64 (size : Int), .slice na l.length nc] w' fun e w'' => ∃ a m c, e = .returned (.tuple #[.slice a m c, .int .i64 0]) ∧ IsLL w'' (.slice a m c) (lists (dsp (Int.toNat (size : Int)) l).comps) ∧ m = (dsp (Int.toNat (size : Int)) l).comps.length ∧ Below w'.heap.size w' w'') := fun w' hb => retLL_ok (w0 := w') (pComplete_any _ _ _ w' (HPL.out w' hb)) HVA.out
          have C4 : Hid (∀ w', Below wm.heap.size wm w' → Calls Try.prog 29 #[.int .i64 (size : Int), .slice ma 0 mc] w' fun e w'' => ∃ a m c, e = .returned (.tuple #[.slice a m c, .int .i64 0]) ∧ IsLL w'' (.slice a m c) (lists (dsp (Int.toNat (size : Int)) M).comps) ∧ m = (dsp (Int.toNat (size : Int)) M).comps.length ∧ Below w'.heap.size w' w'') := fun w' hb => retLL_ok (w0 := w') (pComplete_any _ _ _ w' (HPM.out w' hb)) HVM.out
          have FIN : Hid (∀ w', Below wm.heap.size wm w' → Below w.heap.size w w') := fun w' hb => (below_step HB2.out HBm.out).trans (hb.mono (below_step HB2.out HBm.out).size)
          clear HMV HPL HPM HVM HVA HP2 HB2 HBm HTM HME
          have HT1 : Int.toNat (size : Int) = size := rfl
          change Hid (lists ((lists (dsp (Int.toNat (size : Int)) l).pref).map (mvL size k)) = lists (dsp (Int.toNat (size : Int)) M).pref) at HLP
          change Hid (lists ((lists (dsp (Int.toNat (size : Int)) l).comps).map (mvL size k)) = lists (dsp (Int.toNat (size : Int)) M).comps) at HLC
          clear HT1
          generalize (dsp (Int.toNat (size : Int)) M) = e2 at *
          generalize (dsp (Int.toNat (size : Int)) l) = d at *
          go_upto_region 14 with (first
            | (go_at_call 28; with_reducible refine (C1.out _ (Below.refl _ _)).mono ?_; rintro e w3 ⟨a3, m3, c3, rfl, hi3, -, hb3⟩; have HI3 := hid hi3; have HB3 := hid hb3; clear hi3 hb3)
            | (go_at_call 28; with_reducible refine (C2.out _ HB3.out).mono ?_; rintro e w4 ⟨a4, m4, c4, rfl, hi4, -, hb4⟩; have HJ4 := hid hi4; have HI4 := hid (isLL_below HI3.out hb4); have HB4 := hid (below_step HB3.out hb4); clear hi4 hb4)
            | (go_at_call 29; with_reducible refine (C3.out _ HB4.out).mono ?_; rintro e w5 ⟨a5, m5, c5, rfl, hi5, -, hb5⟩; have HC5 := hid hi5; have HJ5 := hid (isLL_below HJ4.out hb5); have HI5 := hid (isLL_below HI4.out hb5); have HB5 := hid (below_step HB4.out hb5); clear hi5 hb5)
            | (go_at_call 29; with_reducible refine (C4.out _ HB5.out).mono ?_; rintro e w6 ⟨a6, m6, c6, rfl, hi6, -, hb6⟩; have HD6 := hid hi6; have HC6 := hid (isLL_below HC5.out hb6); have HJ6 := hid (isLL_below HJ5.out hb6); have HI6 := hid (isLL_below HI5.out hb6); have HB6 := hid (below_step HB5.out hb6); clear hi6 hb6)
            | fail)
          have S1 : Hid (Calls Try.prog 31 #[.slice a3 m3 c3, .int .i64 (k : Int), .int .i64 (size : Int)] w6 fun e w' => ∃ u, e = .returned u ∧ IsLL w' u (lists e2.pref) ∧ Below w6.heap.size w6 w') := by
            have h := moved_any _ _ size k w6 HI6.out HRP.out hkz (by omega) HNP.out
            rw [HLP.out] at h
            exact h
          have S2 : Hid (∀ w', Below w6.heap.size w6 w' → Calls Try.prog 31 #[.slice a5 m5 c5, .int .i64 (k : Int), .int .i64 (size : Int)] w' fun e w'' => ∃ u, e = .returned u ∧ IsLL w'' u (lists e2.comps) ∧ Below w'.heap.size w' w'') := fun w' hb => by
            have h := moved_any _ _ size k w' (isLL_below HC6.out hb) HRC.out hkz (by omega) HNC.out
            rw [HLC.out] at h
            exact h
          have T1 : Hid (∀ w' u, Below w6.heap.size w6 w' → IsLL w' u (lists e2.pref) → Calls Try.prog 30 #[u, .slice a4 m4 c4] w' fun e w'' => e = .returned (.bool true) ∧ Below w'.heap.size w' w'') := fun w' u hb hu => by
            have h := same_any _ _ _ _ w' hu (isLL_below HJ6.out hb)
            rw [beq_self_eq_true] at h
            exact h
          have T2 : Hid (∀ w' u, Below w6.heap.size w6 w' → IsLL w' u (lists e2.comps) → Calls Try.prog 30 #[u, .slice a6 m6 c6] w' fun e w'' => e = .returned (.bool true) ∧ Below w'.heap.size w' w'') := fun w' u hb hu => by
            have h := same_any _ _ _ _ w' hu (isLL_below HD6.out hb)
            rw [beq_self_eq_true] at h
            exact h
          clear C1 C2 C3 C4 HI3 HI4 HJ4 HI5 HJ5 HC5 HI6 HJ6 HC6 HD6 HLP HLC HRP HRC HNP HNC HB3 HB4 HB5
          go_wp2_with (first
            | (go_at_call 31; with_reducible refine S1.out.mono ?_; rintro e w7 ⟨u7, rfl, hi7, hb7⟩; have HI7 := hid hi7; have HB7 := hid hb7; clear hi7 hb7)
            | (go_at_call 30; with_reducible refine (T1.out _ _ HB7.out HI7.out).mono ?_; rintro e w8 ⟨rfl, hb8⟩; have HB8 := hid (below_step HB7.out hb8); clear hb8)
            | (go_at_call 31; with_reducible refine (S2.out _ HB8.out).mono ?_; rintro e w9 ⟨u9, rfl, hi9, hb9⟩; have HI9 := hid hi9; have HB9 := hid (below_step HB8.out hb9); clear hi9 hb9)
            | (go_at_call 30; with_reducible refine (T2.out _ _ HB9.out HI9.out).mono ?_; rintro e w10 ⟨rfl, hb10⟩; have HB10 := hid (below_step HB9.out hb10); clear hb10)
            | (go_at_call 20; refine (lives_any _).mono ?_; rintro e w11 ⟨rfl, hb11⟩; have HB11 := hid (below_step HB10.out hb11); clear hb11)
            | fail)
          go_ret
          exact ⟨rfl, FIN.out _ (below_step HB6.out HB11.out)⟩
        · have hge : ¬ mn < 40 := fun h => hcase ⟨Nat.pos_of_ne_zero h0, h⟩
          have hpos : 0 < mn := Nat.pos_of_ne_zero h0
          clear hmn hml HMN
          go_upto_region 10 with fail
          have HMV := names_moved HVA.out hkz HME.out
          have HLP := hid (names_lists (d := (dsp (Int.toNat (size : Int)) l)) hkz (by show size ≤ 16; omega) (fun s hs => pref_lt _ s hs) HMV.pref)
          have HLC := hid (names_lists (d := (dsp (Int.toNat (size : Int)) l)) hkz (by show size ≤ 16; omega) (fun s hs => comps_lt _ s hs) HMV.comps)
          have HRP := hid (rows_lt (n := size) (L := (dsp (Int.toNat (size : Int)) l).pref) (fun s hs => pref_lt _ s hs))
          have HRC := hid (rows_lt (n := size) (L := (dsp (Int.toNat (size : Int)) l).comps) (fun s hs => comps_lt _ s hs))
          have HNP : Hid ((lists (dsp (Int.toNat (size : Int)) l).pref).length ≤ 5000) := by show _ ≤ _; rw [lists_len]; exact (small_pref _ (by show size ≤ 12; omega)).2
          have HNC : Hid ((lists (dsp (Int.toNat (size : Int)) l).comps).length ≤ 5000) := by show _ ≤ _; rw [lists_len]; exact (small_comps _ (by show size ≤ 12; omega)).2
          have HPL : Hid (∀ w', Below wm.heap.size wm w' → IsPr w' (.slice na l.length nc) l) := fun w' hb => HP2.out w' (HBm.out.trans (hb.mono HBm.out.size))
          have HPM : Hid (∀ w', Below wm.heap.size wm w' → IsPr w' (.slice ma mn mc) M) := ownP_all HTM.out HVM.out
          have C1 : Hid (∀ w', Below wm.heap.size wm w' → Calls Try.prog 28 #[.int .i64 (size : Int), .slice na l.length nc] w' fun e w'' => ∃ a m c, e = .returned (.tuple #[.slice a m c, .int .i64 0]) ∧ IsLL w'' (.slice a m c) (lists (dsp (Int.toNat (size : Int)) l).pref) ∧ m = (dsp (Int.toNat (size : Int)) l).pref.length ∧ Below w'.heap.size w' w'') := fun w' hb => retLL_ok (w0 := w') (pPreferred_any _ _ _ w' (HPL.out w' hb)) HVA.out
          have C2 : Hid (∀ w', Below wm.heap.size wm w' → Calls Try.prog 28 #[.int .i64 (size : Int), .slice ma mn mc] w' fun e w'' => ∃ a m c, e = .returned (.tuple #[.slice a m c, .int .i64 0]) ∧ IsLL w'' (.slice a m c) (lists (dsp (Int.toNat (size : Int)) M).pref) ∧ m = (dsp (Int.toNat (size : Int)) M).pref.length ∧ Below w'.heap.size w' w'') := fun w' hb => retLL_ok (w0 := w') (pPreferred_any _ _ _ w' (HPM.out w' hb)) HVM.out
          have C3 : Hid (∀ w', Below wm.heap.size wm w' → Calls Try.prog 29 #[.int .i64 (size : Int), .slice na l.length nc] w' fun e w'' => ∃ a m c, e = .returned (.tuple #[.slice a m c, .int .i64 0]) ∧ IsLL w'' (.slice a m c) (lists (dsp (Int.toNat (size : Int)) l).comps) ∧ m = (dsp (Int.toNat (size : Int)) l).comps.length ∧ Below w'.heap.size w' w'') := fun w' hb => retLL_ok (w0 := w') (pComplete_any _ _ _ w' (HPL.out w' hb)) HVA.out
          have C4 : Hid (∀ w', Below wm.heap.size wm w' → Calls Try.prog 29 #[.int .i64 (size : Int), .slice ma mn mc] w' fun e w'' => ∃ a m c, e = .returned (.tuple #[.slice a m c, .int .i64 0]) ∧ IsLL w'' (.slice a m c) (lists (dsp (Int.toNat (size : Int)) M).comps) ∧ m = (dsp (Int.toNat (size : Int)) M).comps.length ∧ Below w'.heap.size w' w'') := fun w' hb => retLL_ok (w0 := w') (pComplete_any _ _ _ w' (HPM.out w' hb)) HVM.out
          have FIN : Hid (∀ w', Below wm.heap.size wm w' → Below w.heap.size w w') := fun w' hb => (below_step HB2.out HBm.out).trans (hb.mono (below_step HB2.out HBm.out).size)
          clear HMV HPL HPM HVM HVA HP2 HB2 HBm HTM HME
          have HT1 : Int.toNat (size : Int) = size := rfl
          change Hid (lists ((lists (dsp (Int.toNat (size : Int)) l).pref).map (mvL size k)) = lists (dsp (Int.toNat (size : Int)) M).pref) at HLP
          change Hid (lists ((lists (dsp (Int.toNat (size : Int)) l).comps).map (mvL size k)) = lists (dsp (Int.toNat (size : Int)) M).comps) at HLC
          clear HT1
          generalize (dsp (Int.toNat (size : Int)) M) = e2 at *
          generalize (dsp (Int.toNat (size : Int)) l) = d at *
          go_upto_region 14 with (first
            | (go_at_call 28; with_reducible refine (C1.out _ (Below.refl _ _)).mono ?_; rintro e w3 ⟨a3, m3, c3, rfl, hi3, -, hb3⟩; have HI3 := hid hi3; have HB3 := hid hb3; clear hi3 hb3)
            | (go_at_call 28; with_reducible refine (C2.out _ HB3.out).mono ?_; rintro e w4 ⟨a4, m4, c4, rfl, hi4, -, hb4⟩; have HJ4 := hid hi4; have HI4 := hid (isLL_below HI3.out hb4); have HB4 := hid (below_step HB3.out hb4); clear hi4 hb4)
            | (go_at_call 29; with_reducible refine (C3.out _ HB4.out).mono ?_; rintro e w5 ⟨a5, m5, c5, rfl, hi5, -, hb5⟩; have HC5 := hid hi5; have HJ5 := hid (isLL_below HJ4.out hb5); have HI5 := hid (isLL_below HI4.out hb5); have HB5 := hid (below_step HB4.out hb5); clear hi5 hb5)
            | (go_at_call 29; with_reducible refine (C4.out _ HB5.out).mono ?_; rintro e w6 ⟨a6, m6, c6, rfl, hi6, -, hb6⟩; have HD6 := hid hi6; have HC6 := hid (isLL_below HC5.out hb6); have HJ6 := hid (isLL_below HJ5.out hb6); have HI6 := hid (isLL_below HI5.out hb6); have HB6 := hid (below_step HB5.out hb6); clear hi6 hb6)
            | fail)
          have S1 : Hid (Calls Try.prog 31 #[.slice a3 m3 c3, .int .i64 (k : Int), .int .i64 (size : Int)] w6 fun e w' => ∃ u, e = .returned u ∧ IsLL w' u (lists e2.pref) ∧ Below w6.heap.size w6 w') := by
            have h := moved_any _ _ size k w6 HI6.out HRP.out hkz (by omega) HNP.out
            rw [HLP.out] at h
            exact h
          have S2 : Hid (∀ w', Below w6.heap.size w6 w' → Calls Try.prog 31 #[.slice a5 m5 c5, .int .i64 (k : Int), .int .i64 (size : Int)] w' fun e w'' => ∃ u, e = .returned u ∧ IsLL w'' u (lists e2.comps) ∧ Below w'.heap.size w' w'') := fun w' hb => by
            have h := moved_any _ _ size k w' (isLL_below HC6.out hb) HRC.out hkz (by omega) HNC.out
            rw [HLC.out] at h
            exact h
          have T1 : Hid (∀ w' u, Below w6.heap.size w6 w' → IsLL w' u (lists e2.pref) → Calls Try.prog 30 #[u, .slice a4 m4 c4] w' fun e w'' => e = .returned (.bool true) ∧ Below w'.heap.size w' w'') := fun w' u hb hu => by
            have h := same_any _ _ _ _ w' hu (isLL_below HJ6.out hb)
            rw [beq_self_eq_true] at h
            exact h
          have T2 : Hid (∀ w' u, Below w6.heap.size w6 w' → IsLL w' u (lists e2.comps) → Calls Try.prog 30 #[u, .slice a6 m6 c6] w' fun e w'' => e = .returned (.bool true) ∧ Below w'.heap.size w' w'') := fun w' u hb hu => by
            have h := same_any _ _ _ _ w' hu (isLL_below HD6.out hb)
            rw [beq_self_eq_true] at h
            exact h
          clear C1 C2 C3 C4 HI3 HI4 HJ4 HI5 HJ5 HC5 HI6 HJ6 HC6 HD6 HLP HLC HRP HRC HNP HNC HB3 HB4 HB5
          go_wp2_with (first
            | (go_at_call 31; with_reducible refine S1.out.mono ?_; rintro e w7 ⟨u7, rfl, hi7, hb7⟩; have HI7 := hid hi7; have HB7 := hid hb7; clear hi7 hb7)
            | (go_at_call 30; with_reducible refine (T1.out _ _ HB7.out HI7.out).mono ?_; rintro e w8 ⟨rfl, hb8⟩; have HB8 := hid (below_step HB7.out hb8); clear hb8)
            | (go_at_call 31; with_reducible refine (S2.out _ HB8.out).mono ?_; rintro e w9 ⟨u9, rfl, hi9, hb9⟩; have HI9 := hid hi9; have HB9 := hid (below_step HB8.out hb9); clear hi9 hb9)
            | (go_at_call 30; with_reducible refine (T2.out _ _ HB9.out HI9.out).mono ?_; rintro e w10 ⟨rfl, hb10⟩; have HB10 := hid (below_step HB9.out hb10); clear hb10)
            | (go_at_call 20; refine (lives_any _).mono ?_; rintro e w11 ⟨rfl, hb11⟩; have HB11 := hid (below_step HB10.out hb11); clear hb11)
            | fail)
          go_ret
          exact ⟨rfl, FIN.out _ (below_step HB6.out HB11.out)⟩
    · obtain ⟨i, rfl⟩ : ∃ i, j = i + 1 := ⟨j - 1, by omega⟩
      have hzi : z = (i : Int) := by omega
      subst hzi
      have hil : i < l.length := by omega
      obtain ⟨g, rfl, -, c0, c1⟩ := isPr_at (HP2.out wr HBr.out) i hil
      have hin := valid_all HVA.out _ (List.mem_of_getElem? (prAt_eq l i hil))
      have KEEP2 : Hid (∀ w', Below w2.heap.size w2 w' → w'.cell? ⟨g, i * 2, none⟩ = some (.int .i64 (prAt l i).1) ∧ w'.cell? ⟨g, i * 2 + 1, none⟩ = some (.int .i64 (prAt l i).2)) := fun w' hb => by
        obtain ⟨g', e, _, d0, d1⟩ := isPr_at (HP2.out w' hb) i hil
        cases e
        exact ⟨d0, d1⟩
      have HRS := hid (revM_step size k l i hil)
      have HLN : Hid ((revM size k l (i + 1)).length + 1 ≤ 1000000) := by have := revM_len size k l (i + 1); show _ ≤ _; omega
      obtain ⟨K, hK⟩ : ∃ K, K = revM size k l (i + 1) := ⟨_, rfl⟩
      rw [← hK] at HT HRS HLN
      clear hK c0 c1
      obtain ⟨⟨x0, y0⟩, hxy⟩ : ∃ p, p = prAt l i := ⟨_, rfl⟩
      rw [← hxy] at hin KEEP2 HRS
      dsimp only at hin KEEP2
      have hin2 : 0 ≤ x0 ∧ x0 < (size : Int) ∧ 0 ≤ y0 ∧ y0 < (size : Int) := of_decide_eq_true hin
      obtain ⟨x1, x2, y1, y2⟩ := hin2
      obtain ⟨x, hxe⟩ : ∃ x, x = (x0 + (k : Int)) % (size : Int) := ⟨_, rfl⟩
      obtain ⟨y, hye⟩ : ∃ y, y = (y0 + (k : Int)) % (size : Int) := ⟨_, rfl⟩
      have HX : Hid ((x0 + (k : Int)).tmod (size : Int) = x) := by show _ = _; rw [hxe]; exact Int.tmod_eq_emod_of_nonneg (by omega)
      have HY : Hid ((y0 + (k : Int)).tmod (size : Int) = y) := by show _ = _; rw [hye]; exact Int.tmod_eq_emod_of_nonneg (by omega)
      have HK2 : Hid (revM size k l i = K ++ [(x, y)]) := by
        show _ = _
        rw [HRS.out, hxe, hye]; rfl
      have KEEP : Hid (∀ w', Below wr.heap.size wr w' → w'.cell? ⟨g, i * 2, none⟩ = some (.int .i64 x0) ∧ w'.cell? ⟨g, i * 2 + 1, none⟩ = some (.int .i64 y0)) := fun w' hb => KEEP2.out w' (HBr.out.trans (hb.mono HBr.out.size))
      clear hin hxy hxe hye HRS hz hj hj0
      go_upto_region 7 with fail
      refine wp_region_held_drew (S := fun w' => w'.cell? ⟨g, i * 2, none⟩ = some (.int .i64 x0) ∧ w'.cell? ⟨g, i * 2 + 1, none⟩ = some (.int .i64 y0)) (by kernel_rfl) (KEEP.out _ ((Below.refl _ _).drew)) (fun hHeld => ?_)
      have HU0 : Hid (Below wr.heap.size wr wr.drew) := (Below.refl _ _).drew
      generalize wr.drew = u0 at *
      refine take_at (i := 0) 38 (v := ov) rfl (by kernel_rfl) (by kernel_rfl) (by kernel_rfl) rfl (fun _ _ _ h => h) (by rfl) (fun w hSw => ?_) hHeld ?_
      · (try dsimp only at hSw); go_simp
      simp only [Act.put, List.setIfInBounds_toArray, List.set_cons_zero, List.set_cons_succ]
      refine take_at (i := 1) 39 (v := .slice (some ⟨g, 0, none⟩) l.length nc) rfl (by kernel_rfl) (by kernel_rfl) (by kernel_rfl) rfl (fun _ _ _ h => h) (by rfl) (fun w hSw => ?_) hHeld ?_
      · (try dsimp only at hSw); go_simp
      simp only [Act.put, List.setIfInBounds_toArray, List.set_cons_zero, List.set_cons_succ]
      refine take_at (i := 2) 40 (v := .int .i64 (i : Int)) rfl (by kernel_rfl) (by kernel_rfl) (by kernel_rfl) rfl (fun _ _ _ h => h) (by rfl) (fun w hSw => ?_) hHeld ?_
      · (try dsimp only at hSw); go_simp
      simp only [Act.put, List.setIfInBounds_toArray, List.set_cons_zero, List.set_cons_succ]
      refine take_at (i := 3) 41 (v := .pointer (some ⟨g, i * 2, none⟩)) rfl (by kernel_rfl) (by kernel_rfl) (by kernel_rfl) rfl (fun _ _ _ h => h) (by rfl) (fun w hSw => ?_) hHeld ?_
      · (try dsimp only at hSw); go_simp
      simp only [Act.put, List.setIfInBounds_toArray, List.set_cons_zero, List.set_cons_succ]
      refine take_at (i := 4) 42 (v := .pointer (some ⟨g, i * 2, none⟩)) rfl (by kernel_rfl) (by kernel_rfl) (by kernel_rfl) rfl (fun _ _ _ h => h) (by rfl) (fun w hSw => ?_) hHeld ?_
      · (try dsimp only at hSw); go_simp
      simp only [Act.put, List.setIfInBounds_toArray, List.set_cons_zero, List.set_cons_succ]
      refine take_at (i := 5) 43 (v := .int .i64 x0) rfl (by kernel_rfl) (by kernel_rfl) (by kernel_rfl) rfl (fun _ _ _ h => h) (by rfl) (fun w hSw => ?_) hHeld ?_
      · (try dsimp only at hSw); go_simp
      simp only [Act.put, List.setIfInBounds_toArray, List.set_cons_zero, List.set_cons_succ]
      refine take_at (i := 6) 44 (v := .int .i64 (k : Int)) rfl (by kernel_rfl) (by kernel_rfl) (by kernel_rfl) rfl (fun _ _ _ h => h) (by rfl) (fun w hSw => ?_) hHeld ?_
      · (try dsimp only at hSw); go_simp
      simp only [Act.put, List.setIfInBounds_toArray, List.set_cons_zero, List.set_cons_succ]
      refine take_at (i := 7) 45 (v := .int .i64 (x0 + (k : Int))) rfl (by kernel_rfl) (by kernel_rfl) (by kernel_rfl) rfl (fun _ _ _ h => h) (by rfl) (fun w hSw => ?_) hHeld ?_
      · (try dsimp only at hSw); go_simp; first | done | (rw [IntKind.wrap_i64]; omega)
      simp only [Act.put, List.setIfInBounds_toArray, List.set_cons_zero, List.set_cons_succ]
      refine take_at (i := 8) 46 (v := .int .i64 size) rfl (by kernel_rfl) (by kernel_rfl) (by kernel_rfl) rfl (fun _ _ _ h => h) (by rfl) (fun w hSw => ?_) hHeld ?_
      · (try dsimp only at hSw); go_simp
      simp only [Act.put, List.setIfInBounds_toArray, List.set_cons_zero, List.set_cons_succ]
      refine take_at (i := 9) 47 (v := .int .i64 x) rfl (by kernel_rfl) (by kernel_rfl) (by kernel_rfl) rfl (fun _ _ _ h => h) (by rfl) (fun w hSw => ?_) hHeld ?_
      · (try dsimp only at hSw); go_simp; exact HX.out
      simp only [Act.put, List.setIfInBounds_toArray, List.set_cons_zero, List.set_cons_succ]
      refine take_at (i := 10) 48 (v := .slice (some ⟨g, 0, none⟩) l.length nc) rfl (by kernel_rfl) (by kernel_rfl) (by kernel_rfl) rfl (fun _ _ _ h => h) (by rfl) (fun w hSw => ?_) hHeld ?_
      · (try dsimp only at hSw); go_simp
      simp only [Act.put, List.setIfInBounds_toArray, List.set_cons_zero, List.set_cons_succ]
      refine take_at (i := 11) 49 (v := .int .i64 (i : Int)) rfl (by kernel_rfl) (by kernel_rfl) (by kernel_rfl) rfl (fun _ _ _ h => h) (by rfl) (fun w hSw => ?_) hHeld ?_
      · (try dsimp only at hSw); go_simp
      simp only [Act.put, List.setIfInBounds_toArray, List.set_cons_zero, List.set_cons_succ]
      refine take_at (i := 12) 50 (v := .pointer (some ⟨g, i * 2, none⟩)) rfl (by kernel_rfl) (by kernel_rfl) (by kernel_rfl) rfl (fun _ _ _ h => h) (by rfl) (fun w hSw => ?_) hHeld ?_
      · (try dsimp only at hSw); go_simp
      simp only [Act.put, List.setIfInBounds_toArray, List.set_cons_zero, List.set_cons_succ]
      refine take_at (i := 13) 51 (v := .pointer (some ⟨g, i * 2 + 1, none⟩)) rfl (by kernel_rfl) (by kernel_rfl) (by kernel_rfl) rfl (fun _ _ _ h => h) (by rfl) (fun w hSw => ?_) hHeld ?_
      · (try dsimp only at hSw); go_simp
      simp only [Act.put, List.setIfInBounds_toArray, List.set_cons_zero, List.set_cons_succ]
      refine take_at (i := 14) 52 (v := .int .i64 y0) rfl (by kernel_rfl) (by kernel_rfl) (by kernel_rfl) rfl (fun _ _ _ h => h) (by rfl) (fun w hSw => ?_) hHeld ?_
      · (try dsimp only at hSw); go_simp
      simp only [Act.put, List.setIfInBounds_toArray, List.set_cons_zero, List.set_cons_succ]
      refine take_at (i := 15) 53 (v := .int .i64 (k : Int)) rfl (by kernel_rfl) (by kernel_rfl) (by kernel_rfl) rfl (fun _ _ _ h => h) (by rfl) (fun w hSw => ?_) hHeld ?_
      · (try dsimp only at hSw); go_simp
      simp only [Act.put, List.setIfInBounds_toArray, List.set_cons_zero, List.set_cons_succ]
      refine take_at (i := 16) 54 (v := .int .i64 (y0 + (k : Int))) rfl (by kernel_rfl) (by kernel_rfl) (by kernel_rfl) rfl (fun _ _ _ h => h) (by rfl) (fun w hSw => ?_) hHeld ?_
      · (try dsimp only at hSw); go_simp; first | done | (rw [IntKind.wrap_i64]; omega)
      simp only [Act.put, List.setIfInBounds_toArray, List.set_cons_zero, List.set_cons_succ]
      refine take_at (i := 17) 55 (v := .int .i64 size) rfl (by kernel_rfl) (by kernel_rfl) (by kernel_rfl) rfl (fun _ _ _ h => h) (by rfl) (fun w hSw => ?_) hHeld ?_
      · (try dsimp only at hSw); go_simp
      simp only [Act.put, List.setIfInBounds_toArray, List.set_cons_zero, List.set_cons_succ]
      refine take_at (i := 18) 56 (v := .int .i64 y) rfl (by kernel_rfl) (by kernel_rfl) (by kernel_rfl) rfl (fun _ _ _ h => h) (by rfl) (fun w hSw => ?_) hHeld ?_
      · (try dsimp only at hSw); go_simp; exact HY.out
      simp only [Act.put, List.setIfInBounds_toArray, List.set_cons_zero, List.set_cons_succ]
      refine take_at (i := 19) 57 (v := .agg #[.int .i64 x, .int .i64 y]) rfl (by kernel_rfl) (by kernel_rfl) (by kernel_rfl) rfl (fun _ _ _ h => h) (by rfl) (fun w hSw => ?_) hHeld ?_
      · (try dsimp only at hSw); go_simp
      simp only [Act.put, List.setIfInBounds_toArray, List.set_cons_zero, List.set_cons_succ]
      refine wpAnyH_ready (rs := [20]) (by kernel_rfl) (by simp) ?_
      refine node_build22 58 57 _ _ rfl rfl rfl rfl rfl (KEEP.out _ (Below.alloc HU0.out (Below.size HU0.out) _)) (fun hHeld => ?_) AllReadyH.nil
      · have HU1 := hid (Below.alloc HU0.out (Below.size HU0.out) (.cells #[.int .i64 x, .int .i64 y] 45))
        have HG1 := hid (heap_alloc_new u0 (.cells #[.int .i64 x, .int .i64 y] 45))
        have HP1 : Hid (OwnP (u0.alloc (.cells #[.int .i64 x, .int .i64 y] 45)) w2.heap.size 45 ov K) := row_below (row_below HT.out HU0.out) (ba u0 (.cells #[.int .i64 x, .int .i64 y] 45))
        obtain ⟨u1, hu1⟩ : ∃ v, v = u0.alloc (.cells #[.int .i64 x, .int .i64 y] 45) := ⟨_, rfl⟩
        obtain ⟨BX, hBX⟩ : ∃ b, b = u0.heap.size := ⟨_, rfl⟩
        rw [← hu1] at HU1 HG1 HP1 ⊢
        rw [← hBX] at HG1 ⊢
        replace hHeld := KEEP.out _ HU1.out
        clear hu1 hBX
        simp only [Act.put, List.setIfInBounds_toArray, List.set_cons_zero, List.set_cons_succ]
        refine wpAnyH_ready (rs := [21]) (by kernel_rfl) (by simp) ?_
        refine node_app22 59 w2.heap.size 38 58 ov K BX x y rfl rfl rfl rfl rfl rfl HG1.out HP1.out (Nat.le_trans HBr.out.size HU1.out.size) HLN.out ?_ AllReadyH.nil
        · intro v9 u2 ho2 hg2
          obtain ⟨ma, mc, rfl⟩ := row_slice ho2
          have HP2' := hid ho2
          have HU2 : Hid (Below w2.heap.size w2 u2) := (HBr.out.trans (HU1.out.mono HBr.out.size)).grown hg2 (Nat.le_trans HBr.out.size HU1.out.size) (fun k hk => (World.ownsRow.lt HP1.out k hk).1)
          refine ⟨KEEP2.out u2 HU2.out, ?_⟩
          have hHeld := KEEP2.out u2 HU2.out
          clear ho2 hg2
          simp only [Act.put, List.setIfInBounds_toArray, List.set_cons_zero, List.set_cons_succ]
          refine take_at (i := 22) 10 (v := .slice ma (K ++ [(x, y)]).length mc) rfl (by kernel_rfl) (by kernel_rfl) (by kernel_rfl) rfl (fun _ _ _ h => h) (by rfl) (fun w hSw => ?_) hHeld ?_
          · (try dsimp only at hSw); go_simp
          simp only [Act.put, List.setIfInBounds_toArray, List.set_cons_zero, List.set_cons_succ]
          refine wpAnyH_done (by kernel_rfl) ?_ _
          clear hHeld
          go_wp2_with fail
          go_roundw
          case rel => exact ⟨i, (i : Int) - 1, rfl, rfl, by omega, by rw [HK2.out]; exact HP2'.out, HU2.out⟩
          case measure => simp [intOf] <;> omega
end Go.Proofs.Ytaedbkdimpdngaa
