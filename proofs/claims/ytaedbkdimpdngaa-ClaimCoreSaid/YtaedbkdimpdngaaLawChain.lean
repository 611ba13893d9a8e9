/-
  The law ClaimChain of chapter 12: its contract.
-/
import Derived.Test.YtaedbkdimpdngaaWalkR
namespace Go.Proofs.Ytaedbkdimpdngaa
open Go.RowKit
theorem retLL_ok {w w0 : World} {k : Nat} {args : Array Value} {n : Int} {l : List Pr} {spec : Dsp → List Nat} (h : Calls Try.prog k args w (RetLL w n l spec)) (hva : validP n l = true) :
    Calls Try.prog k args w fun e w' => ∃ a m c, e = .returned (.tuple #[.slice a m c, .int .i64 0]) ∧ IsLL w' (.slice a m c) (lists (spec (dsp n.toNat l))) ∧ m = (spec (dsp n.toNat l)).length ∧ Below w.heap.size w w' :=
  h.mono fun e w' hp => by
    obtain ⟨hb, ⟨h2, _⟩ | ⟨_, u, he, x, rfl, hx⟩⟩ := hp
    · rw [hva] at h2; cases h2
    · obtain ⟨a, c, rfl, _⟩ := isLL_slice hx
      refine ⟨a, _, c, he, hx, ?_, hb⟩
      rw [(lists_perm _).length_eq, List.length_map]
theorem mem_lists (l : List Nat) (x : List Nat) : x ∈ lists l ↔ ∃ s, s ∈ l ∧ elems s = x := by
  rw [(lists_perm l).mem_iff, List.mem_map]
theorem subL_lists {A B : List Nat} (h : ∀ s, s ∈ A → s ∈ B) : subL (lists A) (lists B) = true := by
  unfold subL
  rw [List.all_eq_true]
  intro x hx
  obtain ⟨s, hs, rfl⟩ := (mem_lists A x).1 hx
  rw [List.any_eq_true]
  exact ⟨_, (mem_lists B _).2 ⟨s, h s hs, rfl⟩, by simp⟩
theorem semis_some (d : Dsp) : ∃ s, s ∈ d.semis := by
  obtain ⟨p, hp⟩ := d.pref_some
  obtain ⟨t, ht, _⟩ := grt_above (fun s => s ||| d.hit s) d.comps ((d.mem_comps p).2 (d.pref_comp hp))
  exact ⟨t, ht⟩
theorem len_pos {l : List Nat} (h : ∃ s, s ∈ l) : 0 < l.length := by
  obtain ⟨s, hs⟩ := h
  exact List.length_pos_of_mem hs
theorem isLL_eq {w : World} {a : Option Addr} {m c : Nat} {Ls : List (List Nat)} (h : IsLL w (.slice a m c) Ls) : m = Ls.length := by
  obtain ⟨a', c', e, _⟩ := isLL_slice h
  cases e; rfl
set_option maxRecDepth 100000 in
set_option maxHeartbeats 4000000 in
theorem ClaimChain_ok (nb : Int) (ja : Option Addr) (jn jc : Nat) (w : World) (hnb : 0 ≤ nb ∧ nb < 256) (hx : ArgAr w ja jn) :
    Calls Try.prog 9 #[.int .u8 nb, .slice ja jn jc] w fun e w' => e = .returned (.bool true) ∧ Below w.heap.size w w' := by
  have HM := hid (made_any nb ja jn jc 12 w hnb (by decide) hx)
  clear hnb hx
  go_enter Try.func9, Try.ntmps9
  go_upto_region 2 with (first | (go_at_call 27; refine (HM.out).mono ?_; rintro e w2 ⟨size, v2, l, rfl, hp2, hva, -, -, -, -, hb2⟩; have HB2 := hid hb2; have HVA := hid hva; have HP2 := hid hp2; clear hp2 hva hb2) | fail)
  have HPR : Hid (∀ w', Below w2.heap.size w2 w' → IsPr w' v2 l) := fun w' hb => isPr_below (ownP_isPr HP2.out (by have := HVA.out; unfold validP at this; simp only [Bool.and_eq_true, decide_eq_true_eq] at this; omega)) hb
  have C1 : Hid (∀ w', Below w2.heap.size w2 w' → Calls Try.prog 32 #[.int .i64 (size : Int), v2] w' fun e w'' => ∃ a m c, e = .returned (.tuple #[.slice a m c, .int .i64 0]) ∧ IsLL w'' (.slice a m c) (lists (dsp (Int.toNat (size : Int)) l).stabs) ∧ m = (dsp (Int.toNat (size : Int)) l).stabs.length ∧ Below w'.heap.size w' w'') := fun w' hb => retLL_ok (w0 := w') (pStable_any _ _ _ w' (HPR.out w' hb)) HVA.out
  have C2 : Hid (∀ w', Below w2.heap.size w2 w' → Calls Try.prog 35 #[.int .i64 (size : Int), v2] w' fun e w'' => ∃ a m c, e = .returned (.tuple #[.slice a m c, .int .i64 0]) ∧ IsLL w'' (.slice a m c) (lists (dsp (Int.toNat (size : Int)) l).semis) ∧ m = (dsp (Int.toNat (size : Int)) l).semis.length ∧ Below w'.heap.size w' w'') := fun w' hb => retLL_ok (w0 := w') (pSemi_any _ _ _ w' (HPR.out w' hb)) HVA.out
  have C3 : Hid (∀ w', Below w2.heap.size w2 w' → Calls Try.prog 28 #[.int .i64 (size : Int), v2] w' fun e w'' => ∃ a m c, e = .returned (.tuple #[.slice a m c, .int .i64 0]) ∧ IsLL w'' (.slice a m c) (lists (dsp (Int.toNat (size : Int)) l).pref) ∧ m = (dsp (Int.toNat (size : Int)) l).pref.length ∧ Below w'.heap.size w' w'') := fun w' hb => retLL_ok (w0 := w') (pPreferred_any _ _ _ w' (HPR.out w' hb)) HVA.out
  have C4 : Hid (∀ w', Below w2.heap.size w2 w' → Calls Try.prog 29 #[.int .i64 (size : Int), v2] w' fun e w'' => ∃ a m c, e = .returned (.tuple #[.slice a m c, .int .i64 0]) ∧ IsLL w'' (.slice a m c) (lists (dsp (Int.toNat (size : Int)) l).comps) ∧ m = (dsp (Int.toNat (size : Int)) l).comps.length ∧ Below w'.heap.size w' w'') := fun w' hb => retLL_ok (w0 := w') (pComplete_any _ _ _ w' (HPR.out w' hb)) HVA.out
  generalize dsp (Int.toNat (size : Int)) l = d at *
  go_upto_region 6 with (first
    | (go_at_call 32; refine (C1.out _ (Below.refl _ _)).mono ?_; rintro e w3 ⟨a3, m3, c3, rfl, hi3, hm3, hb3⟩; have HI3 := hid hi3; have HM3 := hid hm3; have HB3 := hid hb3; clear hi3 hm3 hb3)
    | (go_at_call 35; refine (C2.out _ HB3.out).mono ?_; rintro e w4 ⟨a4, m4, c4, rfl, hi4, hm4, hb4⟩; have HI4 := hid hi4; have HJ4 := hid (isLL_below HI3.out hb4); have HM4 := hid hm4; have HB4 := hid (below_step HB3.out hb4); clear hi4 hm4 hb4)
    | (go_at_call 28; refine (C3.out _ HB4.out).mono ?_; rintro e w5 ⟨a5, m5, c5, rfl, hi5, hm5, hb5⟩; have HI5 := hid hi5; have HJ5 := hid (isLL_below HJ4.out hb5); have HK5 := hid (isLL_below HI4.out hb5); have HM5 := hid hm5; have HB5 := hid (below_step HB4.out hb5); clear hi5 hm5 hb5)
    | (go_at_call 29; refine (C4.out _ HB5.out).mono ?_; rintro e w6 ⟨a6, m6, c6, rfl, hi6, hm6, hb6⟩; have HI6 := hid hi6; have HJ6 := hid (isLL_below HJ5.out hb6); have HK6 := hid (isLL_below HK5.out hb6); have HL6 := hid (isLL_below HI5.out hb6); have HB6 := hid (below_step HB5.out hb6); clear hi6 hm6 hb6)
    | fail)
  have S1 : Hid (∀ w', Below w6.heap.size w6 w' → Calls Try.prog 38 #[.slice a3 m3 c3, .slice a4 m4 c4] w' fun e w'' => e = .returned (.bool true) ∧ Below w'.heap.size w' w'') := fun w' hb => by
    have h := some_any _ _ _ _ w' (isLL_below HJ6.out hb) (isLL_below HK6.out hb)
    rw [subL_lists (fun s hs => d.stab_semi hs)] at h
    exact h
  have S2 : Hid (∀ w', Below w6.heap.size w6 w' → Calls Try.prog 38 #[.slice a4 m4 c4, .slice a5 m5 c5] w' fun e w'' => e = .returned (.bool true) ∧ Below w'.heap.size w' w'') := fun w' hb => by
    have h := some_any _ _ _ _ w' (isLL_below HK6.out hb) (isLL_below HL6.out hb)
    rw [subL_lists (fun s hs => d.semi_pref hs)] at h
    exact h
  have S3 : Hid (∀ w', Below w6.heap.size w6 w' → Calls Try.prog 38 #[.slice a5 m5 c5, .slice a6 m6 c6] w' fun e w'' => e = .returned (.bool true) ∧ Below w'.heap.size w' w'') := fun w' hb => by
    have h := some_any _ _ _ _ w' (isLL_below HL6.out hb) (isLL_below HI6.out hb)
    rw [subL_lists (fun s hs => (d.mem_comps s).2 (d.pref_comp hs))] at h
    exact h
  have hm4 : 0 < m4 := by rw [HM4.out]; exact len_pos (semis_some d)
  have hm5 : 0 < m5 := by rw [HM5.out]; exact len_pos d.pref_some
  have S4 : Hid (¬ m3 = 0 → ∀ w', Below w6.heap.size w6 w' → Calls Try.prog 30 #[.slice a3 m3 c3, .slice a4 m4 c4] w' fun e w'' => e = .returned (.bool true) ∧ Below w'.heap.size w' w'') := fun hne w' hb => by
    have h := same_any _ _ _ _ w' (isLL_below HJ6.out hb) (isLL_below HK6.out hb)
    have : ∃ s, s ∈ d.stabs := by
      cases e : d.stabs with
      | nil => rw [HM3.out, e] at hne; exact absurd rfl hne
      | cons s _ => exact ⟨s, by simp⟩
    obtain ⟨s, hs⟩ := this
    rw [d.stabs_eq hs] at h
    simpa using h
  have FIN : Hid (∀ w', Below w6.heap.size w6 w' → Below w.heap.size w w') := fun w' hb => HB2.out.trans ((below_step HB6.out hb).mono HB2.out.size)
  clear HM3 HM4 HM5 C1 C2 C3 C4
  by_cases hm3 : m3 = 0
  · subst hm3
    go_wp2_with (first
      | (go_at_call 38; with_reducible refine (S1.out _ (Below.refl _ _)).mono ?_; rintro e w7 ⟨rfl, hb7⟩; have HB7 := hid hb7; clear hb7)
      | (go_at_call 38; with_reducible refine (S2.out _ HB7.out).mono ?_; rintro e w8 ⟨rfl, hb8⟩; have HB8 := hid (below_step HB7.out hb8); clear hb8)
      | (go_at_call 38; with_reducible refine (S3.out _ HB8.out).mono ?_; rintro e w9 ⟨rfl, hb9⟩; have HB9 := hid (below_step HB8.out hb9); clear hb9)
      | (go_at_call 20; refine (lives_any _).mono ?_; rintro e w10 ⟨rfl, hb10⟩; have HB10 := hid (below_step HB9.out hb10); clear hb10)
      | fail)
    go_ret
    exact ⟨rfl, FIN.out _ HB10.out⟩
  · have S5 := hid (S4.out hm3)
    go_wp2_with (first
      | (go_at_call 38; with_reducible refine (S1.out _ (Below.refl _ _)).mono ?_; rintro e w7 ⟨rfl, hb7⟩; have HB7 := hid hb7; clear hb7)
      | (go_at_call 38; with_reducible refine (S2.out _ HB7.out).mono ?_; rintro e w8 ⟨rfl, hb8⟩; have HB8 := hid (below_step HB7.out hb8); clear hb8)
      | (go_at_call 38; with_reducible refine (S3.out _ HB8.out).mono ?_; rintro e w9 ⟨rfl, hb9⟩; have HB9 := hid (below_step HB8.out hb9); clear hb9)
      | (go_at_call 30; refine (S5.out _ HB9.out).mono ?_; rintro e w10 ⟨rfl, hb10⟩; have HB10 := hid (below_step HB9.out hb10); clear hb10)
      | (go_at_call 20; refine (lives_any _).mono ?_; rintro e w11 ⟨rfl, hb11⟩; have HB11 := hid (below_step HB10.out hb11); clear hb11)
      | fail)
    go_ret
    exact ⟨rfl, FIN.out _ HB11.out⟩
end Go.Proofs.Ytaedbkdimpdngaa
