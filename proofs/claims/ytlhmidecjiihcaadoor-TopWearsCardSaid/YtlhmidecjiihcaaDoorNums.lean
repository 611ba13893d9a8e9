/-
  Numbers are told (27).
-/
import Derived.Test.YtlhmidecjiihcaaDoorWalkZ
namespace Go.Proofs.YtlhmidecjiihcaaDoor
open Go.RowKit
set_option maxRecDepth 100000 in
set_option maxHeartbeats 4000000 in
theorem nums_any (v : Value) (ks : List Nat) (w : World) (hv : RatR w v (ks.map (fun k : Nat => (k : Int)))) (hk : ∀ k ∈ ks, k < 1000000000) :
    Calls Tryd.prog 27 #[v] w fun e w' => ∃ x, e = .returned (.tuple #[x, .int .i64 0]) ∧ OwnV w' w.heap.size 23 x (ks.map sd) ∧ Below w.heap.size w w' := by
  obtain ⟨s, k, rfl⟩ := hv.sh
  rw [List.length_map] at hv ⊢
  have HV : Hid (∀ w', Below w.heap.size w w' → RatR w' (.slice s ks.length k) (ks.map (fun k : Nat => (k : Int)))) := fun w' h => hv.below h
  obtain ⟨m, hm⟩ : ∃ m, m = ks.length := ⟨_, rfl⟩
  have hm1 : m ≤ 1000 := by obtain ⟨_, _, _, h, _⟩ := hv; rw [List.length_map] at h; omega
  have HM := hid hm
  rw [← hm] at HV ⊢
  clear hm hv
  go_enter Tryd.func27, Tryd.ntmps27
  go_wp2_with fail
  go_loopw [4, 11] (fun ov iv wr => ∃ i : Nat, iv = .int .i64 i ∧ i ≤ m ∧ Hid (Below w.heap.size w wr) ∧ (∃ s l k, ov = .slice s l k) ∧ Hid (OwnV wr w.heap.size 23 ov ((ks.take i).map sd))) (fun _ iv _ => m - (intOf iv).toNat)
  case atStart => exact ⟨0, rfl, Nat.zero_le _, Below.refl _ _, ⟨_, _, _, rfl⟩, ownV_nil _ _ _⟩
  case round =>
    obtain ⟨i, rfl, hi, HBr, ⟨os, ol, ok, rfl⟩, HOr⟩ := hrel
    by_cases hlt : i < m
    · obtain ⟨G, b5, a5, n5, c5, g5, d5, rfl, e0, e1, e2, e3, hz5⟩ := (HV.out wr HBr.out).at i (by rw [List.length_map, ← HM.out]; exact hlt)
      rw [getD_nat _ _ (by rw [← HM.out]; exact hlt)] at hz5
      have hkk : ks.getD i 0 < 1000000000 := hk _ (by rw [List.getD_eq_getElem?_getD, List.getElem?_eq_getElem (by rw [← HM.out]; exact hlt)]; exact List.getElem_mem _)
      obtain ⟨q, hq⟩ : ∃ q, q = ks.getD i 0 := ⟨_, rfl⟩
      rw [← hq] at hz5 hkk
      have HQ := hid hq
      have HZ5 := hid hz5
      have HB5 := hid (ba wr (.cells #[.bool b5, .slice a5 n5 c5, .bool false, .slice (some ⟨g5, 0, none⟩) 1 d5] 54))
      have NC := hid (rnum_any _ q _ (hz5.below HB5.out) hkk)
      obtain ⟨y0, y1, y2, y3⟩ := cells4_of (heap_alloc_new wr (.cells #[.bool b5, .slice a5 n5 c5, .bool false, .slice (some ⟨g5, 0, none⟩) 1 d5] 54))
      have HBr5 := hid (below_step HBr.out HB5.out)
      have HO5 := hid (ownV_below HOr.out HB5.out)
      have HLn : Hid (((ks.take i).map sd).length < 1000000) := by show _ < _; rw [List.length_map, List.length_take]; omega
      clear hz5 hq hkk
      go_upto_region 5 with fail
      clear e0 e1 e2 e3
      generalize wr.alloc (.cells #[.bool b5, .slice a5 n5 c5, .bool false, .slice (some ⟨g5, 0, none⟩) 1 d5] 54) = w5 at *
      go_wp2_with fail
      go_at_call 19
      refine NC.out.mono ?_
      rintro e w6 ⟨rfl, hb6⟩
      have HBr6 := hid (below_step HBr5.out hb6)
      have HO6 := hid (ownV_below HO5.out hb6)
      have HSZ : Hid (w.heap.size ≤ w6.heap.size) := HBr6.out.size
      clear hb6 y0 y1 y2 y3 HBr5 HO5 NC HBr HOr HB5 HZ5
      go_wp2_with (first
        | (at_builtin; refine wpl_app_v 22 23 (.string ⟨#[]⟩) 16 info23 rfl (by kernel_rfl) (by decide) (.string ⟨(dec q).toArray⟩) rfl _ _ (.slice os ol ok) w.heap.size ((ks.take i).map sd) (by rfl) (by rfl) (by rfl) (by rfl) HO6.out HLn.out HSZ.out ?_; intro v' w7 ho7 hb7 hg7; have HO7 := hid ho7; have HB7 := hid (HBr6.out.trans hb7); obtain ⟨sa, sn, sc, rfl⟩ := ownV_sh ho7; clear ho7 hb7 hg7)
        | fail)
      go_roundw
      case rel =>
        refine ⟨i + 1, by go_num, by omega, HB7, ⟨_, _, _, rfl⟩, ?_⟩
        show OwnV _ _ _ _ _
        rw [take_snoc _ 0 _ (by rw [← HM.out]; exact hlt), List.map_append, List.map_cons, List.map_nil, ← HQ.out]
        exact HO7.out
      case measure => simp [intOf]; omega
    · obtain rfl : i = m := by omega
      go_wp2_with fail
      go_ret2
      exact ⟨_, rfl, by have h := HOr.out; rwa [List.take_of_length_le (by rw [← HM.out]; exact Nat.le_refl _)] at h, HBr.out⟩
end Go.Proofs.YtlhmidecjiihcaaDoor
