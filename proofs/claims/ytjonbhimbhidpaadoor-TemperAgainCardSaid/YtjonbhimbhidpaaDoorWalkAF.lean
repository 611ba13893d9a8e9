/-
  Walks over chapter 6: a set with each row backwards.
-/
import Derived.Test.YtjonbhimbhidpaaDoorBaseV
namespace Go.Proofs.YtjonbhimbhidpaaDoor
open Go.RowKit
theorem turnP_take {p : List Str} {y : Nat} (h : y < p.length) : turnP (p.take y) ++ [(p.getD y []).reverse] = turnP (p.take (y + 1)) := by
  unfold turnP
  rw [List.take_succ_eq_append_getElem h, List.map_append, List.getD_eq_getElem?_getD, List.getElem?_eq_getElem h]; rfl
theorem turnG_take {p : Grid} {y : Nat} (h : y < p.length) : turnG (p.take y) ++ [turnP (p.getD y [])] = turnG (p.take (y + 1)) := by
  unfold turnG
  rw [List.take_succ_eq_append_getElem h, List.map_append, List.getD_eq_getElem?_getD, List.getElem?_eq_getElem h]; rfl
theorem strB_cons (s : Str) (x : Nat) (hx : x < s.length) (l : Str) : (strB s).extract x (x + 1) ++ strB l = strB (s[x] :: l) := by
  unfold strB
  apply ByteArray.ext
  rw [ByteArray.data_append, ByteArray.data_extract]
  apply Array.ext'
  simp only [Array.toList_append, Array.toList_extract, List.extract_eq_take_drop]
  rw [show x + 1 - x = 1 by omega, List.drop_eq_getElem_cons hx]
  rfl
theorem rev_take {s : Str} {x : Nat} (h : x < s.length) : s[x] :: (s.take x).reverse = (s.take (x + 1)).reverse := by
  rw [List.take_succ_eq_append_getElem h, List.reverse_append]; rfl
set_option maxHeartbeats 8000000 in
set_option maxRecDepth 100000 in
theorem turned_any (v : Value) (G : Grid) (w : World) (hg : IsGrid w v G) (hs : ShortG G) (hl4 : G.length ≤ 1000) (hl5 : ∀ p ∈ G, p.length ≤ 1000) :
    Calls Tryd.prog 32 #[v] w fun e w' => ∃ v', e = .returned v' ∧ OwnG w' w.heap.size v' (turnG G) ∧ Below w.heap.size w w' := by
  have HG := hid hg
  have HSH := hid hs
  have HL5 := hid hl5
  obtain ⟨a1, c1, rfl, _, _⟩ := id hg
  obtain ⟨N, hN⟩ : ∃ N, N = G.length := ⟨_, rfl⟩
  rw [← hN] at HG hl4 ⊢
  have HNN := hid hN
  clear hg hs hl5 hN
  have HM : Hid (OwnG (w.alloc (.cells #[] 71)) w.heap.size (.slice (some ⟨w.heap.size, 0, none⟩) 0 0) []) := ownG_made w _ (Nat.le_refl _)
  have HB0 : Hid (Below w.heap.size w (w.alloc (.cells #[] 71))) := (Below.refl _ _).alloc (Nat.le_refl _) _
  go_enter Tryd.func32, Tryd.ntmps32
  go_wp2
  go_loopw [3, 4] (fun v pv wr => ∃ (pp : Nat) (a : Option Addr) (n c : Nat), v = .slice a n c ∧ pv = .int .i64 pp ∧ pp ≤ N ∧ Hid (OwnG wr w.heap.size (.slice a n c) (turnG (G.take pp))) ∧ Hid (Below w.heap.size w wr)) (fun _ pv _ => N - (intOf pv).toNat)
  case atStart => exact ⟨0, _, 0, 0, rfl, rfl, Nat.zero_le _, by rw [List.take_zero]; exact HM, HB0⟩
  case round =>
    obtain ⟨pp, a, n, c, rfl, rfl, hpp, HT, HBr⟩ := hrel
    rename World => wo
    by_cases hlt : pp < N
    · have hltG : pp < G.length := by rw [← HNN.out]; exact hlt
      obtain ⟨gb, ua, uc, rfl, hc, hst⟩ := grid_at HG.out pp hltG
      obtain ⟨p, hp⟩ : ∃ p, p = G.getD pp [] := ⟨_, rfl⟩
      have hpm : p ∈ G := by rw [hp]; simp [hltG]
      have HTK : Hid (turnG (G.take pp) ++ [turnP p] = turnG (G.take (pp + 1))) := by rw [hp]; exact turnG_take hltG
      have hTL : (turnG (G.take pp)).length < 1000000 := by simp [turnG]; omega
      have HTL := hid hTL
      rw [← hp] at hc hst
      obtain ⟨M, hM⟩ : ∃ M, M = p.length := ⟨_, rfl⟩
      rw [← hM] at hc hst
      have HMM := hid hM
      have hM1 : M ≤ 1000 := by rw [hM]; exact HL5.out p hpm
      have HPS : Hid (∀ s ∈ p, s.length ≤ 1000) := HSH.out p hpm
      have G1 : Hid (∀ w', Below w.heap.size w w' → w'.cell? ⟨gb, pp, none⟩ = some (.slice ua M uc)) := fun w' hb => (hb.cell (World.block_lt_of_cell? w _ hc)).trans hc
      have HST := hid hst
      have hms : Below wo.heap.size wo (wo.alloc (.cells #[] 9)) := (Below.refl wo.heap.size wo).alloc (Nat.le_refl _) _
      have HMB := hid hms
      have HM2 : Hid (OwnT (wo.alloc (.cells #[] 9)) wo.heap.size (.slice (some ⟨wo.heap.size, 0, none⟩) 0 0) []) := ownT_made wo _ (Nat.le_refl _)
      have z3 := G1.out _ (HBr.out.trans (hms.mono HBr.out.size))
      clear hM hms hc hst hp hpm hltG hTL
      go_wp2
      clear z3
      go_loopw [5, 6] (fun v yv wy => ∃ (y : Nat) (a2 : Option Addr) (m2 c2 : Nat), v = .slice a2 m2 c2 ∧ yv = .int .i64 y ∧ y ≤ M ∧ Hid (OwnT wy wo.heap.size (.slice a2 m2 c2) (turnP (p.take y))) ∧ Hid (Below wo.heap.size wo wy)) (fun _ yv _ => M - (intOf yv).toNat)
      case atStart => exact ⟨0, _, 0, 0, rfl, rfl, Nat.zero_le _, by rw [List.take_zero]; exact HM2, HMB⟩
      case round =>
        obtain ⟨y, a2, m2, c2, rfl, rfl, hy, HTY, HBY⟩ := hrel
        rename World => wy
        have HBW2 : Hid (Below w.heap.size w wy) := HBr.out.trans (HBY.out.mono HBr.out.size)
        have x3 := G1.out wy HBW2.out
        by_cases hly : y < M
        · have hly' : y < p.length := by rw [← HMM.out]; exact hly
          obtain ⟨gu, rfl, hcs⟩ := strs_at HST.out y hly'
          obtain ⟨s, hs⟩ : ∃ s, s = p.getD y [] := ⟨_, rfl⟩
          have HTP : Hid (turnP (p.take y) ++ [s.reverse] = turnP (p.take (y + 1))) := by rw [hs]; exact turnP_take hly'
          have hsl : s.length ≤ 1000 := HPS.out s (by rw [hs]; simp [hly'])
          rw [← hs] at hcs
          have x4 := (HBW2.out.cell (World.block_lt_of_cell? w _ hcs)).trans hcs
          have hsz := strB_size s
          have HSZ := hid hsz
          have hs16 : (strB s).size ≤ 1000 := by omega
          have hlr : (turnP (p.take y)).length < 1000000 := by simp [turnP]; omega
          have HLR := hid hlr
          clear hs hcs hly' hlr hsz hsl
          go_wp2
          go_loopw [7, 8] (fun v xv wx => ∃ (x : Nat), v = .string (strB (s.take x).reverse) ∧ xv = .int .i64 x ∧ x ≤ (strB s).size ∧ wx = wy) (fun _ xv _ => (strB s).size - (intOf xv).toNat)
          case atStart => exact ⟨0, rfl, rfl, Nat.zero_le _, rfl⟩
          case round =>
            obtain ⟨x, rfl, rfl, hx, rfl⟩ := hrel
            by_cases hlx : x < (strB s).size
            · have hlx' : x < s.length := by rw [← HSZ.out]; exact hlx
              have HEX : Hid ((strB s).extract x (x + 1) ++ strB (s.take x).reverse = strB (s.take (x + 1)).reverse) := by rw [← rev_take hlx']; exact strB_cons s x hlx' _
              have hts := strB_size (s.take x).reverse
              rw [List.length_reverse, List.length_take] at hts
              generalize strB (s.take x).reverse = t at *
              have ht6 : t.size ≤ 1000 := by omega
              clear hlx' hts
              go_wp2
              go_roundw
              case rel => exact ⟨x + 1, by rw [← HEX.out], by go_num, by omega, trivial⟩
              case measure => simp [intOf]; omega
            · obtain rfl : x = (strB s).size := by omega
              have HFU : Hid (s.take (strB s).size = s) := by show _ = _; rw [HSZ.out]; exact List.take_of_length_le (Nat.le_refl _)
              rw [HFU.out]
              go_wp2_with (first | (at_builtin; refine wpl_app_str s.reverse _ _ (.slice a2 m2 c2) wo.heap.size _ (by rfl) (by rfl) (by rfl) (by rfl) HTY.out HLR.out HBY.out.size ?_; intro v' w10 ho10 hb10; rw [HTP.out] at ho10; obtain ⟨sa, sn, sc, rfl⟩ := ownT_slice' ho10; have HO10 := hid ho10; have HB10 := hid (HBY.out.trans hb10); clear ho10 hb10) | fail)
              go_roundw
              case rel => exact ⟨y + 1, sa, sn, sc, rfl, by go_num, by omega, HO10, HB10⟩
              case measure => simp [intOf]; omega
        · obtain rfl : y = M := by omega
          have HFP : Hid (turnP (p.take y) = turnP p) := by show _ = _; rw [List.take_of_length_le (by rw [HMM.out]; exact Nat.le_refl _)]
          have HGY := hid (ownG_below HT.out HBY.out)
          have HTX : Hid (OwnT wy w.heap.size (.slice a2 m2 c2) (turnP p)) := by rw [← HFP.out]; exact ownT_mono HTY.out HBr.out.size
          go_wp2_with (first
            | (at_builtin; refine wpl_app_row (.slice a2 m2 c2) (turnP p) _ _ (.slice a n c) w.heap.size _ (by rfl) (by rfl) (by rfl) (by rfl) HGY.out HTX.out HTL.out HBW2.out.size ?_; intro v' w10 ho10 hb10; rw [HTK.out] at ho10; obtain ⟨sa, sn, sc, rfl⟩ := ownG_slice' ho10; have HO10 := hid ho10; have HB10 : Hid (Below w.heap.size w w10) := HBW2.out.trans hb10; clear ho10 hb10)
            | fail)
          go_roundw
          case rel => exact ⟨pp + 1, sa, sn, sc, rfl, by go_num, by omega, HO10, HB10⟩
          case measure => simp [intOf]; omega
    · obtain rfl : pp = N := by omega
      have HFG : Hid (turnG (G.take pp) = turnG G) := by show _ = _; rw [List.take_of_length_le (by rw [HNN.out]; exact Nat.le_refl _)]
      go_wp2
      go_ret
      exact ⟨_, rfl, by rw [← HFG.out]; exact HT.out, HBr.out⟩
end Go.Proofs.YtjonbhimbhidpaaDoor
