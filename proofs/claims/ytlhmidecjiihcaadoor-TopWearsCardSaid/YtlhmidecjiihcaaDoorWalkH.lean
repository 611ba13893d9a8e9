/-
  A size in decimal (36).
-/
import Derived.Test.YtlhmidecjiihcaaDoorWalkG
namespace Go.Proofs.YtlhmidecjiihcaaDoor
open Go.RowKit
theorem digit8 (r : Nat) : b8 (UInt8.ofNat (48 + r % 10)) = .int .u8 (48 + (r : Int) % 10) := by
  unfold b8
  have h : (UInt8.ofNat (48 + r % 10)).toNat = 48 + r % 10 := by
    rw [UInt8.toNat_ofNat']
    have := Nat.mod_lt r (show 0 < 10 by decide)
    omega
  rw [h]
  have : ((48 + r % 10 : Nat) : Int) = 48 + (r : Int) % 10 := by omega
  rw [this]
set_option maxRecDepth 100000 in
set_option maxHeartbeats 2000000 in
theorem text_any (u : Value) (a : Nat) (w : World) (hu : Lb w u a) (ha : a < 1000000000) :
    Calls Tryd.prog 36 #[u] w fun e w' => e = .returned (.string ⟨(dec a).toArray⟩) ∧ Below w.heap.size w w' := by
  by_cases a0 : a = 0
  · obtain ⟨p1, c1, rfl⟩ := (show Lb w _ 0 from a0 ▸ hu).z
    have HD : Hid (dec a = [48]) := by show _ = _; unfold dec; rw [if_pos a0]
    clear hu
    go_enter Tryd.func36, Tryd.ntmps36
    go_wp2_with fail
    go_ret
    exact ⟨by rw [HD.out]; rfl, Below.refl _ _⟩
  · have HD : Hid (dec a = (digR 9 a).reverse) := by show _ = _; unfold dec; rw [if_neg a0]
    have BW := hid (byWord_any u a 1000000000 w hu (by decide) (by decide))
    rw [show a / 1000000000 = 0 by omega, show a % 1000000000 = a by omega] at BW
    obtain ⟨g1, c1, rfl, hc1, ha1, k1⟩ := hu.p a0
    clear hu k1
    have HL9 := hid (digR_len 9 a)
    have hap : 0 < a := by omega
    go_enter Tryd.func36, Tryd.ntmps36
    go_wp2_with fail
    go_loopw [0, 3] (fun xv bv wr => (xv = .slice (some ⟨g1, 0, none⟩) 1 c1 ∧ bv = .slice none 0 0 ∧ wr = w) ∨ (Hid (Below w.heap.size w wr) ∧ (∃ p c, xv = .slice p 0 c) ∧ Hid (OwnV wr w.heap.size 5 bv ((digR 9 a).map b8)))) (fun xv _ _ => lenOf xv)
    case atStart => exact .inl ⟨rfl, rfl, rfl⟩
    case round =>
      rcases hrel with ⟨rfl, rfl, rfl⟩ | ⟨HBr, ⟨p, c, rfl⟩, HO⟩
      · rename World => wr
        go_upto_region 6 with (first | (go_at_call 50; refine BW.out.mono ?_; rintro e w1 ⟨x, rfl, hq, hb1⟩; have HB1 := hid hb1; obtain ⟨qp, qc, rfl⟩ := hq.z; clear hq hb1) | fail)
        go_wp2_with fail
        go_loopw [3, 5, 6] (fun bv rv iv wk => ∃ (k r : Nat) (dn : List UInt8), iv = .int .i64 k ∧ k ≤ 9 ∧ rv = .int .u32 (r : Int) ∧ r < 4294967296 ∧ Hid (digR 9 a = dn ++ digR (9 - k) r) ∧ Hid (dn.length = k) ∧ Hid (OwnV wk wr.heap.size 5 bv (dn.map b8)) ∧ Hid (Below wr.heap.size wr wk)) (fun _ _ iv _ => 9 - (intOf iv).toNat)
        case atStart => exact ⟨0, a, [], rfl, by omega, rfl, ha1, rfl, rfl, ownV_nil _ _ _, HB1⟩
        case round =>
          obtain ⟨k, r, dn, rfl, hk, rfl, hr, HDG, HDL, HOB, HBk⟩ := hrel
          rename World => wk
          obtain ⟨ba1, bn1, bc1, rfl⟩ := ownV_sh HOB.out
          by_cases hk9 : k < 9
          · by_cases hr0 : r = 0
            · have HE : Hid (digR 9 a = dn) := by show _ = _; rw [HDG.out, hr0, digR_zero, List.append_nil]
              subst hr0
              go_wp2_with fail
              go_roundw
              case rel => exact .inr ⟨HBk, ⟨_, _, rfl⟩, by rw [HE.out]; exact HOB⟩
              case measure => simp [lenOf]
            · have hrp : 0 < r := by omega
              have HDG2 : Hid (digR 9 a = (dn ++ [UInt8.ofNat (48 + r % 10)]) ++ digR (9 - (k + 1)) (r / 10)) := by
                show _ = _
                rw [HDG.out, show 9 - k = (9 - (k + 1)) + 1 by omega, digR_pos hr0, List.append_assoc]; rfl
              have HLM : Hid ((dn.map b8).length < 1000000) := by show _ < _; rw [List.length_map, HDL.out]; omega
              have HD8 := hid (digit8 r)
              have hrd : (r : Int) / 10 = ((r / 10 : Nat) : Int) := (Int.natCast_ediv r 10).symm
              have HRD := hid hrd
              have HRL : Hid (r / 10 < 4294967296) := by show _ < _; omega
              clear hr0 hrd
              go_wp2_with (first
                | (at_builtin; refine wpl_app_b (48 + (r : Int) % 10) _ _ (.slice ba1 bn1 bc1) wr.heap.size (dn.map b8) (by rfl) (by rfl) (by rfl) (by rfl) HOB.out HLM.out HBk.out.size ?_; intro v' w7 ho7 hb7 hg7; have HO7 := hid ho7; have HB7 := hid (HBk.out.trans hb7); obtain ⟨sa, sn, sc, rfl⟩ := ownV_sh ho7; clear ho7 hb7 hg7)
                | fail)
              go_roundw
              case rel => exact ⟨k + 1, r / 10, _, by go_num, by omega, by rw [HRD.out], HRL.out, HDG2, by show _ = _; rw [List.length_append, HDL.out]; rfl, by rw [List.map_append, List.map_cons, List.map_nil, HD8.out]; exact HO7, HB7⟩
              case measure => simp [intOf]; omega
          · obtain rfl : k = 9 := by omega
            have HE : Hid (digR 9 a = dn) := by show _ = _; rw [HDG.out]; exact List.append_nil _
            go_wp2_with fail
            go_roundw
            case rel => exact .inr ⟨HBk, ⟨_, _, rfl⟩, by rw [HE.out]; exact HOB⟩
            case measure => simp [lenOf]
      · rename World => wr
        have hne : 0 < ((digR 9 a).map b8).length := by
          rw [List.length_map]
          rw [digR_pos a0]; simp
        obtain ⟨g, bc, rfl, hgB, -⟩ := ownV_some HO.out hne
        rw [List.length_map] at HO ⊢
        have RV := hid (revb_any _ g bc (digR 9 a) wr HO.out)
        have HGB : Hid (w.heap.size ≤ g) := hgB
        clear hne hgB
        obtain ⟨n, hn⟩ : ∃ n, n = (digR 9 a).length := ⟨_, rfl⟩
        have HNE := hid hn
        rw [← hn] at RV ⊢
        clear hn
        go_upto_region 13 with (first | (go_at_call 51; refine RV.out.mono ?_; rintro e w5 ⟨rfl, hcell, hg5⟩; have HC5 := hid hcell; have HB5 : Hid (Below w.heap.size w w5) := hid (out_below HBr.out hg5 HGB.out (B := 0)); clear hcell hg5) | fail)
        have hcv := run_convert_bytes_back (P := Tryd.prog) w5 96 9 5 ⟨g, 0, none⟩ bc (digR 9 a).reverse Tryd.underlying96 Tryd.underlying5 Tryd.underlying9 HC5.out
        rw [List.length_reverse, ← HNE.out] at hcv
        go_wp2_with fail
        go_ret
        exact ⟨by rw [HD.out]; rfl, HB5.out⟩
end Go.Proofs.YtlhmidecjiihcaaDoor
