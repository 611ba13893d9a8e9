/-
  The walk over chapter 1: Lyndon words.
-/
import Derived.Test.YtpoekblolicehaaDoorBaseE
import Derived.Test.YtpoekblolicehaaDoorPlainH
namespace Go.Proofs.YtpoekblolicehaaDoor
open Go.RowKit

theorem leS_eq (a b : Str) : (slt up a b || a == b) = leS a b := rfl
theorem isLyn_no (u : Str) (i : Nat) (h1 : i + 1 < u.length) (h : leS (u.drop (i + 1)) u = true) : isLyn u = false := by
  unfold isLyn
  rw [Bool.and_eq_false_iff]
  left
  rw [List.all_eq_false]
  exact ⟨i, by simp; omega, by simp [h]⟩
theorem isLyn_yes (u : Str) (h1 : u ≠ []) (h : ∀ i, i + 1 < u.length → leS (u.drop (i + 1)) u = false) : isLyn u = true := by
  unfold isLyn
  rw [Bool.and_eq_true]
  refine ⟨?_, by cases u with | nil => exact absurd rfl h1 | cons => rfl⟩
  rw [List.all_eq_true]
  intro i hi
  simp only [List.mem_range] at hi
  simp [h i (by omega)]

set_option maxHeartbeats 400000 in
theorem isLyndon_any (s : ByteArray) (w : World) (hs : s.size ≤ 1000) :
    Calls Tryd.prog 45 #[.string s] w fun e w' => e = .returned (.bool (isLyn s.data.toList)) ∧ ∃ n, w' = w.drewN n := by
  have hleq := fun (a b : ByteArray) => binOp_string_leq 9 a b
  go_enter Tryd.func45, Tryd.ntmps45
  go_wp2_with fail
  go_loopg [3] (s.size + 1) (fun g i wr => ∃ x : Nat, (x + 1 ≤ s.size ∨ x = 0) ∧ g = s.size + 1 - x ∧ i = .int .i64 ((x : Int) + 1) ∧ Hid (∀ i, i < x → leS (s.data.toList.drop (i + 1)) s.data.toList = false) ∧ wr = w)
  case atStart => exact ⟨0, .inr rfl, by omega, rfl, fun i hi => absurd hi (by omega), rfl⟩
  case round =>
    obtain ⟨x, hx, hgx, rfl, HA, rfl⟩ := hrel
    have HGX := hid hgx; clear hgx
    have HX := hid hx; clear hx
    by_cases hxl : x + 1 < s.size
    · have i1 : (x : Int) + 1 < s.size := by omega
      have i2 : (x : Int) + 1 ≤ s.size := by omega
      have hd : (slt up (s.extract (x + 1) s.size).toList s.toList || (s.extract (x + 1) s.size).toList == s.toList) = leS (s.data.toList.drop (x + 1)) s.data.toList := by
        rw [strB_drop, strB_toList, toList_data]; rfl
      cases hl : leS (s.data.toList.drop (x + 1)) s.data.toList
      · have HL := hid hl
        rw [hl] at hd
        clear hl
        go_wp2_with fail
        go_roundg (s.size + 1 - (x + 1))
        case measure => have := HGX.out; omega
        case rel => exact ⟨x + 1, .inl (by omega), rfl, by go_num, fun i hi => by
          by_cases he : i = x
          · subst he; exact HL.out
          · exact HA.out i (by omega), rfl⟩
      · have HL := hid hl
        rw [hl] at hd
        clear hl
        go_wp2_with fail
        go_ret
        exact ⟨by rw [isLyn_no _ x (by rw [data_size]; exact hxl) HL.out]; rfl, 0, rfl⟩
    · by_cases h0 : s.size = 0
      · have he : s.data.toList = [] := List.eq_nil_of_length_eq_zero (by rw [data_size]; exact h0)
        have he2 : (s.toList == []) = true := by rw [toList_data, he]; rfl
        have HE := hid he
        clear he
        go_wp2_with fail
        go_ret
        exact ⟨by rw [HE.out]; rfl, 0, rfl⟩
      · have he : s.data.toList ≠ [] := fun h => h0 (by rw [← data_size, h]; rfl)
        have he2 : (s.toList == []) = false := by rw [toList_data]; simpa using he
        have HE := hid he
        clear he
        go_wp2_with fail
        go_ret
        refine ⟨by rw [isLyn_yes _ HE.out fun i hi => HA.out i (by rw [data_size] at hi; have := HX.out; omega)]; rfl, 0, rfl⟩

theorem at_byte (t : ByteArray) (i : Nat) (h : i < t.size) : at' t.data.toList i = (t[i]'h).toNat := by
  unfold at'
  rw [List.getD_eq_getElem?_getD, List.getElem?_eq_getElem (by rw [data_size]; exact h)]
  rfl

set_option maxHeartbeats 1000000 in
set_option maxRecDepth 100000 in
theorem lyndon_ok (s : ByteArray) (w : World) (hs : s.size ≤ 1000) (hc : chk s.data.toList = 0) :
    Calls Tryd.prog 43 #[.string s] w fun e w' => ∃ v, e = .returned (.tuple #[v, .int .i64 0]) ∧ Own w' w.heap.size 9 v (strs (lyn s.data.toList)) ∧ Below w.heap.size w w' := by
  have hck := check_any s w hs
  rw [hc] at hck
  clear hc
  obtain ⟨S, hS⟩ : ∃ S, S = lyn s.data.toList := ⟨_, rfl⟩
  rw [← hS]
  have HS := hid hS
  clear hS
  go_enter Tryd.func43, Tryd.ntmps43
  go_wp2_with fail
  refine hck.mono ?_
  rintro e w1 ⟨rfl, hb⟩
  have Hb := hid hb
  clear hb hck
  go_wp2_with fail
  go_loopg [0, 5] s.size (fun g z v wr => ∃ (t : ByteArray) (xs : List Str), z = .string t ∧ t.size ≤ g ∧ t.size ≤ 1000 ∧ xs.length + t.size ≤ 1000 ∧ Hid (Own wr w.heap.size 9 v (strs xs)) ∧ Hid (xs ++ lyn t.data.toList = S) ∧ Hid (Below w.heap.size w wr))
  case atStart => exact ⟨s, [], rfl, Nat.le_refl _, hs, by simpa using hs, own_nil _ _ _, by rw [HS.out]; rfl, Hb.out⟩
  case round =>
    obtain ⟨t, xs, rfl, htg, ht, hxs, HO, HL, HB⟩ := hrel
    have hbz := HB.out.size
    have HTG := hid htg
    clear htg
    by_cases h0 : t.size = 0
    · have he : t.data.toList = [] := List.eq_nil_of_length_eq_zero (by rw [data_size]; exact h0)
      have he2 : (t.toList == []) = true := by rw [toList_data, he]; rfl
      have HE := hid he
      clear he
      go_wp2_with fail
      go_ret2
      have := HL.out
      rw [HE.out, lyn_nil, List.append_nil] at this
      rw [← this]
      exact ⟨_, rfl, HO.out, HB.out⟩
    · have he : t.data.toList ≠ [] := fun h => h0 (by rw [← data_size, h]; rfl)
      have he2 : (t.toList == []) = false := by rw [toList_data]; simpa using he
      clear he
      go_wp2_with fail
      go_loopg [6, 7] (t.size - 1) (fun g j k w2 => ∃ a b : Nat, j = .int .i64 a ∧ k = .int .i64 b ∧ b < a ∧ a ≤ t.size ∧ g = t.size - a ∧ Hid (Duv t.data.toList a b) ∧ ∃ m, w2 = wr.drewN m)
      case atStart => exact ⟨1, 0, rfl, rfl, by omega, by omega, rfl, Duv.start _ (by rw [data_size]; omega), 0, rfl⟩
      case round =>
        obtain ⟨a, b, rfl, rfl, hba, hat, hga, HD, m, rfl⟩ := hrel
        have HGA := hid hga; clear hga
        by_cases hal : a < t.size
        · have e1 := hid (at_byte t a hal)
          have e2 := hid (at_byte t b (by omega))
          have i1 : (a : Int) < t.size := by omega
          have i2 : (b : Int) < t.size := by omega
          by_cases hlt : (t[a]'hal).toNat < (t[b]'(by omega)).toNat
          · have hd1 : decide ((t[b]'(by omega)).toNat ≤ (t[a]'hal).toNat) = false := by simp; omega
            have HF : Hid (Duv.fin t.data.toList a b) := .inr (by rw [e1.out, e2.out]; exact hlt)
            clear e1 e2
            go_wp2_with fail
            go_quiet (fail)

            obtain ⟨p, hp⟩ : ∃ p, p = a - b := ⟨_, rfl⟩
            have hpi : (a : Int) - (b : Int) = (p : Int) := by omega
            have hpw : IntKind.i64.wrap (p : Int) = (p : Int) := IntWalk.i64_in _ (by omega)
            have hp1 : 1 ≤ p := by omega
            have HP := hid hp
            clear hp
            go_wp2_with fail
            go_loopg [0, 5, 7] t.size (fun g z v kk w3 => ∃ (t' : ByteArray) (ys : List Str) (q : Int), z = .string t' ∧ kk = .int .i64 q ∧ t'.size = g ∧ t'.size ≤ t.size ∧ -1000 ≤ q ∧ q ≤ 1000 ∧ ys.length + t'.size ≤ 1000 ∧ Hid (0 ≤ q → ∃ j, Duv t'.data.toList j q.toNat ∧ Duv.fin t'.data.toList j q.toNat ∧ j - q.toNat = p) ∧ Hid (q < 0 → t'.size < t.size) ∧ Hid (Own w3 w.heap.size 9 v (strs ys)) ∧ Hid (ys ++ lyn t'.data.toList = S) ∧ Hid (Below w.heap.size w w3))
            case atStart => exact ⟨t, xs, b, rfl, rfl, rfl, Nat.le_refl _, by omega, by omega, hxs, fun _ => ⟨a, by rw [Int.toNat_natCast]; exact HD.out, by rw [Int.toNat_natCast]; exact HF.out, by rw [Int.toNat_natCast, HP.out]⟩, fun h => absurd h (by omega), HO.out, HL.out, below_drewN_r HB.out _⟩
            case round =>
              obtain ⟨t', ys, q, rfl, rfl, hg, htt, hq1, hq2, hys, HDD, HQ, HO', HL', HB'⟩ := hrel
              have hbz' := HB'.out.size
              have HG := hid hg
              clear hg
              by_cases hq0 : 0 ≤ q
              · obtain ⟨j, hd, hf, hjp⟩ := HDD.out hq0
                have hjn := hd.jn
                rw [data_size] at hjn
                have hkj := hd.kj
                have hlen := hd.len hf
                have hnx := hd.next hf
                rw [hjp] at hlen hnx
                have HHD := hid hd
                have HNX := hid hnx
                have HLN := hid hlen
                have HJP := hid hjp
                have hpt : p ≤ t'.size := by omega
                have hpt2 : (p : Int) ≤ t'.size := by omega
                have hqw : IntKind.i64.wrap (q - (p : Int)) = q - p := IntWalk.i64_in _ (by omega)
                have hw := hid (lyn_cons t'.data.toList (by rw [data_size]; omega))
                have hxz : (t'.extract p t'.size).size = t'.size - p := extract_size _ _ _ (Nat.le_refl _)
                have HXZ := hid hxz
                clear hd hf hlen hnx hjp hxz
                go_wp2_with (at_builtin; refine wpl_app_str (.tmp 48) (.tmp 52) u5 w.heap.size ys (by rfl) (by rfl) (by rfl) (by rfl) (by exact HO'.out) (by omega) (by exact hbz') ?_; intro v' w' hown' hgrow)
                have HO2 := hid hown'
                have HG2 := hid hgrow
                clear hown' hgrow
                go_wp2_with fail
                go_roundg (t'.size - p)
                case measure => have := HG.out; omega
                case rel =>
                  refine ⟨_, _, q - p, rfl, rfl, HXZ.out, by rw [HXZ.out]; omega, by omega, by omega, by rw [List.length_append, HXZ.out]; simp; omega, ?_, fun _ => by rw [HXZ.out]; omega, HO2.out, ?_, HB'.out.trans HG2.out⟩
                  · intro hq
                    obtain ⟨n1, n2⟩ := HNX.out (by omega)
                    refine ⟨q.toNat, ?_⟩
                    rw [strB_drop, strB_list, show (q - (p : Int)).toNat = q.toNat - p by omega]
                    exact ⟨n1, n2, by omega⟩
                  · rw [strB_drop, strB_list, strB_take, strB_list, List.append_assoc]
                    have := hw.out
                    rw [HLN.out] at this
                    rw [List.singleton_append, ← this]
                    exact HL'.out
              · have hqn : decide (q ≥ 0) = false := by simp; omega
                go_wp2_with fail
                go_roundg t'.size
                case measure => have := HTG.out; have := HQ.out (by omega); omega
                case rel => exact ⟨t', ys, rfl, Nat.le_refl _, by omega, hys, HO'.out, HL'.out, HB'.out⟩
          · have hd1 : decide ((t[b]'(by omega)).toNat ≤ (t[a]'hal).toNat) = true := by simp; omega
            by_cases heq : (t[b]'(by omega)).toNat < (t[a]'hal).toNat
            · have hd2 : decide ((t[b]'(by omega)).toNat < (t[a]'hal).toNat) = true := by simp; omega
              have HN := hid (HD.out.lt hal (by rw [e1.out, e2.out]; exact heq))
              clear e1 e2
              go_wp2_with fail
              go_quiet (fail)
              go_wp2_with fail
              go_quiet (fail)
              go_wp2_with fail
              go_roundg (t.size - (a + 1))
              case measure => have := HGA.out; omega
              case rel => exact ⟨a + 1, 0, by go_num, by go_num, by omega, by omega, rfl, HN.out, (by first | exact ⟨_, rfl⟩ | exact drew2 _ _ _)⟩
            · have hd2 : decide ((t[b]'(by omega)).toNat < (t[a]'hal).toNat) = false := by simp; omega
              have HN := hid (HD.out.eq hal (by rw [e1.out, e2.out]; omega))
              clear e1 e2
              go_wp2_with fail
              go_quiet (fail)
              go_wp2_with fail
              go_quiet (fail)
              go_wp2_with fail
              go_roundg (t.size - (a + 1))
              case measure => have := HGA.out; omega
              case rel => exact ⟨a + 1, b + 1, by go_num, by go_num, by omega, by omega, rfl, HN.out, (by first | exact ⟨_, rfl⟩ | exact drew2 _ _ _)⟩
        · have HF : Hid (Duv.fin t.data.toList a b) := .inl (by rw [data_size]; omega)
          have hd1 : decide ((a : Int) < t.size) = false := by simp; omega
          go_wp2_with fail
          go_quiet (fail)
          obtain ⟨p, hp⟩ : ∃ p, p = a - b := ⟨_, rfl⟩
          have hpi : (a : Int) - (b : Int) = (p : Int) := by omega
          have hpw : IntKind.i64.wrap (p : Int) = (p : Int) := IntWalk.i64_in _ (by omega)
          have hp1 : 1 ≤ p := by omega
          have HP := hid hp
          clear hp
          go_wp2_with fail
          go_loopg [0, 5, 7] t.size (fun g z v kk w3 => ∃ (t' : ByteArray) (ys : List Str) (q : Int), z = .string t' ∧ kk = .int .i64 q ∧ t'.size = g ∧ t'.size ≤ t.size ∧ -1000 ≤ q ∧ q ≤ 1000 ∧ ys.length + t'.size ≤ 1000 ∧ Hid (0 ≤ q → ∃ j, Duv t'.data.toList j q.toNat ∧ Duv.fin t'.data.toList j q.toNat ∧ j - q.toNat = p) ∧ Hid (q < 0 → t'.size < t.size) ∧ Hid (Own w3 w.heap.size 9 v (strs ys)) ∧ Hid (ys ++ lyn t'.data.toList = S) ∧ Hid (Below w.heap.size w w3))
          case atStart => exact ⟨t, xs, b, rfl, rfl, rfl, Nat.le_refl _, by omega, by omega, hxs, fun _ => ⟨a, by rw [Int.toNat_natCast]; exact HD.out, by rw [Int.toNat_natCast]; exact HF.out, by rw [Int.toNat_natCast, HP.out]⟩, fun h => absurd h (by omega), HO.out, HL.out, below_drewN_r HB.out _⟩
          case round =>
            obtain ⟨t', ys, q, rfl, rfl, hg, htt, hq1, hq2, hys, HDD, HQ, HO', HL', HB'⟩ := hrel
            have hbz' := HB'.out.size
            have HG := hid hg
            clear hg
            by_cases hq0 : 0 ≤ q
            · obtain ⟨j, hd, hf, hjp⟩ := HDD.out hq0
              have hjn := hd.jn
              rw [data_size] at hjn
              have hkj := hd.kj
              have hlen := hd.len hf
              have hnx := hd.next hf
              rw [hjp] at hlen hnx
              have HHD := hid hd
              have HNX := hid hnx
              have HLN := hid hlen
              have HJP := hid hjp
              have hpt : p ≤ t'.size := by omega
              have hpt2 : (p : Int) ≤ t'.size := by omega
              have hqw : IntKind.i64.wrap (q - (p : Int)) = q - p := IntWalk.i64_in _ (by omega)
              have hw := hid (lyn_cons t'.data.toList (by rw [data_size]; omega))
              have hxz : (t'.extract p t'.size).size = t'.size - p := extract_size _ _ _ (Nat.le_refl _)
              have HXZ := hid hxz
              clear hd hf hlen hnx hjp hxz
              go_wp2_with (at_builtin; refine wpl_app_str (.tmp 48) (.tmp 52) u5 w.heap.size ys (by rfl) (by rfl) (by rfl) (by rfl) (by exact HO'.out) (by omega) (by exact hbz') ?_; intro v' w' hown' hgrow)
              have HO2 := hid hown'
              have HG2 := hid hgrow
              clear hown' hgrow
              go_wp2_with fail
              go_roundg (t'.size - p)
              case measure => have := HG.out; omega
              case rel =>
                refine ⟨_, _, q - p, rfl, rfl, HXZ.out, by rw [HXZ.out]; omega, by omega, by omega, by rw [List.length_append, HXZ.out]; simp; omega, ?_, fun _ => by rw [HXZ.out]; omega, HO2.out, ?_, HB'.out.trans HG2.out⟩
                · intro hq
                  obtain ⟨n1, n2⟩ := HNX.out (by omega)
                  refine ⟨q.toNat, ?_⟩
                  rw [strB_drop, strB_list, show (q - (p : Int)).toNat = q.toNat - p by omega]
                  exact ⟨n1, n2, by omega⟩
                · rw [strB_drop, strB_list, strB_take, strB_list, List.append_assoc]
                  have := hw.out
                  rw [HLN.out] at this
                  rw [List.singleton_append, ← this]
                  exact HL'.out
            · have hqn : decide (q ≥ 0) = false := by simp; omega
              go_wp2_with fail
              go_roundg t'.size
              case measure => have := HTG.out; have := HQ.out (by omega); omega
              case rel => exact ⟨t', ys, rfl, Nat.le_refl _, by omega, hys, HO'.out, HL'.out, HB'.out⟩
end Go.Proofs.YtpoekblolicehaaDoor
