/-
  Walks over chapter 6: the statements cut their arguments: rows.
-/
import Derived.Test.YtjonbhimbhidpaaDoorWalkV
import Derived.Deep.AppendLies
import Derived.Deep.RegionLaw
namespace Go.Proofs.YtjonbhimbhidpaaDoor
open Go.RowKit

/-- an argument that reads as a list of strings, of any length -/
def ArgStrs (w : World) (v : Value) (xs : List Str) : Prop :=
  ∃ a c, v = .slice a xs.length c ∧ xs.length ≤ maxLen ∧ ∀ i, i < xs.length → ∃ ad, a = some ad ∧ ad.block < w.heap.size ∧ w.cell? (ad.add i) = some (.string (strB (xs.getD i [])))
theorem add_block (a : Addr) (i : Nat) : (a.add i).block = a.block := by
  unfold Addr.add; split <;> rfl
theorem argStrs_below {w w' : World} {v : Value} {xs : List Str} (h : ArgStrs w v xs) (hb : Below w.heap.size w w') : ArgStrs w' v xs := by
  obtain ⟨a, c, rfl, hl, hc⟩ := h
  refine ⟨a, c, rfl, hl, fun i hi => ?_⟩
  obtain ⟨ad, ha, hlt, hcell⟩ := hc i hi
  exact ⟨ad, ha, Nat.lt_of_lt_of_le hlt hb.size, by rw [hb.cell (by rw [add_block]; exact hlt)]; exact hcell⟩
theorem strB_take (s : Str) (k : Nat) : ((strB s).extract 0 k).data.toList = s.take k := by
  rw [Lib.extract_from_zero]; rfl
theorem strB_data' (u : ByteArray) : strB u.data.toList = u := strB_data u
/-- append of one string at a step of a region that draws its order -/
theorem step_app_str {ops : Array Oper} {o : Oper} {a : Act} {K : Act → World → Prop} {Q : Exit → Act → World → Prop} {E : Prop} {W : World} {z : ByteArray}
    (s x : Operand) (v : Value) (B : Nat) (xs : List Str) (g : Nat)
    (hgd : o.guard = none) (ho : o.op = .call { callee := .builtin .append, args := #[s, x], argTypes := #[71, 71] })
    (hs : a.eval s = v) (hx : a.eval x = .slice (some ⟨g, 0, none⟩) 1 1) (hz : W.heap[g]? = some (.cells #[.string z] 9 (0, 0)))
    (hown : OwnT W B v xs) (hlen : xs.length < 1000000) (hB : B ≤ W.heap.size)
    (h : ∀ v' w', OwnT w' B v' (xs ++ [z.data.toList]) → Below B W w' → K (a.put o.dst v') w') :
    if Region.wanted o (yielded ops a.tmps) = true then Oper.wp Tryd.prog o a W K Q else E := by
  cases hi0 : Tryd.prog.info? 9 with
  | none => have := info9; rw [hi0] at this; cases this
  | some i =>
    have hi := info9
    rw [hi0] at hi
    simp only [Option.map_some, Option.some.injEq, Prod.mk.injEq] at hi
    obtain ⟨h1, h2, h3⟩ := hi
    refine step_append_lies _ hgd s x 71 ho B 9 i (.string ⟨#[]⟩) 1 16 Tryd.underlying71 hi0 h1 h2 h3 rfl (by decide) v xs.length (strs xs) hs hown ⟨g, 0, none⟩ 1 1 [.string z] hx rfl ?_ (by simp [Value.oneCell']) (by decide) (by unfold maxLen; omega) (by omega) hB _ rfl ?_
    · exact World.news_of_block hz
    · intro g' cap w1 hown1 hgrow hat hlt
      refine h _ _ ?_ ?_
      · unfold OwnT
        rw [strs_append, strB_data, List.length_append]
        exact hown1
      · exact (Below.refl B W).grown hgrow hB (fun k hk => (hown.lt k hk).1)

theorem wpl_app_strB {ops : Array Oper} {rest : List Oper} {o : Oper} {a : Act} {Q : Exit → Act → World → Prop} {W : World} (u : ByteArray)
    (s x : Operand) (v : Value) (B : Nat) (xs : List Str)
    (hgd : o.guard = none) (ho : o.op = .call { callee := .builtin .append, args := #[s, x], argTypes := #[71, 71] })
    (hs : a.eval s = v) (hx : a.eval x = .slice (some ⟨W.heap.size, 0, none⟩) 1 1)
    (hown : OwnT W B v xs) (hlen : xs.length < 1000000) (hB : B ≤ W.heap.size)
    (h : ∀ v' w', OwnT w' B v' (xs ++ [u.data.toList]) → Below B W w' → wpList Tryd.prog ops Q rest (a.put o.dst v') w') :
    wpList Tryd.prog ops Q (o :: rest) a (W.alloc (.cells #[.string u] 9)) := by
  have := wpl_app_str (ops := ops) (rest := rest) (o := o) (a := a) (Q := Q) (W := W) u.data.toList s x v B xs hgd ho hs hx hown hlen hB h
  rwa [strB_data] at this
theorem ownT_slice' {w : World} {B : Nat} {v : Value} {xs : List Str} (h : OwnT w B v xs) : ∃ a n c, v = .slice a n c := by
  obtain ⟨a, c, h⟩ := ownT_slice h
  exact ⟨a, _, c, h⟩

def cutStr (s : Str) : Str := if 16 < s.length then s.take 17 else s.take 8
def cutStrs (xs : List Str) : List Str := (xs.take (if 16 < xs.length then 17 else 8)).map cutStr
theorem cutStrs_len (xs : List Str) : (cutStrs xs).length = min (if 16 < xs.length then 17 else 8) xs.length := by simp [cutStrs]
theorem cutStrs_take (xs : List Str) (i : Nat) (h : i < (cutStrs xs).length) : (cutStrs xs).take (i + 1) = (cutStrs xs).take i ++ [cutStr (xs.getD i [])] := by
  have h1 : i < xs.length := by rw [cutStrs_len] at h; omega
  rw [List.take_add_one, List.getElem?_eq_getElem h]
  congr 2
  simp [cutStrs, h1]

set_option maxHeartbeats 4000000 in
set_option maxRecDepth 100000 in
theorem strings_any (v : Value) (xs : List Str) (w : World) (hx : ArgStrs w v xs) :
    Calls Tryd.prog 43 #[v] w fun e w' => ∃ v', e = .returned v' ∧ OwnT w' w.heap.size v' (cutStrs xs) ∧ Below w.heap.size w w' := by
  obtain ⟨a, c, rfl, hl, hc⟩ := hx
  have HC := hid hc
  obtain ⟨N, hN⟩ : ∃ N, N = xs.length := ⟨_, rfl⟩
  have hT := cutStrs_len xs
  rw [← hN] at hl hT ⊢
  have HN := hid hN
  obtain ⟨T, hTT⟩ : ∃ T, T = (cutStrs xs).length := ⟨_, rfl⟩
  rw [← hTT] at hT
  have HTT := hid hTT
  unfold maxLen at hl
  clear hc hN hTT
  have HM : Hid (OwnT (w.alloc (.cells #[] 9)) w.heap.size (.slice (some ⟨w.heap.size, 0, none⟩) 0 0) []) := ownT_made w _ (Nat.le_refl _)
  have HB0 : Hid (Below w.heap.size w (w.alloc (.cells #[] 9))) := (Below.refl _ _).alloc (Nat.le_refl _) _
  obtain ⟨most, hmost⟩ : ∃ most : Nat, most = if 16 < N then 17 else 8 := ⟨_, rfl⟩
  rw [← hmost] at hT
  have hm2 : (16 < N ∧ most = 17) ∨ (N ≤ 16 ∧ most = 8) := by
    rw [hmost]
    by_cases h : 16 < N
    · exact .inl ⟨h, if_pos h⟩
    · exact .inr ⟨by omega, if_neg h⟩
  clear hmost
  rcases hm2 with ⟨hq, rfl⟩ | ⟨hq, rfl⟩
  all_goals
    have HQ := hid hq
    have d16 : Hid (decide ((16 : Int) < (N : Int)) = decide (16 < N)) := by
      show _ = _
      rw [decide_eq_decide]; omega
    have HQD : Hid (∀ b, decide (16 < N) = b → decide ((16 : Int) < (N : Int)) = b) := fun b h => d16.out.trans h
    first | (have d17 := HQD.out true (decide_eq_true hq)) | (have d17 := HQD.out false (decide_eq_false (by omega)))
    clear hq
    have D17 := hid d17
    clear d17
    go_enter Tryd.func43, Tryd.ntmps43
    have d17 := D17.out
    go_wp2
    clear d17
    go_loopw [3, 5] (fun v iv wr => ∃ (i : Nat) (a : Option Addr) (n c : Nat), iv = .int .i64 i ∧ v = .slice a n c ∧ i ≤ T ∧ Hid (OwnT wr w.heap.size (.slice a n c) ((cutStrs xs).take i)) ∧ Hid (Below w.heap.size w wr)) (fun _ iv _ => T - (intOf iv).toNat)
    case atStart => exact ⟨0, _, 0, 0, rfl, rfl, Nat.zero_le _, by rw [List.take_zero]; exact HM, HB0⟩
    case round =>
      obtain ⟨i, a2, n2, c2, rfl, rfl, hi, HT, HB⟩ := hrel
      by_cases hlt : i < T
      · have hiN : i < N := by omega
        have him1 : i < 17 := by omega
        try (have him2 : i < 8 := by omega)
        obtain ⟨ad, rfl, hadb, hcell⟩ := HC.out i (by rw [← HN.out]; exact hiN)
        have e1 := (HB.out.cell (p := ad.add i) (by rw [add_block]; exact hadb)).trans hcell
        have hadr : ad.block < wr.heap.size := Nat.lt_of_lt_of_le hadb HB.out.size
        have HTK := hid (cutStrs_take xs i (by rw [← HTT.out]; exact hlt))
        have hln : ((cutStrs xs).take i).length < 1000000 := by rw [List.length_take]; omega
        have HLN := hid hln
        have hsz := strB_size (xs.getD i [])
        have HCS : Hid (∀ k : Nat, ((strB (xs.getD i [])).extract 0 k).data.toList = (xs.getD i []).take k) := fun k => strB_take _ k
        have HCU : Hid (cutStr (xs.getD i []) = if 16 < (strB (xs.getD i [])).size then (xs.getD i []).take 17 else (xs.getD i []).take 8) := by rw [hsz]; exact rfl
        have HTS := hid hsz
        have HTS := hid hsz
        clear hcell hln hsz
        generalize xs.getD i [] = s at *
        generalize strB s = t at *
        by_cases h16 : 16 < t.size
        · have HC2 : Hid (cutStr s = (t.extract 0 17).data.toList) := by show _ = _; rw [HCU.out, if_pos h16, HCS.out]
          go_wp2_with (first | (at_builtin; refine wpl_app_strB (t.extract 0 17) _ _ (.slice a2 n2 c2) w.heap.size _ (by rfl) (by rfl) (by rfl) (by rfl) HT.out HLN.out HB.out.size ?_; intro v' w7 ho7 hb7; rw [← HC2.out, ← HTK.out] at ho7; obtain ⟨sa, sn, sc, rfl⟩ := ownT_slice' ho7; have HO7 := hid ho7; have HB7 := hid hb7; clear ho7 hb7) | fail)
          go_roundw
          case rel => exact ⟨i + 1, _, _, _, by go_num, rfl, by omega, HO7, HB.out.trans HB7.out⟩
          case measure => simp [intOf]; omega
        · have hmn : min ((t.size : Nat) : Int) 8 = ((min t.size 8 : Nat) : Int) := by omega
          have hk1 : min t.size 8 ≤ t.size := by omega
          have HC2 : Hid (cutStr s = (t.extract 0 (min t.size 8)).data.toList) := by
            show _ = _
            rw [HCU.out, if_neg h16, HCS.out]
            have hts : t.size = s.length := HTS.out
            rw [hts]
            by_cases h8 : s.length ≤ 8
            · rw [Nat.min_eq_left h8, List.take_of_length_le h8, List.take_of_length_le (Nat.le_refl _)]
            · rw [Nat.min_eq_right (by omega)]
          have HMN := hid hmn
          generalize min t.size 8 = k at *
          have hmn := HMN.out
          go_wp2
          go_region_law (refine step_app_str (.tmp 35) (.tmp 47) (.slice a2 n2 c2) w.heap.size _ _ (by rfl) (by rfl) (by rfl) (by rfl) (heap_alloc_new _ _) (by exact row_below HT.out (by repeat (first | exact Below.refl _ _ | refine Below.drew ?_ | refine below_drewN_r ?_ _ | refine Below.alloc ?_ (by first | exact Nat.le_refl _ | (simp; done)) _))) HLN.out (by have := HB.out.size; simp; omega) ?_; intro v' w7 ho7 hb7)
          all_goals
            rw [← HC2.out, ← HTK.out] at ho7
            obtain ⟨sa, sn, sc, rfl⟩ := ownT_slice' ho7
            have HO7 := hid ho7
            have HBX : Hid (Below w.heap.size w w7) := (Below.trans (b := _) (by repeat (first | exact HB.out | refine Below.drew ?_ | refine below_drewN_r ?_ _ | refine Below.alloc ?_ (by first | exact HB.out.size | (simp; have := HB.out.size; omega)) _)) hb7)
            clear ho7 hb7
            go_wp2
            go_roundw
            case rel => exact ⟨i + 1, _, _, _, by go_num, rfl, by omega, HO7, HBX⟩
            case measure => simp [intOf]; omega
      · obtain rfl : i = T := by omega
        have HE : Hid ((cutStrs xs).take i = cutStrs xs) := by
          show _ = _
          rw [HTT.out, List.take_length]
        by_cases hiN : i < N
        all_goals
          go_wp2
          go_ret
          refine ⟨_, rfl, ?_, HB.out⟩
          have h := HT.out
          rw [HE.out] at h
          exact h
end Go.Proofs.YtjonbhimbhidpaaDoor
