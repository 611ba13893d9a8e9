/-
  The walk over chapter 1: the Lyndon words, in the reference.
-/
import Derived.Test.YtpoekblolicehaaDoorWalkN
import Derived.Deep.AppendLies
import Derived.Deep.RegionLaw
namespace Go.Proofs.YtpoekblolicehaaDoor
open Go.RowKit

/-- append of one string at a step of a region that draws its order -/
theorem step_app_str {ops : Array Oper} {o : Oper} {a : Act} {K : Act → World → Prop} {Q : Exit → Act → World → Prop} {E : Prop} {W : World} {z : ByteArray}
    (s x : Operand) (v : Value) (B : Nat) (xs : List Str) (g : Nat)
    (hgd : o.guard = none) (ho : o.op = .call { callee := .builtin .append, args := #[s, x], argTypes := #[57, 57] })
    (hs : a.eval s = v) (hx : a.eval x = .slice (some ⟨g, 0, none⟩) 1 1) (hz : W.heap[g]? = some (.cells #[.string z] 9 (0, 0)))
    (hown : Own W B 9 v (strs xs)) (hlen : xs.length < 1099511627776) (hB : B ≤ W.heap.size)
    (h : ∀ v' w', Own w' B 9 v' (strs (xs ++ [z.data.toList])) → Below B W w' → K (a.put o.dst v') w') :
    if Region.wanted o (yielded ops a.tmps) = true then Oper.wp Tryd.prog o a W K Q else E := by
  cases hi0 : Tryd.prog.info? 9 with
  | none => have := info9; rw [hi0] at this; cases this
  | some i =>
    have hi := info9
    rw [hi0] at hi
    simp only [Option.map_some, Option.some.injEq, Prod.mk.injEq] at hi
    obtain ⟨h1, h2, h3⟩ := hi
    refine step_append_lies _ hgd s x 57 ho B 9 i (.string ⟨#[]⟩) 1 16 Tryd.underlying57 hi0 h1 h2 h3 rfl (by decide) v xs.length (strs xs) hs (by have := hown; unfold Own at this; rwa [strs_length] at this) ⟨g, 0, none⟩ 1 1 [.string z] hx rfl ?_ (by simp [Value.oneCell']) (by decide) (by unfold maxLen; omega) (by omega) hB _ rfl ?_
    · exact World.news_of_block hz
    · intro g' cap w1 hown1 hgrow hat hlt
      refine h _ _ ?_ ?_
      · unfold Own
        rw [strs_append, strB_data]
        rw [List.length_append, strs_length]
        exact hown1
      · exact (Below.refl B W).grown hgrow hB (fun k hk => (hown.lt k hk).1)

set_option maxHeartbeats 1000000 in
set_option maxRecDepth 100000 in
theorem rlyndon_any (s : ByteArray) (w : World) (hs : s.size ≤ 1000) :
    Calls Tryd.prog 44 #[.string s] w fun e w' => ∃ v, e = .returned v ∧ Own w' w.heap.size 9 v (strs (lyn s.data.toList)) ∧ Below w.heap.size w w' := by
  obtain ⟨S, hS⟩ : ∃ S, S = lyn s.data.toList := ⟨_, rfl⟩
  rw [← hS]
  have HS := hid hS
  clear hS
  go_enter Tryd.func44, Tryd.ntmps44
  go_wp2_with fail
  go_loopg [0, 3] s.size (fun g z v wr => ∃ (t : ByteArray) (xs : List Str), z = .string t ∧ t.size ≤ g ∧ t.size ≤ 1000 ∧ xs.length + t.size ≤ 1000 ∧ Hid (Own wr w.heap.size 9 v (strs xs)) ∧ Hid (xs ++ lyn t.data.toList = S) ∧ Hid (Below w.heap.size w wr))
  case atStart => exact ⟨s, [], rfl, Nat.le_refl _, hs, by simpa using hs, own_made0 _ _ _ (Nat.le_refl _), by rw [HS.out]; rfl, (Below.refl _ _).alloc (Nat.le_refl _) _⟩
  case round =>
    obtain ⟨t, xs, rfl, htg, ht, hxs, HO, HL, HB⟩ := hrel
    have hbz := HB.out.size
    have HTG := hid htg
    clear htg
    by_cases h0 : t.size = 0
    · have he : t.data.toList = [] := List.eq_nil_of_length_eq_zero (by rw [data_size]; exact h0)
      have he2 : (t.toList == []) = true := by rw [toList_data, he]; rfl
      have HE := hid he
      clear he
      go_wp2_with fail
      go_ret
      have := HL.out
      rw [HE.out, lyn_nil, List.append_nil] at this
      rw [← this]
      exact ⟨_, rfl, HO.out, HB.out⟩
    · have he : t.data.toList ≠ [] := fun h => h0 (by rw [← data_size, h]; rfl)
      have he2 : (t.toList == []) = false := by rw [toList_data]; simpa using he
      clear he
      have c45 := hid (fun n w (_h : n ≤ t.size) => isLyndon_any (t.extract 0 n) w (by rw [extract_size _ _ _ (by omega)]; omega))
      have hlp := lynLen_pos t.data.toList (by rw [data_size]; omega)
      have hll := lynLen_le t.data.toList
      rw [data_size] at hll
      have HW := hid (lyn_cons t.data.toList (by rw [data_size]; omega))
      go_wp2_with fail
      go_loopg [4] t.size (fun g n w2 => ∃ a : Nat, n = .int .i64 a ∧ g = a ∧ 1 ≤ a ∧ a ≤ t.size ∧ Hid (lynLen t.data.toList = lynDown t.data.toList a) ∧ ∃ m, w2 = wr.drewN m)
      case atStart => exact ⟨t.size, rfl, rfl, by omega, Nat.le_refl _, rfl, 0, rfl⟩
      case round =>
        obtain ⟨a, rfl, hga, ha1, hat, HD, m, rfl⟩ := hrel
        have HGA := hid hga; clear hga
        have i2 : (a : Int) ≤ t.size := by omega
        go_wp2_with fail
        refine (c45.out a _ hat).mono ?_
        rintro e w3 ⟨rfl, n3, rfl⟩
        rw [strB_take, strB_list]
        have hdn : Hid (lynDown t.data.toList a = if isLyn (t.data.toList.take a) = true then a else lynDown t.data.toList (a - 1)) := by
          obtain ⟨b, rfl⟩ : ∃ b, a = b + 1 := ⟨a - 1, by omega⟩
          rfl
        have hone : Hid (a = 1 → isLyn (t.data.toList.take a) = true) := fun h => by rw [h]; exact isLyn_one _ (by rw [data_size]; omega)
        cases hil : isLyn (t.data.toList.take a)
        · rw [hil] at hdn hone
          have ha2 : a ≠ 1 := fun h => absurd (hone.out h) (by decide)
          have hdn2 := hid (show lynDown t.data.toList a = lynDown t.data.toList (a - 1) from hdn.out)
          clear hdn hone hil
          go_wp2_with fail
          go_roundg (a - 1)
          case measure => have := HGA.out; omega
          case rel => exact ⟨a - 1, by go_num, rfl, by omega, by omega, by rw [HD.out, hdn2.out]; rfl, (by first | exact ⟨_, rfl⟩ | exact drew2 _ _ _)⟩
        · rw [hil] at hdn
          have hdn2 := hid (show lynDown t.data.toList a = a from hdn.out)
          clear hdn hone hil
          have HLN := hid (show lynLen t.data.toList = a by rw [HD.out, hdn2.out])
          have hxz : (t.extract a t.size).size = t.size - a := extract_size _ _ _ (Nat.le_refl _)
          have HXZ := hid hxz
          clear hxz
          go_wp2_with fail
          go_region_law (refine step_app_str (.tmp 17) (.tmp 21) u3 w.heap.size xs _ (by rfl) (by rfl) (by rfl) (by rfl) (heap_alloc_new _ _) (by exact HO.out.alloc _) (by omega) (by simp; omega) ?_; intro v' w' hown' hgrow)
          have HO2 := hid hown'
          have HG2 := hid hgrow
          clear hown' hgrow
          go_wp2_with fail
          go_roundg (t.size - a)
          case measure => have := HTG.out; omega
          case rel =>
            refine ⟨_, _, rfl, by rw [HXZ.out]; exact Nat.le_refl _, by rw [HXZ.out]; omega, by rw [List.length_append, HXZ.out]; simp; omega, HO2.out, ?_, HB.out.trans (((below_drewN' _ _ _).alloc (by exact hbz) _).trans HG2.out)⟩
            rw [strB_drop, strB_list, strB_take, strB_list, List.append_assoc]
            have := HW.out
            rw [HLN.out] at this
            rw [List.singleton_append, ← this]
            exact HL.out

set_option maxHeartbeats 400000 in
theorem lyndon_bad (s : ByteArray) (w : World) (hs : s.size ≤ 1000) (hc : chk s.data.toList ≠ 0) :
    Calls Tryd.prog 43 #[.string s] w fun e w' => e = .returned (.tuple #[.slice none 0 0, .int .i64 (chk s.data.toList)]) ∧ Below w.heap.size w w' := by
  have hck := check_any s w hs
  have hc2 : (chk s.data.toList == 0) = false := by simp [hc]
  clear hc
  generalize chk s.data.toList = q at *
  go_enter Tryd.func43, Tryd.ntmps43
  go_wp2_with fail
  refine hck.mono ?_
  rintro e w1 ⟨rfl, hb⟩
  go_wp2_with fail
  go_ret2
  exact ⟨rfl, hb⟩
theorem lyndon_fin (s : ByteArray) (w : World) (hs : s.size ≤ 1000) :
    Calls Tryd.prog 43 #[.string s] w fun e w' => ∃ v, e = .returned (.tuple #[v, .int .i64 (chk s.data.toList)]) ∧ IsStrs w' v (if chk s.data.toList = 0 then lyn s.data.toList else []) ∧ Below w.heap.size w w' := by
  by_cases hc : chk s.data.toList = 0
  · rw [hc, if_pos rfl]
    exact (lyndon_ok s w hs hc).mono fun _ _ ⟨v, h1, h2, h3⟩ => ⟨v, h1, own_isStrs h2, h3⟩
  · rw [if_neg hc]
    exact (lyndon_bad s w hs hc).mono fun _ w' ⟨h1, h3⟩ => ⟨_, h1, own_isStrs (e := 9) (B := 0) (xs := []) (own_nil w' 0 9), h3⟩
end Go.Proofs.YtpoekblolicehaaDoor
