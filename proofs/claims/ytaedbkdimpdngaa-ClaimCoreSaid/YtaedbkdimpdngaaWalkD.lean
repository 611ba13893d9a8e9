/-
  Walks over chapter 12: the first of some sets that meets a test.
-/
import Derived.Test.YtaedbkdimpdngaaWalkC
import Derived.Shelf.Abstract
namespace Go.Proofs.Ytaedbkdimpdngaa
open Go.RowKit
/-- a function value: what it hands back at each set -/
def FnB (g : Nat) (lb : Array Value) (N : Nat) (res : Nat → Value) (w : World) : Prop :=
  ∀ W, Below w.heap.size w W → ∀ s, s < N → Calls Try.prog g (#[sv s] ++ lb) W fun e W' => e = .returned (res s) ∧ Below W.heap.size W W'
theorem fnB_later {g : Nat} {lb : Array Value} {N : Nat} {res : Nat → Value} {w w' : World} (h : FnB g lb N res w) (hb : Below w.heap.size w w') : FnB g lb N res w' :=
  fun W hW s hs => h W (hb.trans (hW.mono hb.size)) s hs
/-- the first place at which a test holds -/
def idx (p : Nat → Bool) (l : List Nat) : Int := match l.findIdx? p with
  | some i => (i : Int)
  | none => -1
theorem idx_hit {p : Nat → Bool} {l : List Nat} {i : Nat} (h : i < l.length) (h1 : p (l.getD i 0) = true) (h2 : ∀ j, j < i → p (l.getD j 0) = false) : idx p l = (i : Int) := by
  have : l.findIdx? p = some i := by
    rw [List.findIdx?_eq_some_iff_getElem]
    refine ⟨h, ?_, fun j hj => ?_⟩
    · rw [List.getD_eq_getElem?_getD, List.getElem?_eq_getElem h] at h1; exact h1
    · have := h2 j hj
      rw [List.getD_eq_getElem?_getD, List.getElem?_eq_getElem (by omega)] at this
      simpa using this
  unfold idx; rw [this]
theorem idx_none {p : Nat → Bool} {l : List Nat} (h : ∀ j, j < l.length → p (l.getD j 0) = false) : idx p l = -1 := by
  have : l.findIdx? p = none := by
    rw [List.findIdx?_eq_none_iff]
    intro x hx
    obtain ⟨i, hi, rfl⟩ := List.getElem_of_mem hx
    have := h i hi
    rw [List.getD_eq_getElem?_getD, List.getElem?_eq_getElem hi] at this
    exact this
  unfold idx; rw [this]
theorem idx_any (p : Nat → Bool) (l : List Nat) : decide (0 ≤ idx p l) = l.any p := by
  rw [Bool.eq_iff_iff, decide_eq_true_eq, List.any_eq_true]
  unfold idx
  cases e : l.findIdx? p with
  | none =>
    rw [List.findIdx?_eq_none_iff] at e
    constructor
    · intro h; exact absurd h (by decide)
    · rintro ⟨x, h1, h2⟩; rw [e x h1] at h2; cases h2
  | some i =>
    rw [List.findIdx?_eq_some_iff_getElem] at e
    obtain ⟨h1, h2, _⟩ := e
    exact ⟨fun _ => ⟨_, List.getElem_mem h1, h2⟩, fun _ => by show (0 : Int) ≤ (i : Int); omega⟩
set_option maxHeartbeats 1000000 in
theorem index_any (g : Nat) (lb : Array Value) (p : Nat → Bool) (eg : ∀ args w, (callFunc g args).run Try.prog w = .ok (.enter g args) w) (v : Value) (l : List Nat) (w : World)
    (hv : IsV w v (l.map sv)) (N : Nat) (hl : ∀ s, s ∈ l → s < N) (hp : FnB g lb N (fun s => .bool (p s)) w) :
    Calls Try.prog 50 #[v, .func (.func g) #[] lb] w fun e w' => e = .returned (.int .i64 (idx p l)) ∧ Below w.heap.size w w' := by
  obtain ⟨a, c, rfl⟩ := isV_slice hv
  have hlen : l.length ≤ 1000000 := by
    obtain ⟨_, _, _, h, _⟩ := hv
    rwa [List.length_map] at h
  have HV := hid hv
  have HP := hid hp
  have HL := hid hl
  clear hv hp hl
  rw [List.length_map] at HV ⊢
  obtain ⟨n, hn⟩ : ∃ n, n = l.length := ⟨_, rfl⟩
  have HN := hid hn
  rw [← hn] at hlen HV ⊢
  clear hn
  go_enter Try.func50, Try.ntmps50
  go_wp2_with fail
  go_loopw [8] (fun iv wr => ∃ i : Nat, iv = .int .i64 i ∧ i ≤ n ∧ Hid (∀ j, j < i → p (l.getD j 0) = false) ∧ Hid (Below w.heap.size w wr)) (fun iv _ => n - (intOf iv).toNat)
  case atStart => exact ⟨0, rfl, Nat.zero_le _, fun j hj => absurd hj (Nat.not_lt_zero _), Below.refl _ _⟩
  case round =>
    obtain ⟨i, rfl, hi, HJ, HBr⟩ := hrel
    by_cases hlt : i < n
    · have hli : i < l.length := by rw [← HN.out]; exact hlt
      obtain ⟨gb, rfl, -, hc⟩ := isV_at (isV_below HV.out HBr.out) i (by rw [List.length_map]; exact hli)
      rw [getD_map sv _ 0 i hli] at hc
      have hs : l.getD i 0 < N := HL.out _ (by rw [List.getD_eq_getElem?_getD, List.getElem?_eq_getElem hli]; exact List.getElem_mem hli)
      have hcall := HP.out wr HBr.out _ hs
      have HIT := hid (fun h => idx_hit (p := p) hli h HJ.out)
      have HNX : Hid (p (l.getD i 0) = false → ∀ j, j < i + 1 → p (l.getD j 0) = false) := fun h j hj => by
        by_cases e : j = i
        · rw [e]; exact h
        · exact HJ.out j (by omega)
      unfold sv at hcall
      dsimp only at hcall
      change wr.cell? _ = some (.int .u16 ((l.getD i 0 : Nat) : Int)) at hc
      generalize l.getD i 0 = s at *
      clear HJ
      cases hq : p s with
      | true =>
        rw [hq] at hcall
        have HI := hid (HIT.out hq)
        clear hq HIT
        go_wp2_with (first | (go_at_fn g; refine hcall.mono ?_; rintro e w' ⟨rfl, hb'⟩; have HB7 := hid hb'; clear hb') | fail)
        go_ret
        exact ⟨by rw [HI.out]; rfl, HBr.out.trans (HB7.out.mono HBr.out.size)⟩
      | false =>
        rw [hq] at hcall
        have HI := hid (HNX.out hq)
        clear hq HIT
        go_wp2_with (first | (go_at_fn g; refine hcall.mono ?_; rintro e w' ⟨rfl, hb'⟩; have HB7 := hid hb'; clear hb') | fail)
        go_roundw
        case rel => exact ⟨i + 1, by go_num, by omega, HI, HBr.out.trans (HB7.out.mono HBr.out.size)⟩
        case measure => simp [intOf]; omega
    · obtain rfl : i = n := by omega
      have HI := hid (idx_none (p := p) (l := l) (fun j hj => HJ.out j (by rw [HN.out]; exact hj)))
      go_wp2_with fail
      go_ret
      exact ⟨by rw [HI.out]; rfl, HBr.out⟩
theorem contains_any (g : Nat) (lb : Array Value) (p : Nat → Bool) (eg : ∀ args w, (callFunc g args).run Try.prog w = .ok (.enter g args) w) (v : Value) (l : List Nat) (w : World)
    (hv : IsV w v (l.map sv)) (N : Nat) (hl : ∀ s, s ∈ l → s < N) (hp : FnB g lb N (fun s => .bool (p s)) w) :
    Calls Try.prog 80 #[v, .func (.func g) #[] lb] w fun e w' => e = .returned (.bool (l.any p)) ∧ Below w.heap.size w w' := by
  have HI := hid (index_any g lb p eg v l w hv N hl hp)
  rw [← idx_any]
  clear hv hl hp
  obtain ⟨k, hk⟩ : ∃ k, k = idx p l := ⟨_, rfl⟩
  rw [← hk] at HI ⊢
  clear hk
  go_enter Try.func80, Try.ntmps80
  go_wp2_with (first | (go_at_call 50; refine (HI.out).mono ?_; rintro e w6 ⟨rfl, hb6⟩; have HB6 := hid hb6; clear hb6) | fail)
  go_ret
  exact ⟨by simp, HB6.out⟩
theorem steps1_any (s c B : Nat) (w : World) (hs : s < 4096) (hc : c < 12) (hB : w.cell? ⟨B, 0, none⟩ = some (.int .i64 (c : Int))) :
    Calls Try.prog 51 #[sv s, .pointer (some ⟨B, 0, none⟩)] w fun e w' => e = .returned (.bool (s.testBit c)) ∧ Below w.heap.size w w' := by
  have HO := hid (one_any c w (by omega))
  have ha := and_one s c
  have hp : 2 ^ c < 65536 := Nat.lt_of_le_of_lt (pow_small (show c ≤ 12 by omega)) (by decide)
  have hb := and16 (a := s) (b := 2 ^ c) (by omega) hp
  unfold iv sv at HO
  unfold sv
  generalize 2 ^ c = p at *
  generalize s &&& p = q at *
  cases ht : s.testBit c with
  | false =>
    have h0 : q = 0 := ha.2 ht
    subst h0
    clear ha ht
    go_enter Try.func51, Try.ntmps51
    go_wp2_with (first | (go_at_call 52; refine (HO.out).mono ?_; rintro e w6 ⟨rfl, hb6⟩; have HB6 := hid hb6; clear hb6) | fail)
    go_ret
    exact ⟨rfl, HB6.out⟩
  | true =>
    have h0 : ¬ q = 0 := fun h => by rw [ha.1 h] at ht; cases ht
    clear ha ht
    go_enter Try.func51, Try.ntmps51
    go_wp2_with (first | (go_at_call 52; refine (HO.out).mono ?_; rintro e w6 ⟨rfl, hb6⟩; have HB6 := hid hb6; clear hb6) | fail)
    go_ret
    exact ⟨by simp [h0], HB6.out⟩
end Go.Proofs.Ytaedbkdimpdngaa
