/-
  Limbs are trimmed (48); integers are made (47).
-/
import Derived.Test.YtlhmidecjiihcaaDoorBaseA
namespace Go.Proofs.YtlhmidecjiihcaaDoor
open Go.RowKit
/-- how many limbs are left -/
def tlen (z : Nat → Nat) : Nat → Nat
  | 0 => 0
  | n + 1 => if z n = 0 then tlen z n else n + 1
theorem tlen_le (z : Nat → Nat) : ∀ n, tlen z n ≤ n
  | 0 => Nat.le_refl _
  | n + 1 => by
    have := tlen_le z n
    show (if z n = 0 then _ else _ : Nat) ≤ _
    split <;> omega
set_option maxRecDepth 100000 in
set_option maxHeartbeats 1000000 in
theorem trim_any (a : Option Addr) (g n c : Nat) (z : Nat → Nat) (w : World) (ha : 0 < n → a = some ⟨g, 0, none⟩) (hn : n ≤ 100) (hnc : n ≤ c) (hz : ∀ j, j < n → w.cell? ⟨g, j, none⟩ = some (.int .u32 (z j : Int))) :
    Calls Tryd.prog 48 #[.slice a n c] w fun e w' => e = .returned (.slice a (tlen z n) c) ∧ w' = w := by
  have HZ := hid hz
  have HA := hid ha
  clear hz ha
  go_enter Tryd.func48, Tryd.ntmps48
  go_wp2_with fail
  go_loop [0] (fun v => ∃ k : Nat, v = .slice a k c ∧ k ≤ n ∧ Hid (tlen z k = tlen z n)) (fun v => lenOf v)
  case atStart => exact ⟨n, rfl, Nat.le_refl _, rfl⟩
  case round =>
    obtain ⟨k, rfl, hk, HT⟩ := hrel
    cases k with
    | zero =>
      go_wp2_with fail
      go_ret
      exact ⟨by rw [← HT.out]; rfl, rfl⟩
    | succ k =>
      obtain rfl := HA.out (by omega)
      have cz := HZ.out k (by omega)
      have hkk : ((k + 1 : Nat) : Int) - 1 = (k : Int) := by omega
      by_cases h0 : z k = 0
      · have HS : Hid (tlen z (k + 1) = tlen z k) := by show (if z k = 0 then _ else _ : Nat) = _; rw [if_pos h0]
        rw [h0] at cz
        clear h0
        go_wp2_with fail
        go_round
        case rel => exact ⟨k, rfl, by omega, by show _ = _; rw [← HS.out]; exact HT.out⟩
        case measure => simp [lenOf]
      · have HS : Hid (tlen z (k + 1) = k + 1) := by show (if z k = 0 then _ else _ : Nat) = _; rw [if_neg h0]
        have h0i : ((z k : Int) == 0) = false := by simp; omega
        have HTT : Hid (tlen z n = k + 1) := HT.out.symm.trans HS.out
        clear HT HS
        generalize z k = y at *
        go_wp2_with fail
        go_ret
        exact ⟨by rw [HTT.out]; rfl, rfl⟩
/-- a number of at most one limb, in memory -/
def Lb (w : World) (v : Value) (k : Nat) : Prop := ∃ a c, v = .slice a (if k = 0 then 0 else 1) c ∧ (if k = 0 then 0 else 1) ≤ c ∧ k < 4294967296 ∧ (0 < k → ∃ g, a = some ⟨g, 0, none⟩ ∧ w.cell? ⟨g, 0, none⟩ = some (.int .u32 (k : Int)))
theorem Lb.below {w w' : World} {v : Value} {k : Nat} (h : Lb w v k) (hb : Below w.heap.size w w') : Lb w' v k := by
  obtain ⟨a, c, rfl, h0, h1, h2⟩ := h
  refine ⟨a, c, rfl, h0, h1, fun hk => ?_⟩
  obtain ⟨g, e, hc⟩ := h2 hk
  exact ⟨g, e, (hb.cell (World.block_lt_of_cell? w _ hc)).trans hc⟩
theorem Lb.z {w : World} {v : Value} (h : Lb w v 0) : ∃ a c, v = .slice a 0 c := by
  obtain ⟨a, c, h, _⟩ := h
  exact ⟨a, c, h⟩
theorem Lb.p {w : World} {v : Value} {k : Nat} (h : Lb w v k) (hk : k ≠ 0) : ∃ g c, v = .slice (some ⟨g, 0, none⟩) 1 c ∧ 1 ≤ c ∧ k < 4294967296 ∧ w.cell? ⟨g, 0, none⟩ = some (.int .u32 (k : Int)) := by
  obtain ⟨a, c, h, h0, h1, h2⟩ := h
  rw [if_neg hk] at h h0
  obtain ⟨g, rfl, hc⟩ := h2 (by omega)
  exact ⟨g, c, h, h0, h1, hc⟩
theorem Lb.zero (w : World) (a : Option Addr) (c : Nat) : Lb w (.slice a 0 c) 0 := ⟨a, c, rfl, Nat.zero_le _, by decide, fun h => absurd h (Nat.lt_irrefl _)⟩
theorem Lb.one {w : World} {g c k : Nat} (hk : k ≠ 0) (h1 : k < 4294967296) (hc : 1 ≤ c) (h : w.cell? ⟨g, 0, none⟩ = some (.int .u32 (k : Int))) : Lb w (.slice (some ⟨g, 0, none⟩) 1 c) k :=
  ⟨_, c, by rw [if_neg hk], by rw [if_neg hk]; exact hc, h1, fun _ => ⟨g, rfl, h⟩⟩
/-- what trim leaves of limbs of which all but the lowest are 0 -/
theorem lb_trim {w : World} {g n c k : Nat} {z : Nat → Nat} (hk : k < 4294967296) (h0 : 0 < n → z 0 = k) (hn : n = 0 → k = 0) (hz : ∀ j, 0 < j → j < n → z j = 0) (hc : n ≤ c) (hcell : ∀ j, j < n → w.cell? ⟨g, j, none⟩ = some (.int .u32 (z j : Int))) : Lb w (.slice (some ⟨g, 0, none⟩) (tlen z n) c) k := by
  have key : ∀ m, m ≤ n → tlen z m = if k = 0 then 0 else (if m = 0 then 0 else 1) := fun m => by
    induction m with
    | zero => intro _; show 0 = _; split <;> rfl
    | succ m ih =>
      intro hm
      have ih := ih (by omega)
      show (if z m = 0 then tlen z m else m + 1) = _
      by_cases hm0 : m = 0
      · subst hm0
        rw [h0 (by omega)]
        by_cases e : k = 0
        · rw [if_pos e, if_pos e]; rfl
        · rw [if_neg e, if_neg e]; rfl
      · rw [if_pos (hz m (by omega) (by omega)), ih, if_neg hm0]
        rfl
  rw [key n (Nat.le_refl _)]
  by_cases e : k = 0
  · rw [if_pos e]
    subst e
    exact Lb.zero _ _ _
  · have hn0 : n ≠ 0 := fun h => e (hn h)
    rw [if_neg e, if_neg hn0]
    exact Lb.one e hk (by omega) ((hcell 0 (by omega)).trans (by rw [h0 (by omega)]))
/-- an integer of at most one limb: its value -/
def IntZ (w : World) (v : Value) (z : Int) : Prop := ∃ s, v = .agg #[.bool (decide (z < 0)), s] ∧ Lb w s z.natAbs
theorem IntZ.below {w w' : World} {v : Value} {z : Int} (h : IntZ w v z) (hb : Below w.heap.size w w') : IntZ w' v z := by
  obtain ⟨s, rfl, h⟩ := h
  exact ⟨s, rfl, h.below hb⟩
set_option maxRecDepth 100000 in
set_option maxHeartbeats 1000000 in
theorem made_any (b : Bool) (v : Value) (k : Nat) (w : World) (h : Lb w v k) :
    Calls Tryd.prog 47 #[.bool b, v] w fun e w' => e = .returned (.agg #[.bool (b && decide (0 < k)), v]) ∧ Below w.heap.size w w' := by
  by_cases hk : k = 0
  · subst hk
    obtain ⟨a, c, rfl⟩ := h.z
    cases b
    · go_enter Tryd.func47, Tryd.ntmps47
      go_wp2_with fail
      exact bodyPost_ret (v := .agg #[.bool false, .slice a 0 c]) (by simp [results, Tryd.results47, go_sem]) rfl ⟨rfl, ba _ _⟩
    · go_enter Tryd.func47, Tryd.ntmps47
      go_wp2_with fail
      exact bodyPost_ret (v := .agg #[.bool false, .slice a 0 c]) (by simp [results, Tryd.results47, go_sem]) rfl ⟨rfl, ba _ _⟩
  · obtain ⟨g, c, rfl, h1, h2, h3⟩ := h.p hk
    have hd : decide (0 < k) = true := decide_eq_true (by omega)
    rw [hd]
    clear hd h3
    cases b
    · go_enter Tryd.func47, Tryd.ntmps47
      go_wp2_with fail
      exact bodyPost_ret (v := .agg #[.bool false, .slice (some ⟨g, 0, none⟩) 1 c]) (by simp [results, Tryd.results47, go_sem]) rfl ⟨rfl, ba _ _⟩
    · go_enter Tryd.func47, Tryd.ntmps47
      go_wp2_with fail
      exact bodyPost_ret (v := .agg #[.bool true, .slice (some ⟨g, 0, none⟩) 1 c]) (by simp [results, Tryd.results47, go_sem]) rfl ⟨rfl, ba _ _⟩
end Go.Proofs.YtlhmidecjiihcaaDoor
