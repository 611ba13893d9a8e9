/-
  The walk over the reference: two lists of runs that are the same.
-/
import Derived.Test.YtpoekblolicehaaDoorWalkG
import Derived.Laws.StructEq
namespace Go.Proofs.YtpoekblolicehaaDoor
open Go.RowKit
def rneq (a b : Rn) : Bool := decide (a ≠ b)
theorem run_neq_rn (w : World) (a b : Rn) : (binOp .neq 62 (.agg #[.int .i64 a.1, .int .i64 a.2.1, .int .i64 a.2.2]) (.agg #[.int .i64 b.1, .int .i64 b.2.1, .int .i64 b.2.2])).run Tryd.prog w = .ok (.bool (rneq a b)) w := by
  have h1 : Tryd.prog.stoodInHeld 62 = false := by kernel_rfl
  have h3 : Tryd.prog.underlying 62 = some (.struct (Tryd.prog.fieldsOf 62)) := by unfold Program.fieldsOf; rw [Tryd.underlying62]
  rw [run_neq_struct, run_equalIn_agg w 9999 62 _ _ h3 h1]
  unfold Program.fieldsOf
  rw [Tryd.underlying62]
  obtain ⟨a1, a2, a3⟩ := a
  obtain ⟨b1, b2, b3⟩ := b
  simp [go_sem, Tryd.underlying3]
  unfold rneq
  by_cases e1 : a1 = b1
  · by_cases e2 : a2 = b2
    · by_cases e3 : a3 = b3 <;> simp [e1, e2, e3]
      omega
    · have : ¬ (a2 : Int) = b2 := by omega
      simp [e1, e2, this]
  · have : ¬ (a1 : Int) = b1 := by omega
    simp [e1, this]
set_option maxHeartbeats 400000 in
theorem sameRuns_any (v u : Value) (xs ys : List Rn) (w : World) (hv : IsRuns w v xs) (hu : IsRuns w u ys) :
    Calls Tryd.prog 32 #[v, u] w fun e w' => e = .returned (.bool (xs == ys)) ∧ ∃ n, w' = w.drewN n := by
  obtain ⟨a, c, rfl, hn, Ha⟩ := hv
  obtain ⟨b, d, rfl, hm, Hb⟩ := hu
  unfold maxLen at hn hm
  have HA := hid Ha
  have HB := hid Hb
  clear Ha Hb
  by_cases h : xs.length = ys.length
  · rw [← h]
    have H := hid h
    clear h
    generalize hN : xs.length = n at *
    have HN := hid hN
    clear hN
    go_enter Tryd.func32, Tryd.ntmps32
    go_wp2
    go_loopg [5] n (fun g i wr => ∃ k : Nat, k ≤ n ∧ g = n - k ∧ i = .int .i64 k ∧ xs.take k = ys.take k ∧ ∃ j, wr = w.drewN j)
    case atStart => exact ⟨0, Nat.zero_le _, by omega, rfl, rfl, 0, rfl⟩
    case round =>
        obtain ⟨k, hk, hgk, rfl, ht, j, rfl⟩ := hrel
        have Ht := hid ht; clear ht
        have HGK := hid hgk; clear hgk
        by_cases hlt : k < n
        · obtain ⟨g, rfl, ca0, ca1, ca2⟩ := HA.out k hlt
          obtain ⟨g', rfl, cb0, cb1, cb2⟩ := HB.out k (by rw [← H.out]; exact hlt)
          have hcmp := fun w => run_neq_rn w (rx xs k) (rx ys k)
          by_cases he : rx xs k = rx ys k
          · have hb : rneq (rx xs k) (rx ys k) = false := by simp [rneq, he]
            have He := hid he; clear he
            go_wp2
            go_quiet (fail)
            go_wp2
            go_roundg (n - (k + 1))
            case measure => have := HGK.out; omega
            case rel => exact ⟨k + 1, by omega, rfl, by go_num, rtake_succ Ht.out (by rw [HN.out]; exact hlt) (by rw [← H.out]; exact hlt) He.out, (by first | exact ⟨_, rfl⟩ | exact drew2 _ _ _)⟩
          · have hb : rneq (rx xs k) (rx ys k) = true := by simp [rneq, he]
            have He := hid he; clear he
            go_wp2
            go_quiet (fail)
            go_wp2
            go_ret
            exact ⟨ret_bool (by rw [eq_comm, beq_eq_false_iff_ne]; exact rx_ne He.out), (by first | exact ⟨_, rfl⟩ | exact drew2 _ _ _)⟩
        · go_wp2
          go_ret
          obtain rfl : k = n := by omega
          exact ⟨ret_bool (by
            have := Ht.out
            rw [List.take_of_length_le (by rw [HN.out]; exact Nat.le_refl _), List.take_of_length_le (by rw [← H.out]; exact Nat.le_refl _)] at this
            rw [this]; simp), _, rfl⟩
  · have h' : ((xs.length : Int) != (ys.length : Int)) = true := by simp; omega
    go_enter Tryd.func32, Tryd.ntmps32
    go_wp2
    go_ret
    exact ⟨ret_bool (by rw [eq_comm, beq_eq_false_iff_ne]; intro e; exact h (by rw [e])), 0, rfl⟩
end Go.Proofs.YtpoekblolicehaaDoor
