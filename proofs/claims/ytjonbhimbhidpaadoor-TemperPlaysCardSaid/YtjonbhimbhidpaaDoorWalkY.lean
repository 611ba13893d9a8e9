/-
  Walks over chapter 6: cells are counted.
-/
import Derived.Test.YtjonbhimbhidpaaDoorPlainE
namespace Go.Proofs.YtjonbhimbhidpaaDoor
open Go.RowKit

def cntS (s : Str) : Nat := s.countP (· == 46)
def cntP (p : List Str) : Nat := (p.map cntS).sum
def cntG (g : Grid) : Nat := (g.map cntP).sum
theorem cntS_succ (s : Str) (x : Nat) (h : x < s.length) : cntS (s.take (x + 1)) = cntS (s.take x) + (if (s[x] == 46) = true then 1 else 0) := by
  unfold cntS
  rw [List.take_succ_eq_append_getElem h, List.countP_append, List.countP_singleton]
theorem cntP_succ (p : List Str) (y : Nat) (h : y < p.length) : cntP (p.take (y + 1)) = cntP (p.take y) + cntS (p.getD y []) := by
  unfold cntP
  rw [List.take_succ_eq_append_getElem h, List.map_append, List.sum_append, List.getD_eq_getElem?_getD, List.getElem?_eq_getElem h]
  simp
theorem cntG_succ (g : Grid) (y : Nat) (h : y < g.length) : cntG (g.take (y + 1)) = cntG (g.take y) + cntP (g.getD y []) := by
  unfold cntG
  rw [List.take_succ_eq_append_getElem h, List.map_append, List.sum_append, List.getD_eq_getElem?_getD, List.getElem?_eq_getElem h]
  simp
theorem cntS_le (s : Str) : cntS s ≤ s.length := List.countP_le_length
theorem sum_le {α : Type} (f : α → Nat) (n : Nat) : ∀ l : List α, (∀ a ∈ l, f a ≤ n) → (l.map f).sum ≤ l.length * n
  | [], _ => by simp
  | a :: l, h => by
    have h1 := sum_le f n l (fun b hb => h b (List.mem_cons_of_mem _ hb))
    have h2 := h a List.mem_cons_self
    rw [List.map_cons, List.sum_cons, List.length_cons, Nat.succ_mul]
    omega
theorem cntP_le (p : List Str) (h : ∀ s ∈ p, s.length ≤ 1000) (hl : p.length ≤ 1000000) : cntP p ≤ 1000000000 := by
  have h1 := sum_le cntS 1000 p (fun s hs => Nat.le_trans (cntS_le s) (h s hs))
  unfold cntP
  omega
theorem cntG_le (g : Grid) (h : ShortG g) (hl : ∀ p ∈ g, p.length ≤ 1000000) (hg : g.length ≤ 1000000) : cntG g ≤ 1000000000000000 := by
  have h1 := sum_le cntP 1000000000 g (fun p hp => cntP_le p (h p hp) (hl p hp))
  unfold cntG
  omega
theorem short_take {g : Grid} (h : ShortG g) (n : Nat) : ShortG (g.take n) := fun p hp => h p (List.mem_of_mem_take hp)
theorem letter_eq (s : Str) (x : Nat) (hx : x < (strB s).size) (k : UInt8) (hk : x < s.length) : ((((((strB s)[x]'hx).toNat : Nat) : Int)) == ((k.toNat : Nat) : Int)) = (s[x] == k) := by
  have h := letter_ne s x hx k hk
  unfold bne at h
  simpa using h

set_option maxHeartbeats 4000000 in
set_option maxRecDepth 100000 in
theorem count_any (v : Value) (g : Grid) (w : World) (hg : IsGrid w v g) (hs : ShortG g) :
    Calls Tryd.prog 34 #[v] w fun e w' => e = .returned (.int .i64 (cntG g)) ∧ w' = w := by
  obtain ⟨a, c, rfl, hl, hc⟩ := hg
  have HC := hid hc
  have HS := hid hs
  have HLL : Hid (∀ p ∈ g, p.length ≤ 1000000) := by
    intro p hp
    obtain ⟨i, hi, rfl⟩ := List.mem_iff_getElem.1 hp
    obtain ⟨_, u, _, _, _, _, _, h2, _⟩ := hc i hi
    have e : g.getD i [] = g[i] := by simp [hi]
    rwa [e] at h2
  obtain ⟨N, hN⟩ : ∃ N, N = g.length := ⟨_, rfl⟩
  have HLG : Hid (∀ n, cntG (g.take n) ≤ 1000000000000000) := fun n => cntG_le _ (short_take hs n) (fun p hp => HLL.out p (List.mem_of_mem_take hp)) (by rw [List.length_take]; omega)
  rw [← hN] at hl ⊢
  have HN := hid hN
  clear hc hs hN
  go_enter Tryd.func34, Tryd.ntmps34
  go_wp2
  go_loopw [3, 4] (fun nv v wr => ∃ i : Nat, v = .int .i64 i ∧ nv = .int .i64 (cntG (g.take i)) ∧ i ≤ N ∧ wr = w) (fun _ v _ => N - (intOf v).toNat)
  case atStart => exact ⟨0, rfl, by simp [cntG], Nat.zero_le _, rfl⟩
  case round =>
    obtain ⟨i, rfl, rfl, hi, rfl⟩ := hrel
    by_cases hlt : i < N
    · have hlt' : i < g.length := by rw [← HN.out]; exact hlt
      obtain ⟨gb, u, rfl, hcell, hst⟩ := HC.out i hlt'
      obtain ⟨p, hpe⟩ : ∃ p, p = g.getD i [] := ⟨_, rfl⟩
      have hpm : p ∈ g := by rw [hpe]; simp [hlt']
      have HNX : Hid (cntG (g.take (i + 1)) = cntG (g.take i) + cntP p) := by rw [hpe]; exact cntG_succ g i hlt'
      rw [← hpe] at hst
      obtain ⟨a2, c2, rfl, hpl, hc2⟩ := hst
      obtain ⟨M, hM⟩ : ∃ M, M = p.length := ⟨_, rfl⟩
      have HC2 := hid hc2
      have HPS : Hid (∀ s ∈ p, s.length ≤ 1000) := HS.out p hpm
      have HPL : Hid (∀ n, cntP (p.take n) ≤ 1000000000) := fun n => cntP_le _ (fun s hs => HPS.out s (List.mem_of_mem_take hs)) (by rw [List.length_take]; omega)
      obtain ⟨n0, hn0⟩ : ∃ n0, n0 = cntG (g.take i) := ⟨_, rfl⟩
      have hb0 : n0 ≤ 1000000000000000 := by rw [hn0]; exact HLG.out i
      rw [← hn0]
      rw [← hn0] at HNX
      rw [← hM] at hcell hpl
      have HM := hid hM
      clear hpe hpm hc2 hlt' hn0 hM
      go_wp2
      go_loopw [3, 5] (fun nv v wr2 => ∃ y : Nat, v = .int .i64 y ∧ nv = .int .i64 ((n0 + cntP (p.take y) : Nat) : Int) ∧ y ≤ M ∧ wr2 = wr) (fun _ v _ => M - (intOf v).toNat)
      case atStart => exact ⟨0, rfl, by simp [cntP], Nat.zero_le _, rfl⟩
      case round =>
        obtain ⟨y, rfl, rfl, hy, rfl⟩ := hrel
        by_cases hly : y < M
        · have hly' : y < p.length := by rw [← HM.out]; exact hly
          obtain ⟨gb2, rfl, hcell2⟩ := HC2.out y hly'
          obtain ⟨s, hse⟩ : ∃ s, s = p.getD y [] := ⟨_, rfl⟩
          have hsl : s.length ≤ 1000 := HPS.out s (by rw [hse]; simp [hly'])
          have HNY : Hid (cntP (p.take (y + 1)) = cntP (p.take y) + cntS s) := by rw [hse]; exact cntP_succ p y hly'
          rw [← hse] at hcell2
          have hsz := strB_size s
          have HSZ := hid hsz
          obtain ⟨n1, hn1⟩ : ∃ n1, n1 = n0 + cntP (p.take y) := ⟨_, rfl⟩
          have hb1 : n1 ≤ 2000000000000000 := by have := HPL.out y; omega
          have HN1 := hid hn1
          rw [← hn1]
          clear hse hly' hn1
          go_wp2
          go_loopw [3, 6] (fun nv v wr3 => ∃ x : Nat, v = .int .i64 x ∧ nv = .int .i64 ((n1 + cntS (s.take x) : Nat) : Int) ∧ x ≤ (strB s).size ∧ wr3 = wr) (fun _ v _ => (strB s).size - (intOf v).toNat)
          case atStart => exact ⟨0, rfl, by simp [cntS], Nat.zero_le _, rfl⟩
          case round =>
            obtain ⟨x, rfl, rfl, hxs, rfl⟩ := hrel
            obtain ⟨n2, hn2⟩ : ∃ n2, n2 = n1 + cntS (s.take x) := ⟨_, rfl⟩
            have hb2 : n2 ≤ 3000000000000000 := by
              have := cntS_le (s.take x)
              rw [List.length_take] at this
              omega
            have HN2 := hid hn2
            rw [← hn2]
            by_cases hlx : x < (strB s).size
            · have hlx' : x < s.length := by rw [← HSZ.out]; exact hlx
              have d1 := letter_eq s x hlx 46 hlx'
              have HX : Hid (n1 + cntS (s.take (x + 1)) = n2 + if (s[x] == 46) = true then 1 else 0) := by
                show _ = _
                rw [cntS_succ s x hlx', hn2, Nat.add_assoc]
              have e46 : (((46 : UInt8).toNat : Nat) : Int) = 46 := rfl
              rw [e46] at d1
              generalize (s[x] == 46) = b1 at *
              clear e46 hlx' hn2
              cases b1
              · have HX2 : Hid (n2 = n1 + cntS (s.take (x + 1))) := by rw [HX.out]; rfl
                go_wp2
                go_roundw
                case rel => exact ⟨x + 1, by go_num, by rw [← HX2.out], by omega, trivial⟩
                case measure => simp [intOf]; omega
              · have HX2 : Hid (n2 + 1 = n1 + cntS (s.take (x + 1))) := by rw [HX.out]; rfl
                go_wp2
                go_roundw
                case rel => exact ⟨x + 1, by go_num, by rw [← HX2.out]; go_num, by omega, trivial⟩
                case measure => simp [intOf]; omega
            · obtain rfl : x = (strB s).size := by omega
              have HE : Hid (n2 = n0 + cntP (p.take (y + 1))) := by
                show _ = _
                rw [HN2.out, HSZ.out, List.take_of_length_le (Nat.le_refl _), HN1.out, HNY.out]; omega
              clear hn2
              go_wp2
              go_roundw
              case rel => exact ⟨y + 1, by go_num, by rw [← HE.out], by omega, trivial⟩
              case measure => simp [intOf]; omega
        · obtain rfl : y = M := by omega
          have HE : Hid (n0 + cntP (p.take y) = cntG (g.take (i + 1))) := by
            show _ = _
            rw [HNX.out, HM.out, List.take_of_length_le (Nat.le_refl _)]
          go_wp2
          go_roundw
          case rel => exact ⟨i + 1, by go_num, by rw [← HE.out], by omega, trivial⟩
          case measure => simp [intOf]; omega
    · obtain rfl : i = N := by omega
      have HE : Hid (cntG (g.take i) = cntG g) := by
        show _ = _
        rw [HN.out, List.take_of_length_le (Nat.le_refl _)]
      go_wp2
      go_ret
      exact ⟨by rw [HE.out]; rfl, rfl⟩
end Go.Proofs.YtjonbhimbhidpaaDoor
