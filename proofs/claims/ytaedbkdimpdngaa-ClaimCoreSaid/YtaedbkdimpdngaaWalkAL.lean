/-
  Walks over chapter 12: is an attack there (Core's inner functions).
-/
import Derived.Test.YtaedbkdimpdngaaWalkAK
import Derived.Test.YtaedbkdimpdngaaWalkD
import Derived.Test.YtaedbkdimpdngaaWalkE
namespace Go.Proofs.Ytaedbkdimpdngaa
open Go.RowKit
/-- the first place at which a test holds -/
def idxP (p : Pr → Bool) (l : List Pr) : Int := match l.findIdx? p with
  | some i => (i : Int)
  | none => -1
theorem idxP_hit {p : Pr → Bool} {l : List Pr} {i : Nat} (h : i < l.length) (h1 : p (prAt l i) = true) (h2 : ∀ j, j < i → p (prAt l j) = false) : idxP p l = (i : Int) := by
  have : l.findIdx? p = some i := by
    rw [List.findIdx?_eq_some_iff_getElem]
    refine ⟨h, ?_, fun j hj => ?_⟩
    · unfold prAt at h1; rw [List.getD_eq_getElem?_getD, List.getElem?_eq_getElem h] at h1; exact h1
    · have := h2 j hj
      unfold prAt at this
      rw [List.getD_eq_getElem?_getD, List.getElem?_eq_getElem (by omega)] at this
      simpa using this
  unfold idxP; rw [this]
theorem idxP_none {p : Pr → Bool} {l : List Pr} (h : ∀ j, j < l.length → p (prAt l j) = false) : idxP p l = -1 := by
  have : l.findIdx? p = none := by
    rw [List.findIdx?_eq_none_iff]
    intro x hx
    obtain ⟨i, hi, rfl⟩ := List.getElem_of_mem hx
    have := h i hi
    unfold prAt at this
    rw [List.getD_eq_getElem?_getD, List.getElem?_eq_getElem hi] at this
    exact this
  unfold idxP; rw [this]
theorem idxP_any (p : Pr → Bool) (l : List Pr) : decide (0 ≤ idxP p l) = l.any p := by
  rw [Bool.eq_iff_iff, decide_eq_true_eq, List.any_eq_true]
  unfold idxP
  cases e : l.findIdx? p with
  | none =>
    rw [List.findIdx?_eq_none_iff] at e
    constructor
    · intro h; exact absurd h (by decide)
    · rintro ⟨x, h1, h2⟩; rw [e x h1] at h2; cases h2
  | some i =>
    rw [List.findIdx?_eq_some_iff_getElem] at e
    obtain ⟨h1, h2, _⟩ := e
    exact ⟨fun _ => ⟨_, List.getElem_mem h1, h2⟩, fun _ => by show (0 : Int) ≤ (i : Int); omega⟩
/-- a function value: what it hands back at each attack -/
def FnP (g : Nat) (lb : Array Value) (p : Pr → Bool) (w : World) : Prop :=
  ∀ W, Below w.heap.size w W → ∀ x y : Int, Calls Try.prog g (#[.agg #[.int .i64 x, .int .i64 y]] ++ lb) W fun e W' => e = .returned (.bool (p (x, y))) ∧ Below W.heap.size W W'
set_option maxHeartbeats 1000000 in
theorem indexP_any (g : Nat) (lb : Array Value) (p : Pr → Bool) (eg : ∀ args w, (callFunc g args).run Try.prog w = .ok (.enter g args) w) (v : Value) (l : List Pr) (w : World)
    (hv : IsPr w v l) (hp : FnP g lb p w) :
    Calls Try.prog 84 #[v, .func (.func g) #[] lb] w fun e w' => e = .returned (.int .i64 (idxP p l)) ∧ Below w.heap.size w w' := by
  obtain ⟨a, c, rfl⟩ := isPr_slice hv
  have hlen : l.length ≤ 1000000 := by
    obtain ⟨_, _, _, h, _⟩ := hv
    exact h
  have HV := hid hv
  have HP := hid hp
  clear hv hp
  obtain ⟨n, hn⟩ : ∃ n, n = l.length := ⟨_, rfl⟩
  have HN := hid hn
  rw [← hn] at hlen HV ⊢
  clear hn
  go_enter Try.func84, Try.ntmps84
  go_wp2_with fail
  go_loopw [8] (fun iv wr => ∃ i : Nat, iv = .int .i64 i ∧ i ≤ n ∧ Hid (∀ j, j < i → p (prAt l j) = false) ∧ Hid (Below w.heap.size w wr)) (fun iv _ => n - (intOf iv).toNat)
  case atStart => exact ⟨0, rfl, Nat.zero_le _, fun j hj => absurd hj (Nat.not_lt_zero _), Below.refl _ _⟩
  case round =>
    obtain ⟨i, rfl, hi, HJ, HBr⟩ := hrel
    by_cases hlt : i < n
    · have hli : i < l.length := by rw [← HN.out]; exact hlt
      obtain ⟨gb, rfl, -, c0, c1⟩ := isPr_at (isPr_below HV.out HBr.out) i hli
      have hcall := HP.out wr HBr.out (prAt l i).1 (prAt l i).2
      have HIT := hid (fun h => idxP_hit (p := p) hli h HJ.out)
      have HNX : Hid (p (prAt l i) = false → ∀ j, j < i + 1 → p (prAt l j) = false) := fun h j hj => by
        by_cases e : j = i
        · rw [e]; exact h
        · exact HJ.out j (by omega)
      generalize prAt l i = q at *
      obtain ⟨x, y⟩ := q
      dsimp only at hcall c0 c1
      clear HJ
      cases hq : p (x, y) with
      | true =>
        rw [hq] at hcall
        have HI := hid (HIT.out hq)
        clear hq HIT
        go_wp2_with (first | (go_at_fn g; refine hcall.mono ?_; rintro e w' ⟨rfl, hb'⟩; have HB7 := hid hb'; clear hb') | fail)
        go_ret
        exact ⟨by rw [HI.out]; rfl, HBr.out.trans (HB7.out.mono HBr.out.size)⟩
      | false =>
        rw [hq] at hcall
        have HI := hid (HNX.out hq)
        clear hq HIT
        go_wp2_with (first | (go_at_fn g; refine hcall.mono ?_; rintro e w' ⟨rfl, hb'⟩; have HB7 := hid hb'; clear hb') | fail)
        go_roundw
        case rel => exact ⟨i + 1, by go_num, by omega, HI, HBr.out.trans (HB7.out.mono HBr.out.size)⟩
        case measure => simp [intOf]; omega
    · obtain rfl : i = n := by omega
      have HI := hid (idxP_none (p := p) (l := l) (fun j hj => HJ.out j (by rw [HN.out]; exact hj)))
      go_wp2_with fail
      go_ret
      exact ⟨by rw [HI.out]; rfl, HBr.out⟩
theorem containsP_any (g : Nat) (lb : Array Value) (p : Pr → Bool) (eg : ∀ args w, (callFunc g args).run Try.prog w = .ok (.enter g args) w) (v : Value) (l : List Pr) (w : World)
    (hv : IsPr w v l) (hp : FnP g lb p w) :
    Calls Try.prog 72 #[v, .func (.func g) #[] lb] w fun e w' => e = .returned (.bool (l.any p)) ∧ Below w.heap.size w w' := by
  have HI := hid (indexP_any g lb p eg v l w hv hp)
  rw [← idxP_any]
  clear hv hp
  obtain ⟨k, hk⟩ : ∃ k, k = idxP p l := ⟨_, rfl⟩
  rw [← hk] at HI ⊢
  clear hk
  go_enter Try.func72, Try.ntmps72
  go_wp2_with (first | (go_at_call 84; refine (HI.out).mono ?_; rintro e w6 ⟨rfl, hb6⟩; have HB6 := hid hb6; clear hb6) | fail)
  go_ret
  exact ⟨by simp, HB6.out⟩
theorem core11_any (x y a b : Int) (PA PB : Nat) (w : World) (hA : w.cell? ⟨PA, 0, none⟩ = some (.int .i64 a)) (hB : w.cell? ⟨PB, 0, none⟩ = some (.int .i64 b)) :
    Calls Try.prog 73 #[.agg #[.int .i64 x, .int .i64 y], .pointer (some ⟨PA, 0, none⟩), .pointer (some ⟨PB, 0, none⟩)] w fun e w' => e = .returned (.bool (x == a && y == b)) ∧ Below w.heap.size w w' := by
  have hb := ba w (.cells #[.int .i64 x, .int .i64 y] 45)
  have c0 := (hb.cell (World.block_lt_of_cell? w _ hA)).trans hA
  have c1 := (hb.cell (World.block_lt_of_cell? w _ hB)).trans hB
  have hz := heap_alloc_new w (.cells #[.int .i64 x, .int .i64 y] 45)
  obtain ⟨p0, p1⟩ := cells2_of hz
  have HB := hid hb
  clear hA hB hz hb
  by_cases hx : x = a
  · subst hx
    by_cases hy : y = b
    · subst hy
      rw [beq_self_eq_true, beq_self_eq_true]
      go_enter Try.func73, Try.ntmps73
      go_wp2_with fail
      go_ret
      exact ⟨rfl, HB.out⟩
    · rw [beq_self_eq_true, beq_eq_false_iff_ne.2 hy]
      go_enter Try.func73, Try.ntmps73
      go_wp2_with fail
      go_ret
      exact ⟨rfl, HB.out⟩
  · rw [beq_eq_false_iff_ne.2 hx, Bool.false_and]
    go_enter Try.func73, Try.ntmps73
    go_wp2_with fail
    go_ret
    exact ⟨rfl, HB.out⟩
theorem eg73 : ∀ args w, (callFunc 73 args).run Try.prog w = .ok (.enter 73 args) w := enters_of Try.func73 (by kernel_rfl) rfl
theorem eg71 : ∀ args w, (callFunc 71 args).run Try.prog w = .ok (.enter 71 args) w := enters_of Try.func71 (by kernel_rfl) rfl
theorem has_any (a b : Int) (T : Nat) (v : Value) (l : List Pr) (w : World) (hT : w.cell? ⟨T, 0, none⟩ = some v) (hv : IsPr w v l) :
    Calls Try.prog 71 #[.int .i64 a, .int .i64 b, .pointer (some ⟨T, 0, none⟩)] w fun e w' => e = .returned (.bool (l.any fun p => p.1 == a && p.2 == b)) ∧ Below w.heap.size w w' := by
  have hb1 := ba w (.cells #[.int .i64 a] 3)
  have hb2 := ba (w.alloc (.cells #[.int .i64 a] 3)) (.cells #[.int .i64 b] 3)
  have hbb := below_step hb1 hb2
  have cT := (hbb.cell (World.block_lt_of_cell? w _ hT)).trans hT
  have z1 := heap_alloc_new w (.cells #[.int .i64 a] 3)
  have z1' := (hb2.block _ (heap_lt z1)).trans z1
  have z2 := heap_alloc_new (w.alloc (.cells #[.int .i64 a] 3)) (.cells #[.int .i64 b] 3)
  have hsz : (w.alloc (.cells #[.int .i64 a] 3)).heap.size = w.heap.size + 1 := by simp
  rw [hsz] at z2
  have CP := hid (containsP_any 73 #[.pointer (some ⟨w.heap.size, 0, none⟩), .pointer (some ⟨w.heap.size + 1, 0, none⟩)] (fun p => p.1 == a && p.2 == b) eg73 v l ((w.alloc (.cells #[.int .i64 a] 3)).alloc (.cells #[.int .i64 b] 3)) (isPr_below hv hbb) (fun W hW x y => core11_any x y a b w.heap.size (w.heap.size + 1) W (box1 ((hW.block _ (heap_lt z1')).trans z1')) (box1 ((hW.block _ (heap_lt z2)).trans z2))))
  obtain ⟨sa, sc, rfl⟩ := isPr_slice hv
  have HB := hid hbb
  obtain ⟨r, hr⟩ : ∃ r, r = l.any fun p => p.1 == a && p.2 == b := ⟨_, rfl⟩
  rw [← hr] at CP ⊢
  clear hb1 hb2 hbb hT hv z1 z1' z2 hsz hr
  generalize l.length = ln at *
  go_enter Try.func71, Try.ntmps71
  go_wp2_with (first | (go_at_call 72; refine CP.out.mono ?_; rintro e w6 ⟨rfl, hb6⟩; have HB6 := hid hb6; clear hb6) | fail)
  go_ret
  exact ⟨rfl, below_step HB.out HB6.out⟩
end Go.Proofs.Ytaedbkdimpdngaa
