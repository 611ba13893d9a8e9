/-
  Walks over chapter 12: Admissible, Defends.
-/
import Derived.Test.YtaedbkdimpdngaaWalkT
namespace Go.Proofs.Ytaedbkdimpdngaa
open Go.RowKit
theorem memb_no {n : Int} {v u : Value} {l : List Pr} {ys : List Int} {w : World} (hv : IsPr w v l) (hu : IsV w u (ys.map zv)) (h : validP n l = false) :
    Calls Try.prog 74 #[.int .i64 n, v, u] w fun e w' => e = .returned (.tuple #[.pointer none, .int .u16 0, .int .i64 1]) ∧ Below w.heap.size w w' :=
  (members_any n v u l ys w hv hu).mono fun e w' ⟨hb, hc⟩ => by
    rcases hc with ⟨_, he⟩ | ⟨h2, _, _⟩ | ⟨h2, _, _⟩
    · exact ⟨he, hb⟩
    · rw [h] at h2; cases h2
    · rw [h] at h2; cases h2
theorem memb_form {n : Int} {v u : Value} {l : List Pr} {ys : List Int} {w : World} (hv : IsPr w v l) (hu : IsV w u (ys.map zv)) (h : validP n l = true) (ho : okS n ys = false) :
    Calls Try.prog 74 #[.int .i64 n, v, u] w fun e w' => e = .returned (.tuple #[.pointer none, .int .u16 0, .int .i64 2]) ∧ Below w.heap.size w w' :=
  (members_any n v u l ys w hv hu).mono fun e w' ⟨hb, hc⟩ => by
    rcases hc with ⟨h2, _⟩ | ⟨_, _, he⟩ | ⟨_, h2, _⟩
    · rw [h] at h2; cases h2
    · exact ⟨he, hb⟩
    · rw [ho] at h2; cases h2
theorem memb_ok {n : Int} {v u : Value} {l : List Pr} {ys : List Int} {w : World} (hv : IsPr w v l) (hu : IsV w u (ys.map zv)) (h : validP n l = true) (ho : okS n ys = true) :
    Calls Try.prog 74 #[.int .i64 n, v, u] w fun e w' => ∃ D, e = .returned (.tuple #[.pointer (some ⟨D, 0, none⟩), .int .u16 (setS ys : Nat), .int .i64 0]) ∧ DAt w' D (dsp n.toNat l) ∧ Below w.heap.size w w' :=
  (members_any n v u l ys w hv hu).mono fun e w' ⟨hb, hc⟩ => by
    rcases hc with ⟨h2, _⟩ | ⟨_, h2, _⟩ | ⟨_, _, D, he, hd⟩
    · rw [h] at h2; cases h2
    · rw [ho] at h2; cases h2
    · exact ⟨D, he, hd, hb⟩
/-- what the functions on a set of claims return -/
def RetS (w : World) (n : Int) (l : List Pr) (ys : List Int) (no : Value) (ok : Nat → Value → World → Prop) (e : Ending) (w' : World) : Prop :=
  Below w.heap.size w w' ∧ ((validP n l = false ∧ e = .returned (.tuple #[no, .int .i64 1])) ∨ (validP n l = true ∧ okS n ys = false ∧ e = .returned (.tuple #[no, .int .i64 2])) ∨
    (validP n l = true ∧ okS n ys = true ∧ ∃ x, e = .returned (.tuple #[x, .int .i64 0]) ∧ ok (setS ys) x w'))
set_option maxRecDepth 100000 in
set_option maxHeartbeats 2000000 in
theorem pDefends_any (n : Int) (v u : Value) (l : List Pr) (ys : List Int) (w : World) (hv : IsPr w v l) (hu : IsV w u (ys.map zv)) :
    Calls Try.prog 42 #[.int .i64 n, v, u] w (RetS w n l ys (.slice none 0 0) fun s x w' => OwnV w' w.heap.size 3 x ((elems ((dsp n.toNat l).dfd s)).map iv)) := by
  cases hva : validP n l with
  | false =>
    have HR := hid (memb_no hv hu hva)
    have HVA := hid hva
    clear hv hva hu
    go_enter Try.func42, Try.ntmps42
    go_wp2_with (first | (go_at_call 74; refine (HR.out).mono ?_; rintro e w6 ⟨rfl, hb6⟩; have HB6 := hid hb6; clear hb6) | fail)
    go_ret2
    exact ⟨HB6.out, .inl ⟨HVA.out, rfl⟩⟩
  | true =>
    cases ho : okS n ys with
    | false =>
      have HR := hid (memb_form hv hu hva ho)
      have HVA := hid hva
      have HO := hid ho
      clear hv hva hu ho
      go_enter Try.func42, Try.ntmps42
      go_wp2_with (first | (go_at_call 74; refine (HR.out).mono ?_; rintro e w6 ⟨rfl, hb6⟩; have HB6 := hid hb6; clear hb6) | fail)
      go_ret2
      exact ⟨HB6.out, .inr (.inl ⟨HVA.out, HO.out, rfl⟩)⟩
    | true =>
      have HR := hid (memb_ok hv hu hva ho)
      have HVA := hid hva
      have HO := hid ho
      have hn := valid_n12 hva
      have hs : setS ys < 2 ^ (dsp n.toNat l).n := setS_lt (by have := valid_n hva; omega) ho
      clear hv hva hu ho
      obtain ⟨S, hS⟩ : ∃ S, S = setS ys := ⟨_, rfl⟩
      have HS := hid hS
      rw [← hS] at HR hs
      have HD : Hid (∀ w' D, DAt w' D (dsp n.toNat l) → Calls Try.prog 65 #[.pointer (some ⟨D, 0, none⟩), .int .u16 (S : Int)] w' fun e w'' => e = .returned (.int .u16 (((dsp n.toNat l).dfd S : Nat) : Int)) ∧ Below w'.heap.size w' w'') := fun w' D h => defended_any D _ S w' h hn hs
      have HL : Hid (∀ w', Calls Try.prog 49 #[.int .u16 (((dsp n.toNat l).dfd S : Nat) : Int)] w' fun e w'' => ∃ v, e = .returned v ∧ OwnV w'' w'.heap.size 3 v ((elems ((dsp n.toNat l).dfd S)).map iv) ∧ Below w'.heap.size w' w'') := fun w' => list_any _ w' (lt12 hn (mask_lt _ _))
      clear hS hn hs
      go_enter Try.func42, Try.ntmps42
      go_wp2_with (first
        | (go_at_call 74; refine (HR.out).mono ?_; rintro e w6 ⟨D, rfl, hd6, hb6⟩; have HB6 := hid hb6; have HD6 := hid hd6; clear hb6 hd6)
        | (go_at_call 65; refine (HD.out _ _ HD6.out).mono ?_; rintro e w7 ⟨rfl, hb7⟩; have HB7 := hid (below_step HB6.out hb7); clear hb7)
        | (go_at_call 49; refine (HL.out _).mono ?_; rintro e w8 ⟨v8, rfl, ho8, hb8⟩; have HO8 := hid (ownV_mono ho8 HB7.out.size); have HB8 := hid (below_step HB7.out hb8); clear ho8 hb8)
        | fail)
      go_ret2
      exact ⟨HB8.out, .inr (.inr ⟨HVA.out, HO.out, v8, rfl, by rw [← HS.out]; exact HO8.out⟩)⟩
set_option maxRecDepth 100000 in
set_option maxHeartbeats 2000000 in
theorem pAdmissible_any (n : Int) (v u : Value) (l : List Pr) (ys : List Int) (w : World) (hv : IsPr w v l) (hu : IsV w u (ys.map zv)) :
    Calls Try.prog 41 #[.int .i64 n, v, u] w (RetS w n l ys (.bool false) fun s x w' => x = .bool ((dsp n.toNat l).adm s)) := by
  cases hva : validP n l with
  | false =>
    have HR := hid (memb_no hv hu hva)
    have HVA := hid hva
    clear hv hva hu
    go_enter Try.func41, Try.ntmps41
    go_wp2_with (first | (go_at_call 74; refine (HR.out).mono ?_; rintro e w6 ⟨rfl, hb6⟩; have HB6 := hid hb6; clear hb6) | fail)
    go_ret2
    exact ⟨HB6.out, .inl ⟨HVA.out, rfl⟩⟩
  | true =>
    cases ho : okS n ys with
    | false =>
      have HR := hid (memb_form hv hu hva ho)
      have HVA := hid hva
      have HO := hid ho
      clear hv hva hu ho
      go_enter Try.func41, Try.ntmps41
      go_wp2_with (first | (go_at_call 74; refine (HR.out).mono ?_; rintro e w6 ⟨rfl, hb6⟩; have HB6 := hid hb6; clear hb6) | fail)
      go_ret2
      exact ⟨HB6.out, .inr (.inl ⟨HVA.out, HO.out, rfl⟩)⟩
    | true =>
      have HR := hid (memb_ok hv hu hva ho)
      have HVA := hid hva
      have HO := hid ho
      have hn := valid_n12 hva
      have hs : setS ys < 2 ^ (dsp n.toNat l).n := setS_lt (by have := valid_n hva; omega) ho
      clear hv hva hu ho
      obtain ⟨S, hS⟩ : ∃ S, S = setS ys := ⟨_, rfl⟩
      have HS := hid hS
      rw [← hS] at HR hs
      have HD : Hid (∀ w' D, DAt w' D (dsp n.toNat l) → Calls Try.prog 75 #[.pointer (some ⟨D, 0, none⟩), .int .u16 (S : Int)] w' fun e w'' => e = .returned (.bool ((dsp n.toNat l).adm S)) ∧ Below w'.heap.size w' w'') := fun w' D h => admissible_any D _ S w' h hn hs
      clear hS hn hs
      go_enter Try.func41, Try.ntmps41
      go_wp2_with (first
        | (go_at_call 74; refine (HR.out).mono ?_; rintro e w6 ⟨D, rfl, hd6, hb6⟩; have HB6 := hid hb6; have HD6 := hid hd6; clear hb6 hd6)
        | (go_at_call 75; refine (HD.out _ _ HD6.out).mono ?_; rintro e w7 ⟨rfl, hb7⟩; have HB7 := hid (below_step HB6.out hb7); clear hb7)
        | fail)
      go_ret2
      exact ⟨HB7.out, .inr (.inr ⟨HVA.out, HO.out, _, rfl, by rw [← HS.out]; rfl⟩)⟩
end Go.Proofs.Ytaedbkdimpdngaa
