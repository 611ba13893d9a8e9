/-
  Walks over chapter 12: Preferred, Complete, Stable, Semi.
-/
import Derived.Test.YtaedbkdimpdngaaWalkJ
namespace Go.Proofs.Ytaedbkdimpdngaa
open Go.RowKit
def Small (spec : Dsp → List Nat) : Prop := ∀ d : Dsp, d.n ≤ 12 → (∀ s, s ∈ spec d → s < 4096) ∧ (spec d).length ≤ 5000
theorem small_alls (t : Dsp → Nat → Bool) : Small fun d => d.alls (t d) := fun d hn => ⟨fun s hs => lt12 hn (alls_lt d _ s hs), by have := alls_len d hn (t d); show (d.alls (t d)).length ≤ _; omega⟩
theorem small_comps : Small Dsp.comps := small_alls Dsp.comp
theorem small_stabs : Small Dsp.stabs := small_alls Dsp.stab
theorem small_grt {m : Dsp → Nat → Nat} {spec : Dsp → List Nat} (h : Small spec) : Small fun d => grt (m d) (spec d) := fun d hn =>
  ⟨fun s hs => (h d hn).1 s ((mem_grt _ _ s).1 hs).1, Nat.le_trans (grt_len _ _) (h d hn).2⟩
theorem small_pref : Small Dsp.pref := small_grt (m := fun _ s => s) (small_alls Dsp.adm)
theorem small_semis : Small Dsp.semis := small_grt (m := fun d s => s ||| d.hit s) small_comps
/-- what the functions that list sets hand back -/
def RetLL (w : World) (n : Int) (l : List Pr) (spec : Dsp → List Nat) (e : Ending) (w' : World) : Prop :=
  Ret w n l (.tuple #[.slice none 0 0, .int .i64 1]) (fun u w' => ∃ x, u = .tuple #[x, .int .i64 0] ∧ IsLL w' x (lists (spec (dsp n.toNat l)))) e w'
set_option maxRecDepth 100000 in
theorem listed_any (k : Nat) (spec : Dsp → List Nat) (eg : ∀ args w, (callFunc k args).run Try.prog w = .ok (.enter k args) w) (hk : SetsF k spec) (hsm : Small spec) (n : Int) (v : Value) (l : List Pr) (w : World) (hv : IsPr w v l) :
    Calls Try.prog 58 #[.int .i64 n, v, .func (.func k) #[] #[]] w (RetLL w n l spec) := by
  cases hva : validP n l with
  | false =>
    have HR := hid (read_no hv hva)
    have HVA := hid hva
    clear hv hva
    go_enter Try.func58, Try.ntmps58
    go_wp2_with (first | (go_at_call 47; refine (HR.out).mono ?_; rintro e w6 ⟨rfl, hb6⟩; have HB6 := hid hb6; clear hb6) | fail)
    go_ret2
    exact ⟨HB6.out, .inl ⟨HVA.out, rfl⟩⟩
  | true =>
    have HR := hid (read_ok hv hva)
    have hn := valid_n12 hva
    have HVA := hid hva
    clear hv hva
    unfold RetLL
    generalize hd : dsp n.toNat l = d at *
    clear hd
    have HK : Hid (∀ w' D, DAt w' D d → Calls Try.prog k #[.pointer (some ⟨D, 0, none⟩)] w' fun e w'' => ∃ v, e = .returned v ∧ OwnV w'' w'.heap.size 75 v ((spec d).map sv) ∧ Below w'.heap.size w' w'') := fun w' D h => hk w' D d h hn
    have HS := hid (hsm d hn)
    have HL : Hid (∀ w' v, IsV w' v ((spec d).map sv) → Calls Try.prog 77 #[v] w' fun e w'' => ∃ u, e = .returned u ∧ IsLL w'' u (lists (spec d)) ∧ Below w'.heap.size w' w'') := fun w' v h => lists_any v (spec d) w' h HS.out.1 HS.out.2
    have HLN : Hid (((spec d).map sv).length ≤ 1000000) := by show _ ≤ _; rw [List.length_map]; have := HS.out.2; omega
    generalize spec d = L at *
    go_enter Try.func58, Try.ntmps58
    go_wp2_with (first | (go_at_call 47; refine (HR.out).mono ?_; rintro e w6 ⟨D, rfl, hd6, hb6⟩; have HD6 := hid hd6; have HB6 := hid hb6; clear hd6 hb6) | (go_at_fn k; refine (HK.out _ _ HD6.out).mono ?_; rintro e w7 ⟨v7, rfl, ho7, hb7⟩; have HI7 := hid (ownV_isV ho7 HLN.out); have HB7 := hid (below_step HB6.out hb7); clear ho7 hb7) | (go_at_call 77; refine (HL.out _ _ HI7.out).mono ?_; rintro e w8 ⟨v8, rfl, ho8, hb8⟩; have HO8 := hid ho8; have HB8 := hid (below_step HB7.out hb8); clear ho8 hb8) | fail)
    go_ret2
    exact ⟨HB8.out, .inr ⟨HVA.out, _, rfl, _, rfl, HO8.out⟩⟩
theorem eg59 : ∀ args w, (callFunc 59 args).run Try.prog w = .ok (.enter 59 args) w := enters_of Try.func59 (by kernel_rfl) rfl
set_option maxRecDepth 100000 in
theorem pPreferred_any (n : Int) (v : Value) (l : List Pr) (w : World) (hv : IsPr w v l) : Calls Try.prog 28 #[.int .i64 n, v] w (RetLL w n l Dsp.pref) := by
  have HC := hid (listed_any 59 Dsp.pref eg59 preferred_any small_pref n v l w hv)
  clear hv
  cases hva : validP n l with
  | false =>
    have H0 : Hid (Calls Try.prog 58 #[.int .i64 n, v, .func (.func 59) #[] #[]] w fun e w' => e = .returned (.tuple #[.slice none 0 0, .int .i64 1]) ∧ Below w.heap.size w w') := HC.out.mono fun e w' h => by
      obtain ⟨hb, ⟨_, he⟩ | ⟨h2, _⟩⟩ := h
      · exact ⟨he, hb⟩
      · rw [hva] at h2; cases h2
    have HVA := hid hva
    clear hva HC
    go_enter Try.func28, Try.ntmps28
    go_wp2_with (first | (go_at_call 58; refine (H0.out).mono ?_; rintro e w6 ⟨rfl, hb6⟩; have HB6 := hid hb6; clear hb6) | fail)
    go_ret2
    exact ⟨HB6.out, .inl ⟨HVA.out, rfl⟩⟩
  | true =>
    have H0 : Hid (Calls Try.prog 58 #[.int .i64 n, v, .func (.func 59) #[] #[]] w fun e w' => ∃ x, e = .returned (.tuple #[x, .int .i64 0]) ∧ IsLL w' x (lists ((dsp n.toNat l).pref)) ∧ Below w.heap.size w w') := HC.out.mono fun e w' h => by
      obtain ⟨hb, ⟨h2, _⟩ | ⟨_, u, he, x, rfl, hx⟩⟩ := h
      · rw [hva] at h2; cases h2
      · exact ⟨x, he, hx, hb⟩
    have HVA := hid hva
    clear hva HC
    go_enter Try.func28, Try.ntmps28
    go_wp2_with (first | (go_at_call 58; refine (H0.out).mono ?_; rintro e w6 ⟨x6, rfl, hx6, hb6⟩; have HX6 := hid hx6; have HB6 := hid hb6; clear hb6 hx6) | fail)
    go_ret2
    exact ⟨HB6.out, .inr ⟨HVA.out, _, rfl, _, rfl, HX6.out⟩⟩
theorem eg60 : ∀ args w, (callFunc 60 args).run Try.prog w = .ok (.enter 60 args) w := enters_of Try.func60 (by kernel_rfl) rfl
set_option maxRecDepth 100000 in
theorem pComplete_any (n : Int) (v : Value) (l : List Pr) (w : World) (hv : IsPr w v l) : Calls Try.prog 29 #[.int .i64 n, v] w (RetLL w n l Dsp.comps) := by
  have HC := hid (listed_any 60 Dsp.comps eg60 complete_any small_comps n v l w hv)
  clear hv
  cases hva : validP n l with
  | false =>
    have H0 : Hid (Calls Try.prog 58 #[.int .i64 n, v, .func (.func 60) #[] #[]] w fun e w' => e = .returned (.tuple #[.slice none 0 0, .int .i64 1]) ∧ Below w.heap.size w w') := HC.out.mono fun e w' h => by
      obtain ⟨hb, ⟨_, he⟩ | ⟨h2, _⟩⟩ := h
      · exact ⟨he, hb⟩
      · rw [hva] at h2; cases h2
    have HVA := hid hva
    clear hva HC
    go_enter Try.func29, Try.ntmps29
    go_wp2_with (first | (go_at_call 58; refine (H0.out).mono ?_; rintro e w6 ⟨rfl, hb6⟩; have HB6 := hid hb6; clear hb6) | fail)
    go_ret2
    exact ⟨HB6.out, .inl ⟨HVA.out, rfl⟩⟩
  | true =>
    have H0 : Hid (Calls Try.prog 58 #[.int .i64 n, v, .func (.func 60) #[] #[]] w fun e w' => ∃ x, e = .returned (.tuple #[x, .int .i64 0]) ∧ IsLL w' x (lists ((dsp n.toNat l).comps)) ∧ Below w.heap.size w w') := HC.out.mono fun e w' h => by
      obtain ⟨hb, ⟨h2, _⟩ | ⟨_, u, he, x, rfl, hx⟩⟩ := h
      · rw [hva] at h2; cases h2
      · exact ⟨x, he, hx, hb⟩
    have HVA := hid hva
    clear hva HC
    go_enter Try.func29, Try.ntmps29
    go_wp2_with (first | (go_at_call 58; refine (H0.out).mono ?_; rintro e w6 ⟨x6, rfl, hx6, hb6⟩; have HX6 := hid hx6; have HB6 := hid hb6; clear hb6 hx6) | fail)
    go_ret2
    exact ⟨HB6.out, .inr ⟨HVA.out, _, rfl, _, rfl, HX6.out⟩⟩
theorem eg61 : ∀ args w, (callFunc 61 args).run Try.prog w = .ok (.enter 61 args) w := enters_of Try.func61 (by kernel_rfl) rfl
set_option maxRecDepth 100000 in
theorem pStable_any (n : Int) (v : Value) (l : List Pr) (w : World) (hv : IsPr w v l) : Calls Try.prog 32 #[.int .i64 n, v] w (RetLL w n l Dsp.stabs) := by
  have HC := hid (listed_any 61 Dsp.stabs eg61 stable_any small_stabs n v l w hv)
  clear hv
  cases hva : validP n l with
  | false =>
    have H0 : Hid (Calls Try.prog 58 #[.int .i64 n, v, .func (.func 61) #[] #[]] w fun e w' => e = .returned (.tuple #[.slice none 0 0, .int .i64 1]) ∧ Below w.heap.size w w') := HC.out.mono fun e w' h => by
      obtain ⟨hb, ⟨_, he⟩ | ⟨h2, _⟩⟩ := h
      · exact ⟨he, hb⟩
      · rw [hva] at h2; cases h2
    have HVA := hid hva
    clear hva HC
    go_enter Try.func32, Try.ntmps32
    go_wp2_with (first | (go_at_call 58; refine (H0.out).mono ?_; rintro e w6 ⟨rfl, hb6⟩; have HB6 := hid hb6; clear hb6) | fail)
    go_ret2
    exact ⟨HB6.out, .inl ⟨HVA.out, rfl⟩⟩
  | true =>
    have H0 : Hid (Calls Try.prog 58 #[.int .i64 n, v, .func (.func 61) #[] #[]] w fun e w' => ∃ x, e = .returned (.tuple #[x, .int .i64 0]) ∧ IsLL w' x (lists ((dsp n.toNat l).stabs)) ∧ Below w.heap.size w w') := HC.out.mono fun e w' h => by
      obtain ⟨hb, ⟨h2, _⟩ | ⟨_, u, he, x, rfl, hx⟩⟩ := h
      · rw [hva] at h2; cases h2
      · exact ⟨x, he, hx, hb⟩
    have HVA := hid hva
    clear hva HC
    go_enter Try.func32, Try.ntmps32
    go_wp2_with (first | (go_at_call 58; refine (H0.out).mono ?_; rintro e w6 ⟨x6, rfl, hx6, hb6⟩; have HX6 := hid hx6; have HB6 := hid hb6; clear hb6 hx6) | fail)
    go_ret2
    exact ⟨HB6.out, .inr ⟨HVA.out, _, rfl, _, rfl, HX6.out⟩⟩
theorem eg66 : ∀ args w, (callFunc 66 args).run Try.prog w = .ok (.enter 66 args) w := enters_of Try.func66 (by kernel_rfl) rfl
set_option maxRecDepth 100000 in
theorem pSemi_any (n : Int) (v : Value) (l : List Pr) (w : World) (hv : IsPr w v l) : Calls Try.prog 35 #[.int .i64 n, v] w (RetLL w n l Dsp.semis) := by
  have HC := hid (listed_any 66 Dsp.semis eg66 semi_any small_semis n v l w hv)
  clear hv
  cases hva : validP n l with
  | false =>
    have H0 : Hid (Calls Try.prog 58 #[.int .i64 n, v, .func (.func 66) #[] #[]] w fun e w' => e = .returned (.tuple #[.slice none 0 0, .int .i64 1]) ∧ Below w.heap.size w w') := HC.out.mono fun e w' h => by
      obtain ⟨hb, ⟨_, he⟩ | ⟨h2, _⟩⟩ := h
      · exact ⟨he, hb⟩
      · rw [hva] at h2; cases h2
    have HVA := hid hva
    clear hva HC
    go_enter Try.func35, Try.ntmps35
    go_wp2_with (first | (go_at_call 58; refine (H0.out).mono ?_; rintro e w6 ⟨rfl, hb6⟩; have HB6 := hid hb6; clear hb6) | fail)
    go_ret2
    exact ⟨HB6.out, .inl ⟨HVA.out, rfl⟩⟩
  | true =>
    have H0 : Hid (Calls Try.prog 58 #[.int .i64 n, v, .func (.func 66) #[] #[]] w fun e w' => ∃ x, e = .returned (.tuple #[x, .int .i64 0]) ∧ IsLL w' x (lists ((dsp n.toNat l).semis)) ∧ Below w.heap.size w w') := HC.out.mono fun e w' h => by
      obtain ⟨hb, ⟨h2, _⟩ | ⟨_, u, he, x, rfl, hx⟩⟩ := h
      · rw [hva] at h2; cases h2
      · exact ⟨x, he, hx, hb⟩
    have HVA := hid hva
    clear hva HC
    go_enter Try.func35, Try.ntmps35
    go_wp2_with (first | (go_at_call 58; refine (H0.out).mono ?_; rintro e w6 ⟨x6, rfl, hx6, hb6⟩; have HX6 := hid hx6; have HB6 := hid hb6; clear hb6 hx6) | fail)
    go_ret2
    exact ⟨HB6.out, .inr ⟨HVA.out, _, rfl, _, rfl, HX6.out⟩⟩
end Go.Proofs.Ytaedbkdimpdngaa
