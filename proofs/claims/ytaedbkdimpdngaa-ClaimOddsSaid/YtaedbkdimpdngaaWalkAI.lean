/-
  The reference of chapter 12: rings (76).
-/
import Derived.Test.YtaedbkdimpdngaaRefA
import Derived.Test.YtaedbkdimpdngaaPlainK
namespace Go.Proofs.Ytaedbkdimpdngaa
open Go.RowKit
section
variable {md : Region.Mode} {ops : Array Oper} {Q : Exit → Act → World → Prop} {S : World → Prop} {fuel : Nat} {listed : Array Bool} {a : Act} {w : World} {i : Nat} {o : Oper} {rs : List Nat}
theorem node_f76 (d : Nat) (k1 k2 k3 k4 : Nat) (v1 v2 v3 v4 : Value) (hi : ops[i]? = some o) (hgd : Region.wanted o (yielded ops a.tmps) = true) (ho : o.op = .call { callee := .value (.func 76), args := #[.tmp k1, .tmp k2, .tmp k3, .tmp k4], argTypes := #[34, 24, 3, 46] }) (hd : o.dst = some d)
    (hp1 : a.tmps[k1]?.getD undef = v1)
    (hp2 : a.tmps[k2]?.getD undef = v2)
    (hp3 : a.tmps[k3]?.getD undef = v3)
    (hp4 : a.tmps[k4]?.getD undef = v4)
    (h : Calls Try.prog 76 #[v1, v2, v3, v4] w fun e w' => ∃ u, e = .returned u ∧ S w' ∧ wpAnyH Try.prog md ops Q S fuel (listed.setIfInBounds i true) (a.put (some d) u) w')
    (hs : AllReadyH Try.prog md ops Q S fuel listed a w rs) : AllReadyH Try.prog md ops Q S fuel listed a w (i :: rs) := by
  refine AllReadyH.cons hi (fun K hK => ?_) hs
  rw [if_pos hgd]
  unfold Oper.wp execOp
  simp [ho, go_sem, hp1, hp2, hp3, hp4]
  refine h.mono ?_
  rintro e w' ⟨u, rfl, h1, h2⟩
  have hk := hK.out _ _ h1 (fun _ => h2)
  rw [hd]
  exact hk
end
theorem wpl_app_row2 {ops : Array Oper} {rest : List Oper} {o : Oper} {a : Act} {Q : Exit → Act → World → Prop} {W : World} (b : Option Addr) (n c : Nat) (s y : Operand) (v : Value) (B : Nat) (xs : List Value)
    (hgd : o.guard = none) (ho : o.op = .call { callee := .builtin .append, args := #[s, y], argTypes := #[46, 46] })
    (hs : a.eval s = v) (hx : a.eval y = .slice (some ⟨W.heap.size, 0, none⟩) 1 1)
    (hown : OwnV W B 24 v xs) (hlen : xs.length < 1000000) (hB : B ≤ W.heap.size)
    (h : ∀ v' w', OwnV w' B 24 v' (xs ++ [.slice b n c]) → W.grownBy w' v.ownBlock → (∀ k, v'.ownBlock = some k → v.ownBlock = some k ∨ W.heap.size ≤ k) → wpList Try.prog ops Q rest (a.put o.dst v') w') :
    wpList Try.prog ops Q (o :: rest) a (W.alloc (.cells #[.slice b n c] 24)) :=
  wpl_appn hgd s y 46 24 ho (.slice none 0 0) 1 24 info24 rfl (by decide) Try.underlying46 v B xs.length xs hs hown [.slice b n c] rfl (fun u hu => by simp at hu; rw [hu]; rfl) hx
    (by have : (xs.length + 1) * 24 ≤ 1000000 * 24 := Nat.mul_le_mul (by omega) (by decide)
        omega) (by unfold maxLen; omega) hB
    (fun v' w' h1 h2 => h v' w' (by unfold OwnV; rw [List.length_append]; exact h1) (grown_alloc h2.grown)
      (fun k hk => h2.block.imp (fun e => by rw [← e]; exact hk) (fun e => by
        rw [e] at hk
        have : (W.alloc (.cells [Value.slice b n c].toArray 24)).heap.size = W.heap.size + 1 := by simp
        cases hk; omega)))
/-- what was there has not turned, but for the list's own block; the list lies in its old block or in a new one -/
def Out (w : World) (v : Value) (w' : World) (v' : Value) : Prop := w.grownBy w' v.ownBlock ∧ ∀ k, v'.ownBlock = some k → v.ownBlock = some k ∨ w.heap.size ≤ k
theorem Out.below {w w' : World} (v : Value) (h : Below w.heap.size w w') : Out w v w' v := ⟨grown_of h, fun _ hk => .inl hk⟩
theorem Out.trans {w w1 w2 : World} {v v1 v2 : Value} (h : Out w v w1 v1) (k : Out w1 v1 w2 v2) : Out w v w2 v2 := by
  refine ⟨⟨k.1.os.trans h.1.os, k.1.tape.trans h.1.tape, k.1.output.trans h.1.output, Nat.le_trans h.1.size k.1.size, fun j hj hn => ?_⟩, fun j hj => ?_⟩
  · refine (k.1.block j (Nat.lt_of_lt_of_le hj h.1.size) fun e => ?_).trans (h.1.block j hj hn)
    rcases h.2 j e.symm with h1 | h1
    · exact hn h1.symm
    · omega
  · rcases k.2 j hj with h1 | h1
    · exact h.2 j h1
    · exact .inr (Nat.le_trans h.1.size h1)
theorem Out.to_below {w0 w w' : World} {B : Nat} {v v' : Value} {us : List Value} {e : TypeId} (h : Out w v w' v') (hb : Below B w0 w) (ho : OwnV w B e v us) (hB : B ≤ w.heap.size) : Below B w0 w' := hb.grown h.1 hB fun k hk => (ho.lt k hk).1
theorem Out.ints {w w' : World} {B B' : Nat} {v v' q : Value} {us ys : List Value} (h : Out w v w' v') (ho : OwnV w B 24 v us) (hq : OwnV w B' 3 q ys) : OwnV w' B' 3 q ys := row_other hq h.1 (fun k hk => row_type ho k hk) (by decide)
theorem Out.box {w w' : World} {B D : Nat} {v v' : Value} {us : List Value} {cs : Array Value} (h : Out w v w' v') (ho : OwnV w B 24 v us) (hz : w.heap[D]? = some (.cells cs 34)) : w'.heap[D]? = some (.cells cs 34) :=
  (h.1.block D (heap_lt hz) fun e => by
    obtain ⟨cs', h2⟩ := row_type ho D e.symm
    rw [hz] at h2
    cases h2).trans hz
theorem rd_oneI {u : World} {b : Nat} {x : Int} (h : u.heap[b]? = some (.cells #[.int .i64 x] 3)) : Rd u (.slice (some ⟨b, 0, none⟩) 1 1) 1 1 [.int .i64 x] := by
  refine ⟨rfl, fun v hv => ?_, .inr ⟨⟨b, 0, none⟩, 1, rfl, fun _ => heap_lt h, fun j v hj => ?_⟩⟩
  · simp at hv; subst hv; rfl
  · have hadd : (⟨b, 0, none⟩ : Addr).add j = ⟨b, j, none⟩ := by unfold Addr.add; split <;> simp_all
    rw [hadd, World.cell?, h]
    simpa using hj
theorem wrap64_id (q : Nat) (h : q < 2 ^ 62) : Go.RowKit.wrap64 (q : Int) = (q : Int) := by
  unfold Go.RowKit.wrap64
  omega
theorem lastN_lt {d : Dsp} {h : Nat} {l : List Nat} (hp : Part d h l) : lastN h l < d.n := hp.lt _ (lastN_mem l h)
set_option maxRecDepth 100000 in
set_option maxHeartbeats 8000000 in
theorem rrings_any (w0 : World) (b1 b2 : Nat) (d : Dsp) (h0 : RDd w0 b1 b2 d) (hh : Nat) : ∀ (k : Nat) (l : List Nat) (v way : Value) (us : List Value) (Ls : List (List Nat)) (w : World), Part d hh l → d.n ≤ l.length + k → Below w0.heap.size w0 w → OwnLL w w0.heap.size v us Ls → OwnV w 0 3 way ((hh :: l).map iv) → Ls.length + (d.rgs hh k l).length ≤ 200000 →
    Calls Try.prog 76 #[.agg #[.int .i64 (d.n : Int), .slice (some ⟨b1, 0, none⟩) d.n d.n, .slice (some ⟨b2, 0, none⟩) d.n d.n], way, .int .i64 ((usd (hh :: l) : Nat) : Int), v] w fun e w' => ∃ v' us', e = .returned v' ∧ OwnLL w' w0.heap.size v' us' (Ls ++ d.rgs hh k l) ∧ Out w v w' v' := by
  intro k
  induction k with
  | zero =>
    intro l v way us Ls w hp hk
    have := part_len d hp
    omega
  | succ k IH0 =>
    intro l v way us Ls w hp hk hb hL hw htot
    have IH := hid IH0
    have HP := hid hp
    have HK := hid hk
    have HTOT0 := hid htot
    have hn12 : d.n ≤ 12 := h0.2.1
    have HRD := hid h0
    have hpl := part_len d hp
    have hhn : hh < d.n := hp.lt hh (List.mem_cons_self ..)
    have HB1 := hid (hb.trans ((ba w (.cells #[.int .i64 (d.n : Int), .slice (some ⟨b1, 0, none⟩) d.n d.n, .slice (some ⟨b2, 0, none⟩) d.n d.n] 34)).mono hb.size))
    have HL1 := hid (ownLL_below hL (ba w (.cells #[.int .i64 (d.n : Int), .slice (some ⟨b1, 0, none⟩) d.n d.n, .slice (some ⟨b2, 0, none⟩) d.n d.n] 34)))
    have HW1 := hid (ownV_below hw (ba w (.cells #[.int .i64 (d.n : Int), .slice (some ⟨b1, 0, none⟩) d.n d.n, .slice (some ⟨b2, 0, none⟩) d.n d.n] 34)))
    have HZ1 := hid (heap_alloc_new w (.cells #[.int .i64 (d.n : Int), .slice (some ⟨b1, 0, none⟩) d.n d.n, .slice (some ⟨b2, 0, none⟩) d.n d.n] 34))
    have HO1 := hid (Out.below v (ba w (.cells #[.int .i64 (d.n : Int), .slice (some ⟨b1, 0, none⟩) d.n d.n, .slice (some ⟨b2, 0, none⟩) d.n d.n] 34)))
    obtain ⟨wg, wc, rfl, -⟩ := ownV_some hw (by simp)
    clear IH0 hp hk htot hb hL hw h0
    obtain ⟨U, hUe⟩ : ∃ U, U = usd (hh :: l) := ⟨_, rfl⟩
    have HUE : Hid (usd (hh :: l) = U) := hUe.symm
    have hU : U < 65536 := by rw [hUe]; exact Nat.lt_of_lt_of_le (usd_lt HP.out.lt) (pow_small (n := 16) (by omega))
    have HUB : Hid (∀ b, U.testBit b = (hh :: l).contains b) := fun b => by rw [hUe]; exact usd_bit _ b
    rw [← hUe]
    clear hUe
    obtain ⟨WX, hWX⟩ : ∃ X, X = (hh :: l).map iv := ⟨_, rfl⟩
    have HWX := hid hWX
    rw [← hWX] at HW1 ⊢
    clear hWX
    obtain ⟨m, hm⟩ : ∃ m, m = WX.length := ⟨_, rfl⟩
    have HM : Hid (m = (hh :: l).length) := by show _ = _; rw [hm, HWX.out, List.length_map]
    have hml : m = l.length + 1 := HM.out
    rw [← hm] at HW1 ⊢
    clear hm
    have HM16 : Hid (m ≤ 13) := by show _ ≤ _; omega
    obtain ⟨la, hlae⟩ : ∃ la, la = lastN hh l := ⟨_, rfl⟩
    have HLA : Hid (lastN hh l = la) := hlae.symm
    have hla : la < d.n := by rw [hlae]; exact lastN_lt HP.out
    obtain ⟨O, hOe⟩ : ∃ O, O = (byL d).getD la 0 := ⟨_, rfl⟩
    have HOE := hid hOe
    have hO : O < 65536 := by rw [hOe]; have := byL_lt d hn12 la; omega
    have HOB : Hid (∀ b, b < d.n → O.testBit b = d.att la b) := fun b hb => by rw [hOe]; exact by_bit d hla hb
    obtain ⟨q, hq⟩ : ∃ q, q = l.length := ⟨_, rfl⟩
    have hmq : ((m : Int) - 1) = (q : Int) := by omega
    have hqm : q < m := by omega
    have hm0 : ¬ m = 0 := by omega
    have hq62 : q < 2 ^ 62 := by have := HM16.out; omega
    have hwq : Go.RowKit.wrap64 (q : Int) = (q : Int) := wrap64_id q hq62
    have HCQ : Hid (∀ w', Below (w.alloc (.cells #[.int .i64 (d.n : Int), .slice (some ⟨b1, 0, none⟩) d.n d.n, .slice (some ⟨b2, 0, none⟩) d.n d.n] 34)).heap.size (w.alloc (.cells #[.int .i64 (d.n : Int), .slice (some ⟨b1, 0, none⟩) d.n d.n, .slice (some ⟨b2, 0, none⟩) d.n d.n] 34)) w' → w'.cell? ⟨wg, q, none⟩ = some (.int .i64 (la : Int)) ∧ w'.cell? ⟨wg, 0, none⟩ = some (.int .i64 (hh : Int))) := fun w' hb => by
      have hl1 : q < ((hh :: l).map iv).length := by rw [List.length_map, hq]; simp
      have h1 := ownV_cell (ownV_below HW1.out hb) q (by rw [HWX.out]; exact hl1)
      have h2 := ownV_cell (ownV_below HW1.out hb) 0 (by rw [HWX.out]; simp)
      rw [HWX.out] at h1 h2
      rw [getD_map iv _ 0 q (by rw [hq]; simp), hq, lastN_at, ← hlae, ← hq] at h1
      exact ⟨h1, h2⟩
    clear hlae hOe
    have HRG : Hid (d.rgs hh (k + 1) l = (if d.att la hh then [hh :: l] else []) ++ (List.range d.n).flatMap (fun b => if decide (hh < b) && d.att (lastN hh l) b && !l.contains b then d.rgs hh k (l ++ [b]) else [])) := by
      show _ = _
      rw [← HLA.out]; rfl
    have HF0 : Hid ((List.range (hh + 1)).flatMap (fun b => if decide (hh < b) && d.att (lastN hh l) b && !l.contains b then d.rgs hh k (l ++ [b]) else []) = []) := flat_none _ _ fun i hi => by
      have : ¬ hh < i := by omega
      simp [this]
    have hql : q = l.length := hq
    clear hq
    go_enter Try.func76, Try.ntmps76
    go_upto_region 1 with fail
    obtain ⟨w1, hw1⟩ : ∃ v, v = w.alloc (.cells #[.int .i64 (d.n : Int), .slice (some ⟨b1, 0, none⟩) d.n d.n, .slice (some ⟨b2, 0, none⟩) d.n d.n] 34) := ⟨_, rfl⟩
    rw [← hw1] at HB1 HL1 HW1 HZ1 HO1 HCQ ⊢
    clear hw1
    obtain ⟨x0, x1, x2⟩ := cells3_of HZ1.out
    obtain ⟨c0, c1⟩ := HCQ.out w1 (Below.refl _ _)
    have KS : Hid (∀ w', Below w1.heap.size w1 w' → w'.cell? ⟨w.heap.size, 0, none⟩ = some (.int .i64 (d.n : Int)) ∧ w'.cell? ⟨w.heap.size, 1, none⟩ = some (.slice (some ⟨b1, 0, none⟩) d.n d.n) ∧ w'.cell? ⟨w.heap.size, 2, none⟩ = some (.slice (some ⟨b2, 0, none⟩) d.n d.n) ∧ w'.cell? ⟨b1, la, none⟩ = some (.int .i64 (O : Int)) ∧ w'.cell? ⟨wg, 0, none⟩ = some (.int .i64 (hh : Int))) := fun w' hb => by
      obtain ⟨y0, y1, y2⟩ := cells3_of ((hb.block _ (heap_lt HZ1.out)).trans HZ1.out)
      exact ⟨y0, y1, y2, by rw [HOE.out]; exact (rdd_below HRD.out (below_step HB1.out hb)).2.2.1 la hla, (HCQ.out w' hb).2⟩
    have HHB : Hid (O.testBit hh = d.att la hh) := HOB.out hh hhn
    clear hml hql
    cases hcl : d.att la hh with
    | true =>
      have HBT : Hid (bits .and .i64 ((O : Int) / 2 ^ hh) 1 = 1) := by
        show _ = _
        rw [bit64 hh hO, HHB.out, hcl]; rfl
      rw [hcl, if_pos rfl] at HRG
      clear hcl
      go_upto_region 2 with fail
      clear x0 x1 x2 c0 c1
      refine wp_region_held_drew (S := fun w' => w'.cell? ⟨w.heap.size, 0, none⟩ = some (.int .i64 (d.n : Int)) ∧ w'.cell? ⟨w.heap.size, 1, none⟩ = some (.slice (some ⟨b1, 0, none⟩) d.n d.n) ∧ w'.cell? ⟨w.heap.size, 2, none⟩ = some (.slice (some ⟨b2, 0, none⟩) d.n d.n) ∧ w'.cell? ⟨b1, la, none⟩ = some (.int .i64 (O : Int)) ∧ w'.cell? ⟨wg, 0, none⟩ = some (.int .i64 (hh : Int))) (by kernel_rfl) (KS.out _ ((Below.refl _ _).drew)) (fun hHeld => ?_)
      have HU0 : Hid (Below w1.heap.size w1 w1.drew) := (Below.refl _ _).drew
      generalize w1.drew = u0 at *
      refine take_at (i := 0) 17 (v := .pointer (some ⟨w.heap.size, 1, none⟩)) rfl (by kernel_rfl) (by kernel_rfl) (by kernel_rfl) rfl (fun _ _ _ h => h) (by rfl) (fun w hSw => ?_) hHeld ?_
      · (try dsimp only at hSw); go_simp
      simp only [Act.put, List.setIfInBounds_toArray, List.set_cons_zero, List.set_cons_succ]
      refine take_at (i := 1) 18 (v := .slice (some ⟨b1, 0, none⟩) d.n d.n) rfl (by kernel_rfl) (by kernel_rfl) (by kernel_rfl) rfl (fun _ _ _ h => h) (by rfl) (fun w hSw => ?_) hHeld ?_
      · (try dsimp only at hSw); go_simp
      simp only [Act.put, List.setIfInBounds_toArray, List.set_cons_zero, List.set_cons_succ]
      refine take_at (i := 2) 19 (v := .int .i64 (la : Int)) rfl (by kernel_rfl) (by kernel_rfl) (by kernel_rfl) rfl (fun _ _ _ h => h) (by rfl) (fun w hSw => ?_) hHeld ?_
      · (try dsimp only at hSw); go_simp
      simp only [Act.put, List.setIfInBounds_toArray, List.set_cons_zero, List.set_cons_succ]
      refine take_at (i := 3) 20 (v := .pointer (some ⟨b1, la, none⟩)) rfl (by kernel_rfl) (by kernel_rfl) (by kernel_rfl) rfl (fun _ _ _ h => h) (by rfl) (fun w hSw => ?_) hHeld ?_
      · (try dsimp only at hSw); go_simp
      simp only [Act.put, List.setIfInBounds_toArray, List.set_cons_zero, List.set_cons_succ]
      refine take_at (i := 4) 21 (v := .int .i64 (O : Int)) rfl (by kernel_rfl) (by kernel_rfl) (by kernel_rfl) rfl (fun _ _ _ h => h) (by rfl) (fun w hSw => ?_) hHeld ?_
      · (try dsimp only at hSw); go_simp
      simp only [Act.put, List.setIfInBounds_toArray, List.set_cons_zero, List.set_cons_succ]
      refine take_at (i := 5) 22 (v := .slice (some ⟨wg, 0, none⟩) m wc) rfl (by kernel_rfl) (by kernel_rfl) (by kernel_rfl) rfl (fun _ _ _ h => h) (by rfl) (fun w hSw => ?_) hHeld ?_
      · (try dsimp only at hSw); go_simp
      simp only [Act.put, List.setIfInBounds_toArray, List.set_cons_zero, List.set_cons_succ]
      refine take_at (i := 6) 23 (v := .pointer (some ⟨wg, 0, none⟩)) rfl (by kernel_rfl) (by kernel_rfl) (by kernel_rfl) rfl (fun _ _ _ h => h) (by rfl) (fun w hSw => ?_) hHeld ?_
      · (try dsimp only at hSw); go_simp
      simp only [Act.put, List.setIfInBounds_toArray, List.set_cons_zero, List.set_cons_succ]
      refine take_at (i := 7) 24 (v := .int .i64 (hh : Int)) rfl (by kernel_rfl) (by kernel_rfl) (by kernel_rfl) rfl (fun _ _ _ h => h) (by rfl) (fun w hSw => ?_) hHeld ?_
      · (try dsimp only at hSw); go_simp
      simp only [Act.put, List.setIfInBounds_toArray, List.set_cons_zero, List.set_cons_succ]
      refine take_at (i := 8) 25 (v := .int .i64 ((O : Int) / 2 ^ hh)) rfl (by kernel_rfl) (by kernel_rfl) (by kernel_rfl) rfl (fun _ _ _ h => h) (by rfl) (fun w hSw => ?_) hHeld ?_
      · (try dsimp only at hSw); go_simp
      simp only [Act.put, List.setIfInBounds_toArray, List.set_cons_zero, List.set_cons_succ]
      refine take_at (i := 9) 26 (v := .int .i64 1) rfl (by kernel_rfl) (by kernel_rfl) (by kernel_rfl) rfl (fun _ _ _ h => h) (by rfl) (fun w hSw => ?_) hHeld ?_
      · (try dsimp only at hSw); go_simp; first | done | exact HBT.out | (rw [HBT.out])
      simp only [Act.put, List.setIfInBounds_toArray, List.set_cons_zero, List.set_cons_succ]
      refine take_at (i := 10) 27 (v := .bool true) rfl (by kernel_rfl) (by kernel_rfl) (by kernel_rfl) rfl (fun _ _ _ h => h) (by rfl) (fun w hSw => ?_) hHeld ?_
      · (try dsimp only at hSw); go_simp
      simp only [Act.put, List.setIfInBounds_toArray, List.set_cons_zero, List.set_cons_succ]
      refine wpAnyH_done (by kernel_rfl) ?_ _
      clear hHeld
      generalize u0 = wq at *
      obtain ⟨x0, x1, x2, -, c1⟩ := KS.out wq HU0.out
      have HWq := hid (ownV_below HW1.out HU0.out)
      have HLq := hid (ownLL_below HL1.out HU0.out)
      have HZq := hid ((HU0.out.block _ (heap_lt HZ1.out)).trans HZ1.out)
      have HOq := hid (Out.trans HO1.out (Out.below v HU0.out))
      have HBq := hid (below_step HB1.out HU0.out)
      have H1C : ∀ u ∈ WX, u.oneCell' = true := fun u hu => by
        rw [HWX.out] at hu
        obtain ⟨x, _, rfl⟩ := List.mem_map.1 hu
        rfl
      have HML : Hid (m = WX.length) := by show _ = _; rw [HWX.out, List.length_map]; exact HM.out
      have RWq : Hid (Rd (wq.alloc (.cells #[] 3)) (.slice (some ⟨wg, 0, none⟩) m wc) m 1 WX) := by
        have h := ownV_rd (ownV_below HWq.out (ba wq (.cells #[] 3))) H1C 0 m (Nat.zero_le _) (Nat.le_of_eq HML.out) wc
        have e : (WX.drop 0).take (m - 0) = WX := by rw [List.drop_zero, Nat.sub_zero, HML.out, List.take_length]
        rw [e] at h
        exact h
      have HLEN : Hid (us.length < 1000000) := by have h1 := HTOT0.out; have h2 := HL1.out.1; show _ < _; omega
      have HTOT : Hid (Ls.length + ([hh :: l] ++ (List.range d.n).flatMap (fun b => if decide (hh < b) && d.att (lastN hh l) b && !l.contains b then d.rgs hh k (l ++ [b]) else [])).length ≤ 200000) := by have h := HTOT0.out; rw [HRG.out] at h; exact h
      clear H1C
      go_upto_region 4 with (first
        | (at_builtin; refine wpl_app_many wq.heap.size _ _ 24 3 (.int .i64 0) 1 8 info3 rfl (by decide) Try.underlying24 wq.heap.size m WX (.slice (some ⟨wg, 0, none⟩) m wc) (by rfl) (by rfl) (by rfl) (by rfl) RWq.out (heap_alloc_new wq (.cells #[] 3)) (Nat.le_refl _) (by have := HM16.out; omega) ?_; intro sa sn sc w5 ho5 hg5; have HR5 := ho5; have HB5 : Hid (Below wq.heap.size wq w5) := (ba wq (.cells #[] 3)).grown hg5.out (by simp) (fun q hq => by cases hq; exact Nat.le_refl _); clear ho5 hg5)
        | (at_builtin; refine wpl_app_row2 sa sn sc _ _ v w0.heap.size us (by rfl) (by rfl) (by rfl) (by rfl) (ownV_below HLq.out.2.1 HB5.out) HLEN.out (below_step HBq.out HB5.out).size ?_; intro v3 w6 ho6 hg6 hk6; have HV6 := hid ho6; have HO6 : Hid (Out w5 v w6 v3) := ⟨hg6, hk6⟩; clear ho6 hg6 hk6)
        | fail)
      have HRW : Hid (OwnV w5 w0.heap.size 3 (.slice sa sn sc) ((hh :: l).map iv)) := by
        have h := row_mono HR5.out (HBq.out.size)
        rw [HML.out, HWX.out] at h
        exact h
      have HL5 := hid (ownLL_below HLq.out HB5.out)
      have HL3 := hid (ownLL_app HL5.out HRW.out HV6.out HO6.out.1)
      have HW3 := hid (Out.ints HO6.out HL5.out.2.1 (ownV_below HWq.out HB5.out))
      have HZ3 := hid (Out.box HO6.out HL5.out.2.1 ((HB5.out.block _ (heap_lt HZq.out)).trans HZq.out))
      have HO3 := hid (Out.trans HOq.out (Out.trans (Out.below v HB5.out) HO6.out))
      have HB3 := hid (Out.to_below HO6.out (below_step HBq.out HB5.out) HL5.out.2.1 (below_step HBq.out HB5.out).size)
      clear HWq HLq HZq HOq HBq RWq HLEN HR5 HB5 HV6 HO6 HRW HL5 x0 x1 x2 c1 HL1 HW1 HZ1 HO1 HB1 KS HU0 HML
      obtain ⟨base, hbase⟩ : ∃ B, B = [hh :: l] := ⟨_, rfl⟩
      rw [← hbase] at HL3 HTOT HRG
      clear hbase
      have c1 : w6.cell? ⟨wg, 0, none⟩ = some (.int .i64 (hh : Int)) := by
        have h2 := ownV_cell HW3.out 0 (by rw [HWX.out]; simp)
        rw [HWX.out] at h2
        exact h2
      generalize us ++ [Value.slice sa sn sc] = us3 at *
      go_upto_region 5 with fail
      clear c1
      go_loopw [10, 3] (fun bv ov wr => ∃ (b : Nat) (usr : List Value), bv = .int .i64 (b : Int) ∧ hh < b ∧ b ≤ d.n ∧ Hid (OwnLL wr w0.heap.size ov usr (Ls ++ (base ++ (List.range b).flatMap (fun b => if decide (hh < b) && d.att (lastN hh l) b && !l.contains b then d.rgs hh k (l ++ [b]) else [])))) ∧ Hid (OwnV wr 0 3 (.slice (some ⟨wg, 0, none⟩) m wc) WX) ∧ Hid (wr.heap[w.heap.size]? = some (.cells #[.int .i64 (d.n : Int), .slice (some ⟨b1, 0, none⟩) d.n d.n, .slice (some ⟨b2, 0, none⟩) d.n d.n] 34)) ∧ Hid (Out w v wr ov) ∧ Hid (Below w0.heap.size w0 wr)) (fun bv _ _ => d.n - (intOf bv).toNat)
      case atStart => exact ⟨hh + 1, us3, by go_num, by omega, by omega, by rw [HF0.out, List.append_nil]; exact HL3, HW3, HZ3, HO3, HB3⟩
      case round =>
        obtain ⟨b, usr, rfl, hhb, hbn, HLr, HWr, HZr, HOr, HBr⟩ := hrel
        rename World => wr
        obtain ⟨ov, hov⟩ : ∃ ov, ov = u3 := ⟨_, rfl⟩
        rw [← hov] at HLr HOr ⊢
        clear hov HL3 HW3 HZ3 HO3 HB3
        obtain ⟨x0, x1, x2⟩ := cells3_of HZr.out
        by_cases hlt : b < d.n
        · have c1 := (rdd_below HRD.out HBr.out).2.2.1 la hla
          rw [← HOE.out] at c1
          have hb1 := bit64 b hO
          have hb2 := bit64 b hU
          rw [HOB.out b hlt] at hb1
          rw [HUB.out b, List.contains_cons] at hb2
          have hne : (b == hh) = false := beq_eq_false_iff_ne.2 (by omega)
          rw [hne, Bool.false_or] at hb2
          have HFS0 : (List.range (b + 1)).flatMap (fun b => if decide (hh < b) && d.att (lastN hh l) b && !l.contains b then d.rgs hh k (l ++ [b]) else []) = _ := flat_succ _ b
          have HFS1 := hid HFS0
          clear HFS0 hne
          cases hat : d.att la b with
          | false =>
            have HFS : Hid (Ls ++ (base ++ (List.range (b + 1)).flatMap (fun b => if decide (hh < b) && d.att (lastN hh l) b && !l.contains b then d.rgs hh k (l ++ [b]) else [])) = Ls ++ (base ++ (List.range b).flatMap (fun b => if decide (hh < b) && d.att (lastN hh l) b && !l.contains b then d.rgs hh k (l ++ [b]) else []))) := by
              show _ = _
              rw [HFS1.out]
              have : (decide (hh < b) && d.att (lastN hh l) b && !l.contains b) = false := by rw [HLA.out, hat]; simp
              rw [if_neg (by rw [this]; decide), List.append_nil]
            rw [hat, if_neg (by decide)] at hb1
            clear hat HFS1 hb2
            go_wp2_with fail
            go_roundw
            case rel => exact ⟨b + 1, usr, by go_num, by omega, by omega, by rw [HFS.out]; exact HLr, HWr, HZr, HOr, HBr⟩
            case measure => simp [intOf]; omega
          | true =>
            rw [hat, if_pos rfl] at hb1
            cases hct : l.contains b with
            | true =>
              have HFS : Hid (Ls ++ (base ++ (List.range (b + 1)).flatMap (fun b => if decide (hh < b) && d.att (lastN hh l) b && !l.contains b then d.rgs hh k (l ++ [b]) else [])) = Ls ++ (base ++ (List.range b).flatMap (fun b => if decide (hh < b) && d.att (lastN hh l) b && !l.contains b then d.rgs hh k (l ++ [b]) else []))) := by
                show _ = _
                rw [HFS1.out]
                have : (decide (hh < b) && d.att (lastN hh l) b && !l.contains b) = false := by rw [hct]; simp
                rw [if_neg (by rw [this]; decide), List.append_nil]
              rw [hct, if_pos rfl] at hb2
              clear hat hct HFS1
              go_wp2_with fail
              go_roundw
              case rel => exact ⟨b + 1, usr, by go_num, by omega, by omega, by rw [HFS.out]; exact HLr, HWr, HZr, HOr, HBr⟩
              case measure => simp [intOf]; omega
            | false =>
              have hcond : (decide (hh < b) && d.att (lastN hh l) b && !l.contains b) = true := by rw [HLA.out, hat, hct, decide_eq_true hhb]; rfl
              rw [hct, if_neg (by decide)] at hb2
              have HFS : Hid (Ls ++ (base ++ (List.range (b + 1)).flatMap (fun b => if decide (hh < b) && d.att (lastN hh l) b && !l.contains b then d.rgs hh k (l ++ [b]) else [])) = Ls ++ (base ++ (List.range b).flatMap (fun b => if decide (hh < b) && d.att (lastN hh l) b && !l.contains b then d.rgs hh k (l ++ [b]) else [])) ++ d.rgs hh k (l ++ [b])) := by
                show _ = _
                rw [HFS1.out, if_pos hcond]
                simp only [List.append_assoc]
              have HPB : Hid (Part d hh (l ++ [b])) := part_snoc d HP.out hhb hlt (by rw [HLA.out]; exact hat) (by simpa using hct)
              have HKB : Hid (d.n ≤ (l ++ [b]).length + k) := by have := HK.out; show _ ≤ _; rw [List.length_append]; simp only [List.length_singleton]; omega
              have HLB : Hid ((Ls ++ (base ++ (List.range b).flatMap (fun b => if decide (hh < b) && d.att (lastN hh l) b && !l.contains b then d.rgs hh k (l ++ [b]) else []))).length + (d.rgs hh k (l ++ [b])).length ≤ 200000) := by
                have h1 := HTOT.out
                have h2 := flat_prefix (fun b => if decide (hh < b) && d.att (lastN hh l) b && !l.contains b then d.rgs hh k (l ++ [b]) else []) (b := b + 1) (n := d.n) hlt
                have h3 := congrArg List.length HFS.out
                simp only [List.length_append] at h1 h3 ⊢
                show _ ≤ _
                omega
              have HSN : Hid ([] ++ WX ++ [Value.int .i64 (b : Int)] = (hh :: (l ++ [b])).map iv) := by
                show _ = _
                rw [HWX.out, List.nil_append]
                simp [iv]
              have hb16 : b < 16 := by omega
              obtain ⟨pw, hpw⟩ : ∃ p, p = 2 ^ b := ⟨_, rfl⟩
              have HSH : Hid (IntKind.i64.wrap (2 ^ b) = (pw : Int)) := by rw [hpw]; exact wrap64 (show b < 62 by omega)
              have hpw2 : pw ≤ 65536 := by rw [hpw]; exact pow_small (n := 16) (by omega)
              obtain ⟨U2, hU2⟩ : ∃ U2, U2 = U ||| pw := ⟨_, rfl⟩
              have HOR : Hid (bits .or .i64 (U : Int) (pw : Int) = (U2 : Int)) := by rw [hU2]; exact or64 (by omega) (by omega)
              have HU2 : Hid (usd (hh :: (l ++ [b])) = U2) := by
                show _ = _
                rw [hU2, hpw, ← HUE.out]
                exact usd_snoc (hh :: l) b
              have HB0b : (0 : Int) ≤ (b : Int) := by omega
              have hb64 : (b : Int) < 64 := by omega
              have KW : Hid (∀ w', Below wr.heap.size wr w' → w'.cell? ⟨w.heap.size, 0, none⟩ = some (.int .i64 (d.n : Int)) ∧ w'.cell? ⟨w.heap.size, 1, none⟩ = some (.slice (some ⟨b1, 0, none⟩) d.n d.n) ∧ w'.cell? ⟨w.heap.size, 2, none⟩ = some (.slice (some ⟨b2, 0, none⟩) d.n d.n)) := fun w' hb => cells3_of ((hb.block _ (heap_lt HZr.out)).trans HZr.out)
              have H1C : ∀ u ∈ WX, u.oneCell' = true := fun u hu => by
                rw [HWX.out] at hu
                obtain ⟨x, _, rfl⟩ := List.mem_map.1 hu
                rfl
              have HML : Hid (m = WX.length) := by show _ = _; rw [HWX.out, List.length_map]; exact HM.out
              have RW : Hid (∀ w', Below wr.heap.size wr w' → Rd w' (.slice (some ⟨wg, 0, none⟩) m wc) m 1 WX) := fun w' hb => by
                have h := ownV_rd (ownV_below HWr.out hb) H1C 0 m (Nat.zero_le _) (Nat.le_of_eq HML.out) wc
                have e : (WX.drop 0).take (m - 0) = WX := by rw [List.drop_zero, Nat.sub_zero, HML.out, List.take_length]
                rw [e] at h
                exact h
              have HM6 : Hid (m ≤ 1000000) := by have := HM16.out; show _ ≤ _; omega
              have LEN1 : Hid (([] ++ WX).length ≤ 1000000) := by have := HM16.out; have := HML.out; show _ ≤ _; rw [List.nil_append]; omega
              have IHB : Hid (∀ (v' way' : Value) (us' : List Value) (Ls' : List (List Nat)) (w' : World), Below w0.heap.size w0 w' → OwnLL w' w0.heap.size v' us' Ls' → OwnV w' 0 3 way' ((hh :: (l ++ [b])).map iv) → Ls'.length + (d.rgs hh k (l ++ [b])).length ≤ 200000 → Calls Try.prog 76 #[.agg #[.int .i64 (d.n : Int), .slice (some ⟨b1, 0, none⟩) d.n d.n, .slice (some ⟨b2, 0, none⟩) d.n d.n], way', .int .i64 (U2 : Int), v'] w' fun e w'' => ∃ v'' us'', e = .returned v'' ∧ OwnLL w'' w0.heap.size v'' us'' (Ls' ++ d.rgs hh k (l ++ [b])) ∧ Out w' v' w'' v'') := fun v' way' us' Ls' w' h1 h2 h3 h4 => by
                rw [← HU2.out]
                exact IH.out (l ++ [b]) v' way' us' Ls' w' HPB.out HKB.out h1 h2 h3 h4
              go_upto_region 8 with fail
              clear hat hct HFS1 hb1 hb2 c1 x0 x1 x2 hpw hU2 H1C hcond HU2
              refine wp_region_held_drew (S := fun w' => w'.cell? ⟨w.heap.size, 0, none⟩ = some (.int .i64 (d.n : Int)) ∧ w'.cell? ⟨w.heap.size, 1, none⟩ = some (.slice (some ⟨b1, 0, none⟩) d.n d.n) ∧ w'.cell? ⟨w.heap.size, 2, none⟩ = some (.slice (some ⟨b2, 0, none⟩) d.n d.n)) (by kernel_rfl) (KW.out _ ((Below.refl _ _).drew)) (fun hHeld => ?_)
              have HU0 : Hid (Below wr.heap.size wr wr.drew) := (Below.refl _ _).drew
              generalize wr.drew = u0 at *
              refine take_at (i := 0) 60 (v := .agg #[.int .i64 (d.n : Int), .slice (some ⟨b1, 0, none⟩) d.n d.n, .slice (some ⟨b2, 0, none⟩) d.n d.n]) rfl (by kernel_rfl) (by kernel_rfl) (by kernel_rfl) rfl (fun _ _ _ h => h) (by rfl) (fun w hSw => ?_) hHeld ?_
              · (try dsimp only at hSw); go_simp
              simp only [Act.put, List.setIfInBounds_toArray, List.set_cons_zero, List.set_cons_succ]
              refine take_at (i := 2) 62 (v := .slice (some ⟨wg, 0, none⟩) m wc) rfl (by kernel_rfl) (by kernel_rfl) (by kernel_rfl) rfl (fun _ _ _ h => h) (by rfl) (fun w hSw => ?_) hHeld ?_
              · (try dsimp only at hSw); go_simp
              simp only [Act.put, List.setIfInBounds_toArray, List.set_cons_zero, List.set_cons_succ]
              refine take_at (i := 4) 64 (v := .int .i64 (b : Int)) rfl (by kernel_rfl) (by kernel_rfl) (by kernel_rfl) rfl (fun _ _ _ h => h) (by rfl) (fun w hSw => ?_) hHeld ?_
              · (try dsimp only at hSw); go_simp
              simp only [Act.put, List.setIfInBounds_toArray, List.set_cons_zero, List.set_cons_succ]
              refine take_at (i := 7) 67 (v := .int .i64 (U : Int)) rfl (by kernel_rfl) (by kernel_rfl) (by kernel_rfl) rfl (fun _ _ _ h => h) (by rfl) (fun w hSw => ?_) hHeld ?_
              · (try dsimp only at hSw); go_simp
              simp only [Act.put, List.setIfInBounds_toArray, List.set_cons_zero, List.set_cons_succ]
              refine take_at (i := 8) 68 (v := .int .i64 (b : Int)) rfl (by kernel_rfl) (by kernel_rfl) (by kernel_rfl) rfl (fun _ _ _ h => h) (by rfl) (fun w hSw => ?_) hHeld ?_
              · (try dsimp only at hSw); go_simp
              simp only [Act.put, List.setIfInBounds_toArray, List.set_cons_zero, List.set_cons_succ]
              refine take_at (i := 9) 69 (v := .int .i64 (pw : Int)) rfl (by kernel_rfl) (by kernel_rfl) (by kernel_rfl) rfl (fun _ _ _ h => h) (by rfl) (fun w hSw => ?_) hHeld ?_
              · (try dsimp only at hSw); go_simp; first | done | exact HSH.out | (rw [HSH.out])
              simp only [Act.put, List.setIfInBounds_toArray, List.set_cons_zero, List.set_cons_succ]
              refine take_at (i := 10) 70 (v := .int .i64 (U2 : Int)) rfl (by kernel_rfl) (by kernel_rfl) (by kernel_rfl) rfl (fun _ _ _ h => h) (by rfl) (fun w hSw => ?_) hHeld ?_
              · (try dsimp only at hSw); go_simp; first | done | exact HOR.out | (rw [HOR.out])
              simp only [Act.put, List.setIfInBounds_toArray, List.set_cons_zero, List.set_cons_succ]
              refine take_at (i := 11) 71 (v := ov) rfl (by kernel_rfl) (by kernel_rfl) (by kernel_rfl) rfl (fun _ _ _ h => h) (by rfl) (fun w hSw => ?_) hHeld ?_
              · (try dsimp only at hSw); go_simp
              simp only [Act.put, List.setIfInBounds_toArray, List.set_cons_zero, List.set_cons_succ]
              refine wpAnyH_ready (rs := [1, 5]) (by kernel_rfl) (by simp) ?_
              refine node_none24 61 rfl rfl rfl rfl (KW.out _ (Below.alloc HU0.out (Below.size HU0.out) _)) (fun hHeld => ?_) ?_
              · have HU1 := hid (Below.alloc HU0.out (Below.size HU0.out) (.cells #[] 3))
                have GA1 := hid (heap_alloc_new u0 (.cells #[] 3))
                obtain ⟨u1, hu⟩ : ∃ v, v = u0.alloc (.cells #[] 3) := ⟨_, rfl⟩
                obtain ⟨b0, hb0⟩ : ∃ b, b = u0.heap.size := ⟨_, rfl⟩
                have HB0 : Hid (wr.heap.size ≤ b0) := by rw [hb0]; exact HU0.out.size
                rw [← hu] at HU1 GA1 ⊢
                rw [← hb0] at GA1 ⊢
                replace hHeld := KW.out _ HU1.out
                clear hu hb0
                simp only [Act.put, List.setIfInBounds_toArray, List.set_cons_zero, List.set_cons_succ]
                refine wpAnyH_ready (rs := [3, 5]) (by kernel_rfl) (by simp) ?_
                refine node_app24n 63 wr.heap.size 61 62 (.slice (some ⟨b0, 0, none⟩) 0 0) [] (.slice (some ⟨wg, 0, none⟩) m wc) m WX rfl rfl rfl rfl rfl rfl (RW.out _ HU1.out) (row_of_block (size := 1) GA1.out HB0.out) HU1.out.size ⟨Nat.zero_le _, HM6.out⟩ ?_ ?_
                · intro v4 u2 ho4 hg4
                  have O2 := hid ho4
                  have HU2 : Hid (Below wr.heap.size wr u2) := HU1.out.grown hg4 HU1.out.size (fun q hq => (World.ownsRow.lt (row_of_block (size := 1) GA1.out HB0.out) q hq).1)
                  refine ⟨KW.out _ HU2.out, ?_⟩
                  have hHeld := KW.out _ HU2.out
                  clear ho4 hg4
                  simp only [Act.put, List.setIfInBounds_toArray, List.set_cons_zero, List.set_cons_succ]
                  refine wpAnyH_ready (rs := [5]) (by kernel_rfl) (by simp) ?_
                  refine node_build24 65 64 (b : Int) rfl (by rfl) rfl rfl rfl (KW.out _ (Below.alloc HU2.out (Below.size HU2.out) _)) (fun hHeld => ?_) AllReadyH.nil
                  · have HU3 := hid (Below.alloc HU2.out (Below.size HU2.out) (.cells #[.int .i64 (b : Int)] 3))
                    have GB3 := hid (heap_alloc_new u2 (.cells #[.int .i64 (b : Int)] 3))
                    have O3 := hid (ownV_below O2.out (ba u2 (.cells #[.int .i64 (b : Int)] 3)))
                    obtain ⟨u3, hu⟩ : ∃ v, v = u2.alloc (.cells #[.int .i64 (b : Int)] 3) := ⟨_, rfl⟩
                    obtain ⟨b9, hb9⟩ : ∃ b, b = u2.heap.size := ⟨_, rfl⟩
                    rw [← hu] at HU3 GB3 O3 ⊢
                    rw [← hb9] at GB3 ⊢
                    replace hHeld := KW.out _ HU3.out
                    clear hu hb9
                    simp only [Act.put, List.setIfInBounds_toArray, List.set_cons_zero, List.set_cons_succ]
                    refine wpAnyH_ready (rs := [6]) (by kernel_rfl) (by simp) ?_
                    refine node_app24n 66 wr.heap.size 63 65 v4 ([] ++ WX) (.slice (some ⟨b9, 0, none⟩) 1 1) 1 [.int .i64 (b : Int)] rfl rfl rfl rfl rfl rfl (rd_oneI GB3.out) O3.out HU3.out.size ⟨LEN1.out, by decide⟩ ?_ AllReadyH.nil
                    · intro v10 u4 ho4 hg4
                      rw [HSN.out] at ho4
                      obtain ⟨ya, yn, yc, rfl⟩ := ownV_sh ho4
                      have O4 := hid ho4
                      have HU4 : Hid (Below wr.heap.size wr u4) := HU3.out.grown hg4 HU3.out.size (fun q hq => (World.ownsRow.lt O3.out q hq).1)
                      refine ⟨KW.out _ HU4.out, ?_⟩
                      have hHeld := KW.out _ HU4.out
                      clear ho4 hg4
                      simp only [Act.put, List.setIfInBounds_toArray, List.set_cons_zero, List.set_cons_succ]
                      refine wpAnyH_ready (rs := [12]) (by kernel_rfl) (by simp) ?_
                      refine node_f76 72 60 66 70 71 _ _ _ _ rfl (by rfl) rfl rfl rfl rfl rfl rfl ((IHB.out ov (.slice ya yn yc) usr _ u4 (HBr.out.trans (HU4.out.mono HBr.out.size)) (ownLL_below HLr.out HU4.out) (ownV_mono O4.out (Nat.zero_le _)) HLB.out).mono ?_) AllReadyH.nil
                      · rintro e u5 ⟨v7, us7, rfl, hl7, ho7⟩
                        have HL7 := hid hl7
                        have HO7 := hid (Out.trans (Out.below ov HU4.out) ho7)
                        have hHeld := cells3_of (Out.box HO7.out HLr.out.2.1 HZr.out)
                        refine ⟨_, rfl, hHeld, ?_⟩
                        clear hl7 ho7
                        simp only [Act.put, List.setIfInBounds_toArray, List.set_cons_zero, List.set_cons_succ]
                        refine take_at (i := 13) 3 (v := v7) rfl (by kernel_rfl) (by kernel_rfl) (by kernel_rfl) rfl (fun _ _ _ h => h) (by rfl) (fun w hSw => ?_) hHeld ?_
                        · (try dsimp only at hSw); go_simp
                        simp only [Act.put, List.setIfInBounds_toArray, List.set_cons_zero, List.set_cons_succ]
                        refine wpAnyH_done (by kernel_rfl) ?_ _
                        clear hHeld
                        generalize u5 = wn at *
                        go_wp2_with fail
                        go_roundw
                        case rel => exact ⟨b + 1, us7, by go_num, by omega, by omega, by rw [HFS.out]; exact HL7.out, Out.ints HO7.out HLr.out.2.1 HWr.out, Out.box HO7.out HLr.out.2.1 HZr.out, Out.trans HOr.out HO7.out, Out.to_below HO7.out HBr.out HLr.out.2.1 HBr.out.size⟩
                        case measure => simp [intOf]; omega
                refine node_build24 65 64 (b : Int) rfl (by rfl) rfl rfl rfl (KW.out _ (Below.alloc HU1.out (Below.size HU1.out) _)) (fun hHeld => ?_) AllReadyH.nil
                · have HU2 := hid (Below.alloc HU1.out (Below.size HU1.out) (.cells #[.int .i64 (b : Int)] 3))
                  have GB2 := hid (heap_alloc_new u1 (.cells #[.int .i64 (b : Int)] 3))
                  have GA2 := hid ((Below.heap_alloc u1 (.cells #[.int .i64 (b : Int)] 3) b0 (heap_lt GA1.out)).trans GA1.out)
                  obtain ⟨u2, hu⟩ : ∃ v, v = u1.alloc (.cells #[.int .i64 (b : Int)] 3) := ⟨_, rfl⟩
                  obtain ⟨b9, hb9⟩ : ∃ b, b = u1.heap.size := ⟨_, rfl⟩
                  have NE : Hid (b9 ≠ b0) := by have := heap_lt GA1.out; show _ ≠ _; omega
                  rw [← hu] at HU2 GB2 GA2 ⊢
                  rw [← hb9] at GB2 ⊢
                  replace hHeld := KW.out _ HU2.out
                  clear hu hb9
                  simp only [Act.put, List.setIfInBounds_toArray, List.set_cons_zero, List.set_cons_succ]
                  refine wpAnyH_ready (rs := [3]) (by kernel_rfl) (by simp) ?_
                  refine node_app24n 63 wr.heap.size 61 62 (.slice (some ⟨b0, 0, none⟩) 0 0) [] (.slice (some ⟨wg, 0, none⟩) m wc) m WX rfl rfl rfl rfl rfl rfl (RW.out _ HU2.out) (row_of_block (size := 1) GA2.out HB0.out) HU2.out.size ⟨Nat.zero_le _, HM6.out⟩ ?_ AllReadyH.nil
                  · intro v4 u3 ho4 hg4
                    have O3 := hid ho4
                    have HU3 : Hid (Below wr.heap.size wr u3) := HU2.out.grown hg4 HU2.out.size (fun q hq => (World.ownsRow.lt (row_of_block (size := 1) GA2.out HB0.out) q hq).1)
                    have GB3 := hid ((hg4.block b9 (heap_lt GB2.out) (by intro e; simp [Value.ownBlock] at e; first | exact NE.out e | exact NE.out e.symm)).trans GB2.out)
                    refine ⟨KW.out _ HU3.out, ?_⟩
                    have hHeld := KW.out _ HU3.out
                    clear ho4 hg4
                    simp only [Act.put, List.setIfInBounds_toArray, List.set_cons_zero, List.set_cons_succ]
                    refine wpAnyH_ready (rs := [6]) (by kernel_rfl) (by simp) ?_
                    refine node_app24n 66 wr.heap.size 63 65 v4 ([] ++ WX) (.slice (some ⟨b9, 0, none⟩) 1 1) 1 [.int .i64 (b : Int)] rfl rfl rfl rfl rfl rfl (rd_oneI GB3.out) O3.out HU3.out.size ⟨LEN1.out, by decide⟩ ?_ AllReadyH.nil
                    · intro v10 u4 ho4 hg4
                      rw [HSN.out] at ho4
                      obtain ⟨ya, yn, yc, rfl⟩ := ownV_sh ho4
                      have O4 := hid ho4
                      have HU4 : Hid (Below wr.heap.size wr u4) := HU3.out.grown hg4 HU3.out.size (fun q hq => (World.ownsRow.lt O3.out q hq).1)
                      refine ⟨KW.out _ HU4.out, ?_⟩
                      have hHeld := KW.out _ HU4.out
                      clear ho4 hg4
                      simp only [Act.put, List.setIfInBounds_toArray, List.set_cons_zero, List.set_cons_succ]
                      refine wpAnyH_ready (rs := [12]) (by kernel_rfl) (by simp) ?_
                      refine node_f76 72 60 66 70 71 _ _ _ _ rfl (by rfl) rfl rfl rfl rfl rfl rfl ((IHB.out ov (.slice ya yn yc) usr _ u4 (HBr.out.trans (HU4.out.mono HBr.out.size)) (ownLL_below HLr.out HU4.out) (ownV_mono O4.out (Nat.zero_le _)) HLB.out).mono ?_) AllReadyH.nil
                      · rintro e u5 ⟨v7, us7, rfl, hl7, ho7⟩
                        have HL7 := hid hl7
                        have HO7 := hid (Out.trans (Out.below ov HU4.out) ho7)
                        have hHeld := cells3_of (Out.box HO7.out HLr.out.2.1 HZr.out)
                        refine ⟨_, rfl, hHeld, ?_⟩
                        clear hl7 ho7
                        simp only [Act.put, List.setIfInBounds_toArray, List.set_cons_zero, List.set_cons_succ]
                        refine take_at (i := 13) 3 (v := v7) rfl (by kernel_rfl) (by kernel_rfl) (by kernel_rfl) rfl (fun _ _ _ h => h) (by rfl) (fun w hSw => ?_) hHeld ?_
                        · (try dsimp only at hSw); go_simp
                        simp only [Act.put, List.setIfInBounds_toArray, List.set_cons_zero, List.set_cons_succ]
                        refine wpAnyH_done (by kernel_rfl) ?_ _
                        clear hHeld
                        generalize u5 = wn at *
                        go_wp2_with fail
                        go_roundw
                        case rel => exact ⟨b + 1, us7, by go_num, by omega, by omega, by rw [HFS.out]; exact HL7.out, Out.ints HO7.out HLr.out.2.1 HWr.out, Out.box HO7.out HLr.out.2.1 HZr.out, Out.trans HOr.out HO7.out, Out.to_below HO7.out HBr.out HLr.out.2.1 HBr.out.size⟩
                        case measure => simp [intOf]; omega
              refine node_build24 65 64 (b : Int) rfl (by rfl) rfl rfl rfl (KW.out _ (Below.alloc HU0.out (Below.size HU0.out) _)) (fun hHeld => ?_) AllReadyH.nil
              · have HU1 := hid (Below.alloc HU0.out (Below.size HU0.out) (.cells #[.int .i64 (b : Int)] 3))
                have GB1 := hid (heap_alloc_new u0 (.cells #[.int .i64 (b : Int)] 3))
                obtain ⟨u1, hu⟩ : ∃ v, v = u0.alloc (.cells #[.int .i64 (b : Int)] 3) := ⟨_, rfl⟩
                obtain ⟨b9, hb9⟩ : ∃ b, b = u0.heap.size := ⟨_, rfl⟩
                rw [← hu] at HU1 GB1 ⊢
                rw [← hb9] at GB1 ⊢
                replace hHeld := KW.out _ HU1.out
                clear hu hb9
                simp only [Act.put, List.setIfInBounds_toArray, List.set_cons_zero, List.set_cons_succ]
                refine wpAnyH_ready (rs := [1]) (by kernel_rfl) (by simp) ?_
                refine node_none24 61 rfl rfl rfl rfl (KW.out _ (Below.alloc HU1.out (Below.size HU1.out) _)) (fun hHeld => ?_) AllReadyH.nil
                · have HU2 := hid (Below.alloc HU1.out (Below.size HU1.out) (.cells #[] 3))
                  have GA2 := hid (heap_alloc_new u1 (.cells #[] 3))
                  have GB2 := hid ((Below.heap_alloc u1 (.cells #[] 3) b9 (heap_lt GB1.out)).trans GB1.out)
                  obtain ⟨u2, hu⟩ : ∃ v, v = u1.alloc (.cells #[] 3) := ⟨_, rfl⟩
                  obtain ⟨b0, hb0⟩ : ∃ b, b = u1.heap.size := ⟨_, rfl⟩
                  have NE : Hid (b9 ≠ b0) := by have := heap_lt GB1.out; show _ ≠ _; omega
                  have HB0 : Hid (wr.heap.size ≤ b0) := by rw [hb0]; exact HU1.out.size
                  rw [← hu] at HU2 GA2 GB2 ⊢
                  rw [← hb0] at GA2 ⊢
                  replace hHeld := KW.out _ HU2.out
                  clear hu hb0
                  simp only [Act.put, List.setIfInBounds_toArray, List.set_cons_zero, List.set_cons_succ]
                  refine wpAnyH_ready (rs := [3]) (by kernel_rfl) (by simp) ?_
                  refine node_app24n 63 wr.heap.size 61 62 (.slice (some ⟨b0, 0, none⟩) 0 0) [] (.slice (some ⟨wg, 0, none⟩) m wc) m WX rfl rfl rfl rfl rfl rfl (RW.out _ HU2.out) (row_of_block (size := 1) GA2.out HB0.out) HU2.out.size ⟨Nat.zero_le _, HM6.out⟩ ?_ AllReadyH.nil
                  · intro v4 u3 ho4 hg4
                    have O3 := hid ho4
                    have HU3 : Hid (Below wr.heap.size wr u3) := HU2.out.grown hg4 HU2.out.size (fun q hq => (World.ownsRow.lt (row_of_block (size := 1) GA2.out HB0.out) q hq).1)
                    have GB3 := hid ((hg4.block b9 (heap_lt GB2.out) (by intro e; simp [Value.ownBlock] at e; first | exact NE.out e | exact NE.out e.symm)).trans GB2.out)
                    refine ⟨KW.out _ HU3.out, ?_⟩
                    have hHeld := KW.out _ HU3.out
                    clear ho4 hg4
                    simp only [Act.put, List.setIfInBounds_toArray, List.set_cons_zero, List.set_cons_succ]
                    refine wpAnyH_ready (rs := [6]) (by kernel_rfl) (by simp) ?_
                    refine node_app24n 66 wr.heap.size 63 65 v4 ([] ++ WX) (.slice (some ⟨b9, 0, none⟩) 1 1) 1 [.int .i64 (b : Int)] rfl rfl rfl rfl rfl rfl (rd_oneI GB3.out) O3.out HU3.out.size ⟨LEN1.out, by decide⟩ ?_ AllReadyH.nil
                    · intro v10 u4 ho4 hg4
                      rw [HSN.out] at ho4
                      obtain ⟨ya, yn, yc, rfl⟩ := ownV_sh ho4
                      have O4 := hid ho4
                      have HU4 : Hid (Below wr.heap.size wr u4) := HU3.out.grown hg4 HU3.out.size (fun q hq => (World.ownsRow.lt O3.out q hq).1)
                      refine ⟨KW.out _ HU4.out, ?_⟩
                      have hHeld := KW.out _ HU4.out
                      clear ho4 hg4
                      simp only [Act.put, List.setIfInBounds_toArray, List.set_cons_zero, List.set_cons_succ]
                      refine wpAnyH_ready (rs := [12]) (by kernel_rfl) (by simp) ?_
                      refine node_f76 72 60 66 70 71 _ _ _ _ rfl (by rfl) rfl rfl rfl rfl rfl rfl ((IHB.out ov (.slice ya yn yc) usr _ u4 (HBr.out.trans (HU4.out.mono HBr.out.size)) (ownLL_below HLr.out HU4.out) (ownV_mono O4.out (Nat.zero_le _)) HLB.out).mono ?_) AllReadyH.nil
                      · rintro e u5 ⟨v7, us7, rfl, hl7, ho7⟩
                        have HL7 := hid hl7
                        have HO7 := hid (Out.trans (Out.below ov HU4.out) ho7)
                        have hHeld := cells3_of (Out.box HO7.out HLr.out.2.1 HZr.out)
                        refine ⟨_, rfl, hHeld, ?_⟩
                        clear hl7 ho7
                        simp only [Act.put, List.setIfInBounds_toArray, List.set_cons_zero, List.set_cons_succ]
                        refine take_at (i := 13) 3 (v := v7) rfl (by kernel_rfl) (by kernel_rfl) (by kernel_rfl) rfl (fun _ _ _ h => h) (by rfl) (fun w hSw => ?_) hHeld ?_
                        · (try dsimp only at hSw); go_simp
                        simp only [Act.put, List.setIfInBounds_toArray, List.set_cons_zero, List.set_cons_succ]
                        refine wpAnyH_done (by kernel_rfl) ?_ _
                        clear hHeld
                        generalize u5 = wn at *
                        go_wp2_with fail
                        go_roundw
                        case rel => exact ⟨b + 1, us7, by go_num, by omega, by omega, by rw [HFS.out]; exact HL7.out, Out.ints HO7.out HLr.out.2.1 HWr.out, Out.box HO7.out HLr.out.2.1 HZr.out, Out.trans HOr.out HO7.out, Out.to_below HO7.out HBr.out HLr.out.2.1 HBr.out.size⟩
                        case measure => simp [intOf]; omega
        · have hbe : b = d.n := by omega
          have HF : Hid (OwnLL wr w0.heap.size ov usr (Ls ++ d.rgs hh (k + 1) l)) := by
            have h := HLr.out
            rw [hbe] at h
            rw [HRG.out]
            exact h
          clear HLr
          go_wp2_with fail
          go_ret
          exact ⟨_, _, rfl, HF.out, HOr.out⟩
    | false =>
      have HBT : Hid (bits .and .i64 ((O : Int) / 2 ^ hh) 1 = 0) := by
        show _ = _
        rw [bit64 hh hO, HHB.out, hcl]; rfl
      rw [hcl, if_neg (by decide)] at HRG
      clear hcl
      go_upto_region 2 with fail
      clear x0 x1 x2 c0 c1
      refine wp_region_held_drew (S := fun w' => w'.cell? ⟨w.heap.size, 0, none⟩ = some (.int .i64 (d.n : Int)) ∧ w'.cell? ⟨w.heap.size, 1, none⟩ = some (.slice (some ⟨b1, 0, none⟩) d.n d.n) ∧ w'.cell? ⟨w.heap.size, 2, none⟩ = some (.slice (some ⟨b2, 0, none⟩) d.n d.n) ∧ w'.cell? ⟨b1, la, none⟩ = some (.int .i64 (O : Int)) ∧ w'.cell? ⟨wg, 0, none⟩ = some (.int .i64 (hh : Int))) (by kernel_rfl) (KS.out _ ((Below.refl _ _).drew)) (fun hHeld => ?_)
      have HU0 : Hid (Below w1.heap.size w1 w1.drew) := (Below.refl _ _).drew
      generalize w1.drew = u0 at *
      refine take_at (i := 0) 17 (v := .pointer (some ⟨w.heap.size, 1, none⟩)) rfl (by kernel_rfl) (by kernel_rfl) (by kernel_rfl) rfl (fun _ _ _ h => h) (by rfl) (fun w hSw => ?_) hHeld ?_
      · (try dsimp only at hSw); go_simp
      simp only [Act.put, List.setIfInBounds_toArray, List.set_cons_zero, List.set_cons_succ]
      refine take_at (i := 1) 18 (v := .slice (some ⟨b1, 0, none⟩) d.n d.n) rfl (by kernel_rfl) (by kernel_rfl) (by kernel_rfl) rfl (fun _ _ _ h => h) (by rfl) (fun w hSw => ?_) hHeld ?_
      · (try dsimp only at hSw); go_simp
      simp only [Act.put, List.setIfInBounds_toArray, List.set_cons_zero, List.set_cons_succ]
      refine take_at (i := 2) 19 (v := .int .i64 (la : Int)) rfl (by kernel_rfl) (by kernel_rfl) (by kernel_rfl) rfl (fun _ _ _ h => h) (by rfl) (fun w hSw => ?_) hHeld ?_
      · (try dsimp only at hSw); go_simp
      simp only [Act.put, List.setIfInBounds_toArray, List.set_cons_zero, List.set_cons_succ]
      refine take_at (i := 3) 20 (v := .pointer (some ⟨b1, la, none⟩)) rfl (by kernel_rfl) (by kernel_rfl) (by kernel_rfl) rfl (fun _ _ _ h => h) (by rfl) (fun w hSw => ?_) hHeld ?_
      · (try dsimp only at hSw); go_simp
      simp only [Act.put, List.setIfInBounds_toArray, List.set_cons_zero, List.set_cons_succ]
      refine take_at (i := 4) 21 (v := .int .i64 (O : Int)) rfl (by kernel_rfl) (by kernel_rfl) (by kernel_rfl) rfl (fun _ _ _ h => h) (by rfl) (fun w hSw => ?_) hHeld ?_
      · (try dsimp only at hSw); go_simp
      simp only [Act.put, List.setIfInBounds_toArray, List.set_cons_zero, List.set_cons_succ]
      refine take_at (i := 5) 22 (v := .slice (some ⟨wg, 0, none⟩) m wc) rfl (by kernel_rfl) (by kernel_rfl) (by kernel_rfl) rfl (fun _ _ _ h => h) (by rfl) (fun w hSw => ?_) hHeld ?_
      · (try dsimp only at hSw); go_simp
      simp only [Act.put, List.setIfInBounds_toArray, List.set_cons_zero, List.set_cons_succ]
      refine take_at (i := 6) 23 (v := .pointer (some ⟨wg, 0, none⟩)) rfl (by kernel_rfl) (by kernel_rfl) (by kernel_rfl) rfl (fun _ _ _ h => h) (by rfl) (fun w hSw => ?_) hHeld ?_
      · (try dsimp only at hSw); go_simp
      simp only [Act.put, List.setIfInBounds_toArray, List.set_cons_zero, List.set_cons_succ]
      refine take_at (i := 7) 24 (v := .int .i64 (hh : Int)) rfl (by kernel_rfl) (by kernel_rfl) (by kernel_rfl) rfl (fun _ _ _ h => h) (by rfl) (fun w hSw => ?_) hHeld ?_
      · (try dsimp only at hSw); go_simp
      simp only [Act.put, List.setIfInBounds_toArray, List.set_cons_zero, List.set_cons_succ]
      refine take_at (i := 8) 25 (v := .int .i64 ((O : Int) / 2 ^ hh)) rfl (by kernel_rfl) (by kernel_rfl) (by kernel_rfl) rfl (fun _ _ _ h => h) (by rfl) (fun w hSw => ?_) hHeld ?_
      · (try dsimp only at hSw); go_simp
      simp only [Act.put, List.setIfInBounds_toArray, List.set_cons_zero, List.set_cons_succ]
      refine take_at (i := 9) 26 (v := .int .i64 0) rfl (by kernel_rfl) (by kernel_rfl) (by kernel_rfl) rfl (fun _ _ _ h => h) (by rfl) (fun w hSw => ?_) hHeld ?_
      · (try dsimp only at hSw); go_simp; first | done | exact HBT.out | (rw [HBT.out])
      simp only [Act.put, List.setIfInBounds_toArray, List.set_cons_zero, List.set_cons_succ]
      refine take_at (i := 10) 27 (v := .bool false) rfl (by kernel_rfl) (by kernel_rfl) (by kernel_rfl) rfl (fun _ _ _ h => h) (by rfl) (fun w hSw => ?_) hHeld ?_
      · (try dsimp only at hSw); go_simp
      simp only [Act.put, List.setIfInBounds_toArray, List.set_cons_zero, List.set_cons_succ]
      refine wpAnyH_done (by kernel_rfl) ?_ _
      clear hHeld
      generalize u0 = wq at *
      obtain ⟨x0, x1, x2, -, c1⟩ := KS.out wq HU0.out
      have HTOT : Hid (Ls.length + (([] : List (List Nat)) ++ (List.range d.n).flatMap (fun b => if decide (hh < b) && d.att (lastN hh l) b && !l.contains b then d.rgs hh k (l ++ [b]) else [])).length ≤ 200000) := by have h := HTOT0.out; rw [HRG.out] at h; exact h
      obtain ⟨base, hbase⟩ : ∃ B : List (List Nat), B = [] := ⟨_, rfl⟩
      have HL3 : Hid (OwnLL wq w0.heap.size v us (Ls ++ base)) := by rw [hbase, List.append_nil]; exact ownLL_below HL1.out HU0.out
      have HW3 := hid (ownV_below HW1.out HU0.out)
      have HZ3 := hid ((HU0.out.block _ (heap_lt HZ1.out)).trans HZ1.out)
      have HO3 := hid (Out.trans HO1.out (Out.below v HU0.out))
      have HB3 := hid (below_step HB1.out HU0.out)
      have HRG2 : Hid (d.rgs hh (k + 1) l = base ++ (List.range d.n).flatMap (fun b => if decide (hh < b) && d.att (lastN hh l) b && !l.contains b then d.rgs hh k (l ++ [b]) else [])) := by rw [hbase]; exact HRG.out
      have HTOT2 : Hid (Ls.length + (base ++ (List.range d.n).flatMap (fun b => if decide (hh < b) && d.att (lastN hh l) b && !l.contains b then d.rgs hh k (l ++ [b]) else [])).length ≤ 200000) := by rw [hbase]; exact HTOT.out
      clear HRG HTOT
      have HRG := HRG2
      have HTOT := HTOT2
      clear HRG2 HTOT2
      clear hbase HL1 HW1 HZ1 HO1 HB1 KS HU0
      obtain ⟨us3, hus3⟩ : ∃ X, X = us := ⟨_, rfl⟩
      rw [← hus3] at HL3
      clear hus3
      go_upto_region 5 with fail
      clear x0 x1 x2 c1
      go_loopw [10, 3] (fun bv ov wr => ∃ (b : Nat) (usr : List Value), bv = .int .i64 (b : Int) ∧ hh < b ∧ b ≤ d.n ∧ Hid (OwnLL wr w0.heap.size ov usr (Ls ++ (base ++ (List.range b).flatMap (fun b => if decide (hh < b) && d.att (lastN hh l) b && !l.contains b then d.rgs hh k (l ++ [b]) else [])))) ∧ Hid (OwnV wr 0 3 (.slice (some ⟨wg, 0, none⟩) m wc) WX) ∧ Hid (wr.heap[w.heap.size]? = some (.cells #[.int .i64 (d.n : Int), .slice (some ⟨b1, 0, none⟩) d.n d.n, .slice (some ⟨b2, 0, none⟩) d.n d.n] 34)) ∧ Hid (Out w v wr ov) ∧ Hid (Below w0.heap.size w0 wr)) (fun bv _ _ => d.n - (intOf bv).toNat)
      case atStart => exact ⟨hh + 1, us3, by go_num, by omega, by omega, by rw [HF0.out, List.append_nil]; exact HL3, HW3, HZ3, HO3, HB3⟩
      case round =>
        obtain ⟨b, usr, rfl, hhb, hbn, HLr, HWr, HZr, HOr, HBr⟩ := hrel
        rename World => wr
        obtain ⟨ov, hov⟩ : ∃ ov, ov = u3 := ⟨_, rfl⟩
        rw [← hov] at HLr HOr ⊢
        clear hov HL3 HW3 HZ3 HO3 HB3
        obtain ⟨x0, x1, x2⟩ := cells3_of HZr.out
        by_cases hlt : b < d.n
        · have c1 := (rdd_below HRD.out HBr.out).2.2.1 la hla
          rw [← HOE.out] at c1
          have hb1 := bit64 b hO
          have hb2 := bit64 b hU
          rw [HOB.out b hlt] at hb1
          rw [HUB.out b, List.contains_cons] at hb2
          have hne : (b == hh) = false := beq_eq_false_iff_ne.2 (by omega)
          rw [hne, Bool.false_or] at hb2
          have HFS0 : (List.range (b + 1)).flatMap (fun b => if decide (hh < b) && d.att (lastN hh l) b && !l.contains b then d.rgs hh k (l ++ [b]) else []) = _ := flat_succ _ b
          have HFS1 := hid HFS0
          clear HFS0 hne
          cases hat : d.att la b with
          | false =>
            have HFS : Hid (Ls ++ (base ++ (List.range (b + 1)).flatMap (fun b => if decide (hh < b) && d.att (lastN hh l) b && !l.contains b then d.rgs hh k (l ++ [b]) else [])) = Ls ++ (base ++ (List.range b).flatMap (fun b => if decide (hh < b) && d.att (lastN hh l) b && !l.contains b then d.rgs hh k (l ++ [b]) else []))) := by
              show _ = _
              rw [HFS1.out]
              have : (decide (hh < b) && d.att (lastN hh l) b && !l.contains b) = false := by rw [HLA.out, hat]; simp
              rw [if_neg (by rw [this]; decide), List.append_nil]
            rw [hat, if_neg (by decide)] at hb1
            clear hat HFS1 hb2
            go_wp2_with fail
            go_roundw
            case rel => exact ⟨b + 1, usr, by go_num, by omega, by omega, by rw [HFS.out]; exact HLr, HWr, HZr, HOr, HBr⟩
            case measure => simp [intOf]; omega
          | true =>
            rw [hat, if_pos rfl] at hb1
            cases hct : l.contains b with
            | true =>
              have HFS : Hid (Ls ++ (base ++ (List.range (b + 1)).flatMap (fun b => if decide (hh < b) && d.att (lastN hh l) b && !l.contains b then d.rgs hh k (l ++ [b]) else [])) = Ls ++ (base ++ (List.range b).flatMap (fun b => if decide (hh < b) && d.att (lastN hh l) b && !l.contains b then d.rgs hh k (l ++ [b]) else []))) := by
                show _ = _
                rw [HFS1.out]
                have : (decide (hh < b) && d.att (lastN hh l) b && !l.contains b) = false := by rw [hct]; simp
                rw [if_neg (by rw [this]; decide), List.append_nil]
              rw [hct, if_pos rfl] at hb2
              clear hat hct HFS1
              go_wp2_with fail
              go_roundw
              case rel => exact ⟨b + 1, usr, by go_num, by omega, by omega, by rw [HFS.out]; exact HLr, HWr, HZr, HOr, HBr⟩
              case measure => simp [intOf]; omega
            | false =>
              have hcond : (decide (hh < b) && d.att (lastN hh l) b && !l.contains b) = true := by rw [HLA.out, hat, hct, decide_eq_true hhb]; rfl
              rw [hct, if_neg (by decide)] at hb2
              have HFS : Hid (Ls ++ (base ++ (List.range (b + 1)).flatMap (fun b => if decide (hh < b) && d.att (lastN hh l) b && !l.contains b then d.rgs hh k (l ++ [b]) else [])) = Ls ++ (base ++ (List.range b).flatMap (fun b => if decide (hh < b) && d.att (lastN hh l) b && !l.contains b then d.rgs hh k (l ++ [b]) else [])) ++ d.rgs hh k (l ++ [b])) := by
                show _ = _
                rw [HFS1.out, if_pos hcond]
                simp only [List.append_assoc]
              have HPB : Hid (Part d hh (l ++ [b])) := part_snoc d HP.out hhb hlt (by rw [HLA.out]; exact hat) (by simpa using hct)
              have HKB : Hid (d.n ≤ (l ++ [b]).length + k) := by have := HK.out; show _ ≤ _; rw [List.length_append]; simp only [List.length_singleton]; omega
              have HLB : Hid ((Ls ++ (base ++ (List.range b).flatMap (fun b => if decide (hh < b) && d.att (lastN hh l) b && !l.contains b then d.rgs hh k (l ++ [b]) else []))).length + (d.rgs hh k (l ++ [b])).length ≤ 200000) := by
                have h1 := HTOT.out
                have h2 := flat_prefix (fun b => if decide (hh < b) && d.att (lastN hh l) b && !l.contains b then d.rgs hh k (l ++ [b]) else []) (b := b + 1) (n := d.n) hlt
                have h3 := congrArg List.length HFS.out
                simp only [List.length_append] at h1 h3 ⊢
                show _ ≤ _
                omega
              have HSN : Hid ([] ++ WX ++ [Value.int .i64 (b : Int)] = (hh :: (l ++ [b])).map iv) := by
                show _ = _
                rw [HWX.out, List.nil_append]
                simp [iv]
              have hb16 : b < 16 := by omega
              obtain ⟨pw, hpw⟩ : ∃ p, p = 2 ^ b := ⟨_, rfl⟩
              have HSH : Hid (IntKind.i64.wrap (2 ^ b) = (pw : Int)) := by rw [hpw]; exact wrap64 (show b < 62 by omega)
              have hpw2 : pw ≤ 65536 := by rw [hpw]; exact pow_small (n := 16) (by omega)
              obtain ⟨U2, hU2⟩ : ∃ U2, U2 = U ||| pw := ⟨_, rfl⟩
              have HOR : Hid (bits .or .i64 (U : Int) (pw : Int) = (U2 : Int)) := by rw [hU2]; exact or64 (by omega) (by omega)
              have HU2 : Hid (usd (hh :: (l ++ [b])) = U2) := by
                show _ = _
                rw [hU2, hpw, ← HUE.out]
                exact usd_snoc (hh :: l) b
              have HB0b : (0 : Int) ≤ (b : Int) := by omega
              have hb64 : (b : Int) < 64 := by omega
              have KW : Hid (∀ w', Below wr.heap.size wr w' → w'.cell? ⟨w.heap.size, 0, none⟩ = some (.int .i64 (d.n : Int)) ∧ w'.cell? ⟨w.heap.size, 1, none⟩ = some (.slice (some ⟨b1, 0, none⟩) d.n d.n) ∧ w'.cell? ⟨w.heap.size, 2, none⟩ = some (.slice (some ⟨b2, 0, none⟩) d.n d.n)) := fun w' hb => cells3_of ((hb.block _ (heap_lt HZr.out)).trans HZr.out)
              have H1C : ∀ u ∈ WX, u.oneCell' = true := fun u hu => by
                rw [HWX.out] at hu
                obtain ⟨x, _, rfl⟩ := List.mem_map.1 hu
                rfl
              have HML : Hid (m = WX.length) := by show _ = _; rw [HWX.out, List.length_map]; exact HM.out
              have RW : Hid (∀ w', Below wr.heap.size wr w' → Rd w' (.slice (some ⟨wg, 0, none⟩) m wc) m 1 WX) := fun w' hb => by
                have h := ownV_rd (ownV_below HWr.out hb) H1C 0 m (Nat.zero_le _) (Nat.le_of_eq HML.out) wc
                have e : (WX.drop 0).take (m - 0) = WX := by rw [List.drop_zero, Nat.sub_zero, HML.out, List.take_length]
                rw [e] at h
                exact h
              have HM6 : Hid (m ≤ 1000000) := by have := HM16.out; show _ ≤ _; omega
              have LEN1 : Hid (([] ++ WX).length ≤ 1000000) := by have := HM16.out; have := HML.out; show _ ≤ _; rw [List.nil_append]; omega
              have IHB : Hid (∀ (v' way' : Value) (us' : List Value) (Ls' : List (List Nat)) (w' : World), Below w0.heap.size w0 w' → OwnLL w' w0.heap.size v' us' Ls' → OwnV w' 0 3 way' ((hh :: (l ++ [b])).map iv) → Ls'.length + (d.rgs hh k (l ++ [b])).length ≤ 200000 → Calls Try.prog 76 #[.agg #[.int .i64 (d.n : Int), .slice (some ⟨b1, 0, none⟩) d.n d.n, .slice (some ⟨b2, 0, none⟩) d.n d.n], way', .int .i64 (U2 : Int), v'] w' fun e w'' => ∃ v'' us'', e = .returned v'' ∧ OwnLL w'' w0.heap.size v'' us'' (Ls' ++ d.rgs hh k (l ++ [b])) ∧ Out w' v' w'' v'') := fun v' way' us' Ls' w' h1 h2 h3 h4 => by
                rw [← HU2.out]
                exact IH.out (l ++ [b]) v' way' us' Ls' w' HPB.out HKB.out h1 h2 h3 h4
              go_upto_region 8 with fail
              clear hat hct HFS1 hb1 hb2 c1 x0 x1 x2 hpw hU2 H1C hcond HU2
              refine wp_region_held_drew (S := fun w' => w'.cell? ⟨w.heap.size, 0, none⟩ = some (.int .i64 (d.n : Int)) ∧ w'.cell? ⟨w.heap.size, 1, none⟩ = some (.slice (some ⟨b1, 0, none⟩) d.n d.n) ∧ w'.cell? ⟨w.heap.size, 2, none⟩ = some (.slice (some ⟨b2, 0, none⟩) d.n d.n)) (by kernel_rfl) (KW.out _ ((Below.refl _ _).drew)) (fun hHeld => ?_)
              have HU0 : Hid (Below wr.heap.size wr wr.drew) := (Below.refl _ _).drew
              generalize wr.drew = u0 at *
              refine take_at (i := 0) 60 (v := .agg #[.int .i64 (d.n : Int), .slice (some ⟨b1, 0, none⟩) d.n d.n, .slice (some ⟨b2, 0, none⟩) d.n d.n]) rfl (by kernel_rfl) (by kernel_rfl) (by kernel_rfl) rfl (fun _ _ _ h => h) (by rfl) (fun w hSw => ?_) hHeld ?_
              · (try dsimp only at hSw); go_simp
              simp only [Act.put, List.setIfInBounds_toArray, List.set_cons_zero, List.set_cons_succ]
              refine take_at (i := 2) 62 (v := .slice (some ⟨wg, 0, none⟩) m wc) rfl (by kernel_rfl) (by kernel_rfl) (by kernel_rfl) rfl (fun _ _ _ h => h) (by rfl) (fun w hSw => ?_) hHeld ?_
              · (try dsimp only at hSw); go_simp
              simp only [Act.put, List.setIfInBounds_toArray, List.set_cons_zero, List.set_cons_succ]
              refine take_at (i := 4) 64 (v := .int .i64 (b : Int)) rfl (by kernel_rfl) (by kernel_rfl) (by kernel_rfl) rfl (fun _ _ _ h => h) (by rfl) (fun w hSw => ?_) hHeld ?_
              · (try dsimp only at hSw); go_simp
              simp only [Act.put, List.setIfInBounds_toArray, List.set_cons_zero, List.set_cons_succ]
              refine take_at (i := 7) 67 (v := .int .i64 (U : Int)) rfl (by kernel_rfl) (by kernel_rfl) (by kernel_rfl) rfl (fun _ _ _ h => h) (by rfl) (fun w hSw => ?_) hHeld ?_
              · (try dsimp only at hSw); go_simp
              simp only [Act.put, List.setIfInBounds_toArray, List.set_cons_zero, List.set_cons_succ]
              refine take_at (i := 8) 68 (v := .int .i64 (b : Int)) rfl (by kernel_rfl) (by kernel_rfl) (by kernel_rfl) rfl (fun _ _ _ h => h) (by rfl) (fun w hSw => ?_) hHeld ?_
              · (try dsimp only at hSw); go_simp
              simp only [Act.put, List.setIfInBounds_toArray, List.set_cons_zero, List.set_cons_succ]
              refine take_at (i := 9) 69 (v := .int .i64 (pw : Int)) rfl (by kernel_rfl) (by kernel_rfl) (by kernel_rfl) rfl (fun _ _ _ h => h) (by rfl) (fun w hSw => ?_) hHeld ?_
              · (try dsimp only at hSw); go_simp; first | done | exact HSH.out | (rw [HSH.out])
              simp only [Act.put, List.setIfInBounds_toArray, List.set_cons_zero, List.set_cons_succ]
              refine take_at (i := 10) 70 (v := .int .i64 (U2 : Int)) rfl (by kernel_rfl) (by kernel_rfl) (by kernel_rfl) rfl (fun _ _ _ h => h) (by rfl) (fun w hSw => ?_) hHeld ?_
              · (try dsimp only at hSw); go_simp; first | done | exact HOR.out | (rw [HOR.out])
              simp only [Act.put, List.setIfInBounds_toArray, List.set_cons_zero, List.set_cons_succ]
              refine take_at (i := 11) 71 (v := ov) rfl (by kernel_rfl) (by kernel_rfl) (by kernel_rfl) rfl (fun _ _ _ h => h) (by rfl) (fun w hSw => ?_) hHeld ?_
              · (try dsimp only at hSw); go_simp
              simp only [Act.put, List.setIfInBounds_toArray, List.set_cons_zero, List.set_cons_succ]
              refine wpAnyH_ready (rs := [1, 5]) (by kernel_rfl) (by simp) ?_
              refine node_none24 61 rfl rfl rfl rfl (KW.out _ (Below.alloc HU0.out (Below.size HU0.out) _)) (fun hHeld => ?_) ?_
              · have HU1 := hid (Below.alloc HU0.out (Below.size HU0.out) (.cells #[] 3))
                have GA1 := hid (heap_alloc_new u0 (.cells #[] 3))
                obtain ⟨u1, hu⟩ : ∃ v, v = u0.alloc (.cells #[] 3) := ⟨_, rfl⟩
                obtain ⟨b0, hb0⟩ : ∃ b, b = u0.heap.size := ⟨_, rfl⟩
                have HB0 : Hid (wr.heap.size ≤ b0) := by rw [hb0]; exact HU0.out.size
                rw [← hu] at HU1 GA1 ⊢
                rw [← hb0] at GA1 ⊢
                replace hHeld := KW.out _ HU1.out
                clear hu hb0
                simp only [Act.put, List.setIfInBounds_toArray, List.set_cons_zero, List.set_cons_succ]
                refine wpAnyH_ready (rs := [3, 5]) (by kernel_rfl) (by simp) ?_
                refine node_app24n 63 wr.heap.size 61 62 (.slice (some ⟨b0, 0, none⟩) 0 0) [] (.slice (some ⟨wg, 0, none⟩) m wc) m WX rfl rfl rfl rfl rfl rfl (RW.out _ HU1.out) (row_of_block (size := 1) GA1.out HB0.out) HU1.out.size ⟨Nat.zero_le _, HM6.out⟩ ?_ ?_
                · intro v4 u2 ho4 hg4
                  have O2 := hid ho4
                  have HU2 : Hid (Below wr.heap.size wr u2) := HU1.out.grown hg4 HU1.out.size (fun q hq => (World.ownsRow.lt (row_of_block (size := 1) GA1.out HB0.out) q hq).1)
                  refine ⟨KW.out _ HU2.out, ?_⟩
                  have hHeld := KW.out _ HU2.out
                  clear ho4 hg4
                  simp only [Act.put, List.setIfInBounds_toArray, List.set_cons_zero, List.set_cons_succ]
                  refine wpAnyH_ready (rs := [5]) (by kernel_rfl) (by simp) ?_
                  refine node_build24 65 64 (b : Int) rfl (by rfl) rfl rfl rfl (KW.out _ (Below.alloc HU2.out (Below.size HU2.out) _)) (fun hHeld => ?_) AllReadyH.nil
                  · have HU3 := hid (Below.alloc HU2.out (Below.size HU2.out) (.cells #[.int .i64 (b : Int)] 3))
                    have GB3 := hid (heap_alloc_new u2 (.cells #[.int .i64 (b : Int)] 3))
                    have O3 := hid (ownV_below O2.out (ba u2 (.cells #[.int .i64 (b : Int)] 3)))
                    obtain ⟨u3, hu⟩ : ∃ v, v = u2.alloc (.cells #[.int .i64 (b : Int)] 3) := ⟨_, rfl⟩
                    obtain ⟨b9, hb9⟩ : ∃ b, b = u2.heap.size := ⟨_, rfl⟩
                    rw [← hu] at HU3 GB3 O3 ⊢
                    rw [← hb9] at GB3 ⊢
                    replace hHeld := KW.out _ HU3.out
                    clear hu hb9
                    simp only [Act.put, List.setIfInBounds_toArray, List.set_cons_zero, List.set_cons_succ]
                    refine wpAnyH_ready (rs := [6]) (by kernel_rfl) (by simp) ?_
                    refine node_app24n 66 wr.heap.size 63 65 v4 ([] ++ WX) (.slice (some ⟨b9, 0, none⟩) 1 1) 1 [.int .i64 (b : Int)] rfl rfl rfl rfl rfl rfl (rd_oneI GB3.out) O3.out HU3.out.size ⟨LEN1.out, by decide⟩ ?_ AllReadyH.nil
                    · intro v10 u4 ho4 hg4
                      rw [HSN.out] at ho4
                      obtain ⟨ya, yn, yc, rfl⟩ := ownV_sh ho4
                      have O4 := hid ho4
                      have HU4 : Hid (Below wr.heap.size wr u4) := HU3.out.grown hg4 HU3.out.size (fun q hq => (World.ownsRow.lt O3.out q hq).1)
                      refine ⟨KW.out _ HU4.out, ?_⟩
                      have hHeld := KW.out _ HU4.out
                      clear ho4 hg4
                      simp only [Act.put, List.setIfInBounds_toArray, List.set_cons_zero, List.set_cons_succ]
                      refine wpAnyH_ready (rs := [12]) (by kernel_rfl) (by simp) ?_
                      refine node_f76 72 60 66 70 71 _ _ _ _ rfl (by rfl) rfl rfl rfl rfl rfl rfl ((IHB.out ov (.slice ya yn yc) usr _ u4 (HBr.out.trans (HU4.out.mono HBr.out.size)) (ownLL_below HLr.out HU4.out) (ownV_mono O4.out (Nat.zero_le _)) HLB.out).mono ?_) AllReadyH.nil
                      · rintro e u5 ⟨v7, us7, rfl, hl7, ho7⟩
                        have HL7 := hid hl7
                        have HO7 := hid (Out.trans (Out.below ov HU4.out) ho7)
                        have hHeld := cells3_of (Out.box HO7.out HLr.out.2.1 HZr.out)
                        refine ⟨_, rfl, hHeld, ?_⟩
                        clear hl7 ho7
                        simp only [Act.put, List.setIfInBounds_toArray, List.set_cons_zero, List.set_cons_succ]
                        refine take_at (i := 13) 3 (v := v7) rfl (by kernel_rfl) (by kernel_rfl) (by kernel_rfl) rfl (fun _ _ _ h => h) (by rfl) (fun w hSw => ?_) hHeld ?_
                        · (try dsimp only at hSw); go_simp
                        simp only [Act.put, List.setIfInBounds_toArray, List.set_cons_zero, List.set_cons_succ]
                        refine wpAnyH_done (by kernel_rfl) ?_ _
                        clear hHeld
                        generalize u5 = wn at *
                        go_wp2_with fail
                        go_roundw
                        case rel => exact ⟨b + 1, us7, by go_num, by omega, by omega, by rw [HFS.out]; exact HL7.out, Out.ints HO7.out HLr.out.2.1 HWr.out, Out.box HO7.out HLr.out.2.1 HZr.out, Out.trans HOr.out HO7.out, Out.to_below HO7.out HBr.out HLr.out.2.1 HBr.out.size⟩
                        case measure => simp [intOf]; omega
                refine node_build24 65 64 (b : Int) rfl (by rfl) rfl rfl rfl (KW.out _ (Below.alloc HU1.out (Below.size HU1.out) _)) (fun hHeld => ?_) AllReadyH.nil
                · have HU2 := hid (Below.alloc HU1.out (Below.size HU1.out) (.cells #[.int .i64 (b : Int)] 3))
                  have GB2 := hid (heap_alloc_new u1 (.cells #[.int .i64 (b : Int)] 3))
                  have GA2 := hid ((Below.heap_alloc u1 (.cells #[.int .i64 (b : Int)] 3) b0 (heap_lt GA1.out)).trans GA1.out)
                  obtain ⟨u2, hu⟩ : ∃ v, v = u1.alloc (.cells #[.int .i64 (b : Int)] 3) := ⟨_, rfl⟩
                  obtain ⟨b9, hb9⟩ : ∃ b, b = u1.heap.size := ⟨_, rfl⟩
                  have NE : Hid (b9 ≠ b0) := by have := heap_lt GA1.out; show _ ≠ _; omega
                  rw [← hu] at HU2 GB2 GA2 ⊢
                  rw [← hb9] at GB2 ⊢
                  replace hHeld := KW.out _ HU2.out
                  clear hu hb9
                  simp only [Act.put, List.setIfInBounds_toArray, List.set_cons_zero, List.set_cons_succ]
                  refine wpAnyH_ready (rs := [3]) (by kernel_rfl) (by simp) ?_
                  refine node_app24n 63 wr.heap.size 61 62 (.slice (some ⟨b0, 0, none⟩) 0 0) [] (.slice (some ⟨wg, 0, none⟩) m wc) m WX rfl rfl rfl rfl rfl rfl (RW.out _ HU2.out) (row_of_block (size := 1) GA2.out HB0.out) HU2.out.size ⟨Nat.zero_le _, HM6.out⟩ ?_ AllReadyH.nil
                  · intro v4 u3 ho4 hg4
                    have O3 := hid ho4
                    have HU3 : Hid (Below wr.heap.size wr u3) := HU2.out.grown hg4 HU2.out.size (fun q hq => (World.ownsRow.lt (row_of_block (size := 1) GA2.out HB0.out) q hq).1)
                    have GB3 := hid ((hg4.block b9 (heap_lt GB2.out) (by intro e; simp [Value.ownBlock] at e; first | exact NE.out e | exact NE.out e.symm)).trans GB2.out)
                    refine ⟨KW.out _ HU3.out, ?_⟩
                    have hHeld := KW.out _ HU3.out
                    clear ho4 hg4
                    simp only [Act.put, List.setIfInBounds_toArray, List.set_cons_zero, List.set_cons_succ]
                    refine wpAnyH_ready (rs := [6]) (by kernel_rfl) (by simp) ?_
                    refine node_app24n 66 wr.heap.size 63 65 v4 ([] ++ WX) (.slice (some ⟨b9, 0, none⟩) 1 1) 1 [.int .i64 (b : Int)] rfl rfl rfl rfl rfl rfl (rd_oneI GB3.out) O3.out HU3.out.size ⟨LEN1.out, by decide⟩ ?_ AllReadyH.nil
                    · intro v10 u4 ho4 hg4
                      rw [HSN.out] at ho4
                      obtain ⟨ya, yn, yc, rfl⟩ := ownV_sh ho4
                      have O4 := hid ho4
                      have HU4 : Hid (Below wr.heap.size wr u4) := HU3.out.grown hg4 HU3.out.size (fun q hq => (World.ownsRow.lt O3.out q hq).1)
                      refine ⟨KW.out _ HU4.out, ?_⟩
                      have hHeld := KW.out _ HU4.out
                      clear ho4 hg4
                      simp only [Act.put, List.setIfInBounds_toArray, List.set_cons_zero, List.set_cons_succ]
                      refine wpAnyH_ready (rs := [12]) (by kernel_rfl) (by simp) ?_
                      refine node_f76 72 60 66 70 71 _ _ _ _ rfl (by rfl) rfl rfl rfl rfl rfl rfl ((IHB.out ov (.slice ya yn yc) usr _ u4 (HBr.out.trans (HU4.out.mono HBr.out.size)) (ownLL_below HLr.out HU4.out) (ownV_mono O4.out (Nat.zero_le _)) HLB.out).mono ?_) AllReadyH.nil
                      · rintro e u5 ⟨v7, us7, rfl, hl7, ho7⟩
                        have HL7 := hid hl7
                        have HO7 := hid (Out.trans (Out.below ov HU4.out) ho7)
                        have hHeld := cells3_of (Out.box HO7.out HLr.out.2.1 HZr.out)
                        refine ⟨_, rfl, hHeld, ?_⟩
                        clear hl7 ho7
                        simp only [Act.put, List.setIfInBounds_toArray, List.set_cons_zero, List.set_cons_succ]
                        refine take_at (i := 13) 3 (v := v7) rfl (by kernel_rfl) (by kernel_rfl) (by kernel_rfl) rfl (fun _ _ _ h => h) (by rfl) (fun w hSw => ?_) hHeld ?_
                        · (try dsimp only at hSw); go_simp
                        simp only [Act.put, List.setIfInBounds_toArray, List.set_cons_zero, List.set_cons_succ]
                        refine wpAnyH_done (by kernel_rfl) ?_ _
                        clear hHeld
                        generalize u5 = wn at *
                        go_wp2_with fail
                        go_roundw
                        case rel => exact ⟨b + 1, us7, by go_num, by omega, by omega, by rw [HFS.out]; exact HL7.out, Out.ints HO7.out HLr.out.2.1 HWr.out, Out.box HO7.out HLr.out.2.1 HZr.out, Out.trans HOr.out HO7.out, Out.to_below HO7.out HBr.out HLr.out.2.1 HBr.out.size⟩
                        case measure => simp [intOf]; omega
              refine node_build24 65 64 (b : Int) rfl (by rfl) rfl rfl rfl (KW.out _ (Below.alloc HU0.out (Below.size HU0.out) _)) (fun hHeld => ?_) AllReadyH.nil
              · have HU1 := hid (Below.alloc HU0.out (Below.size HU0.out) (.cells #[.int .i64 (b : Int)] 3))
                have GB1 := hid (heap_alloc_new u0 (.cells #[.int .i64 (b : Int)] 3))
                obtain ⟨u1, hu⟩ : ∃ v, v = u0.alloc (.cells #[.int .i64 (b : Int)] 3) := ⟨_, rfl⟩
                obtain ⟨b9, hb9⟩ : ∃ b, b = u0.heap.size := ⟨_, rfl⟩
                rw [← hu] at HU1 GB1 ⊢
                rw [← hb9] at GB1 ⊢
                replace hHeld := KW.out _ HU1.out
                clear hu hb9
                simp only [Act.put, List.setIfInBounds_toArray, List.set_cons_zero, List.set_cons_succ]
                refine wpAnyH_ready (rs := [1]) (by kernel_rfl) (by simp) ?_
                refine node_none24 61 rfl rfl rfl rfl (KW.out _ (Below.alloc HU1.out (Below.size HU1.out) _)) (fun hHeld => ?_) AllReadyH.nil
                · have HU2 := hid (Below.alloc HU1.out (Below.size HU1.out) (.cells #[] 3))
                  have GA2 := hid (heap_alloc_new u1 (.cells #[] 3))
                  have GB2 := hid ((Below.heap_alloc u1 (.cells #[] 3) b9 (heap_lt GB1.out)).trans GB1.out)
                  obtain ⟨u2, hu⟩ : ∃ v, v = u1.alloc (.cells #[] 3) := ⟨_, rfl⟩
                  obtain ⟨b0, hb0⟩ : ∃ b, b = u1.heap.size := ⟨_, rfl⟩
                  have NE : Hid (b9 ≠ b0) := by have := heap_lt GB1.out; show _ ≠ _; omega
                  have HB0 : Hid (wr.heap.size ≤ b0) := by rw [hb0]; exact HU1.out.size
                  rw [← hu] at HU2 GA2 GB2 ⊢
                  rw [← hb0] at GA2 ⊢
                  replace hHeld := KW.out _ HU2.out
                  clear hu hb0
                  simp only [Act.put, List.setIfInBounds_toArray, List.set_cons_zero, List.set_cons_succ]
                  refine wpAnyH_ready (rs := [3]) (by kernel_rfl) (by simp) ?_
                  refine node_app24n 63 wr.heap.size 61 62 (.slice (some ⟨b0, 0, none⟩) 0 0) [] (.slice (some ⟨wg, 0, none⟩) m wc) m WX rfl rfl rfl rfl rfl rfl (RW.out _ HU2.out) (row_of_block (size := 1) GA2.out HB0.out) HU2.out.size ⟨Nat.zero_le _, HM6.out⟩ ?_ AllReadyH.nil
                  · intro v4 u3 ho4 hg4
                    have O3 := hid ho4
                    have HU3 : Hid (Below wr.heap.size wr u3) := HU2.out.grown hg4 HU2.out.size (fun q hq => (World.ownsRow.lt (row_of_block (size := 1) GA2.out HB0.out) q hq).1)
                    have GB3 := hid ((hg4.block b9 (heap_lt GB2.out) (by intro e; simp [Value.ownBlock] at e; first | exact NE.out e | exact NE.out e.symm)).trans GB2.out)
                    refine ⟨KW.out _ HU3.out, ?_⟩
                    have hHeld := KW.out _ HU3.out
                    clear ho4 hg4
                    simp only [Act.put, List.setIfInBounds_toArray, List.set_cons_zero, List.set_cons_succ]
                    refine wpAnyH_ready (rs := [6]) (by kernel_rfl) (by simp) ?_
                    refine node_app24n 66 wr.heap.size 63 65 v4 ([] ++ WX) (.slice (some ⟨b9, 0, none⟩) 1 1) 1 [.int .i64 (b : Int)] rfl rfl rfl rfl rfl rfl (rd_oneI GB3.out) O3.out HU3.out.size ⟨LEN1.out, by decide⟩ ?_ AllReadyH.nil
                    · intro v10 u4 ho4 hg4
                      rw [HSN.out] at ho4
                      obtain ⟨ya, yn, yc, rfl⟩ := ownV_sh ho4
                      have O4 := hid ho4
                      have HU4 : Hid (Below wr.heap.size wr u4) := HU3.out.grown hg4 HU3.out.size (fun q hq => (World.ownsRow.lt O3.out q hq).1)
                      refine ⟨KW.out _ HU4.out, ?_⟩
                      have hHeld := KW.out _ HU4.out
                      clear ho4 hg4
                      simp only [Act.put, List.setIfInBounds_toArray, List.set_cons_zero, List.set_cons_succ]
                      refine wpAnyH_ready (rs := [12]) (by kernel_rfl) (by simp) ?_
                      refine node_f76 72 60 66 70 71 _ _ _ _ rfl (by rfl) rfl rfl rfl rfl rfl rfl ((IHB.out ov (.slice ya yn yc) usr _ u4 (HBr.out.trans (HU4.out.mono HBr.out.size)) (ownLL_below HLr.out HU4.out) (ownV_mono O4.out (Nat.zero_le _)) HLB.out).mono ?_) AllReadyH.nil
                      · rintro e u5 ⟨v7, us7, rfl, hl7, ho7⟩
                        have HL7 := hid hl7
                        have HO7 := hid (Out.trans (Out.below ov HU4.out) ho7)
                        have hHeld := cells3_of (Out.box HO7.out HLr.out.2.1 HZr.out)
                        refine ⟨_, rfl, hHeld, ?_⟩
                        clear hl7 ho7
                        simp only [Act.put, List.setIfInBounds_toArray, List.set_cons_zero, List.set_cons_succ]
                        refine take_at (i := 13) 3 (v := v7) rfl (by kernel_rfl) (by kernel_rfl) (by kernel_rfl) rfl (fun _ _ _ h => h) (by rfl) (fun w hSw => ?_) hHeld ?_
                        · (try dsimp only at hSw); go_simp
                        simp only [Act.put, List.setIfInBounds_toArray, List.set_cons_zero, List.set_cons_succ]
                        refine wpAnyH_done (by kernel_rfl) ?_ _
                        clear hHeld
                        generalize u5 = wn at *
                        go_wp2_with fail
                        go_roundw
                        case rel => exact ⟨b + 1, us7, by go_num, by omega, by omega, by rw [HFS.out]; exact HL7.out, Out.ints HO7.out HLr.out.2.1 HWr.out, Out.box HO7.out HLr.out.2.1 HZr.out, Out.trans HOr.out HO7.out, Out.to_below HO7.out HBr.out HLr.out.2.1 HBr.out.size⟩
                        case measure => simp [intOf]; omega
        · have hbe : b = d.n := by omega
          have HF : Hid (OwnLL wr w0.heap.size ov usr (Ls ++ d.rgs hh (k + 1) l)) := by
            have h := HLr.out
            rw [hbe] at h
            rw [HRG.out]
            exact h
          clear HLr
          go_wp2_with fail
          go_ret
          exact ⟨_, _, rfl, HF.out, HOr.out⟩
end Go.Proofs.Ytaedbkdimpdngaa
