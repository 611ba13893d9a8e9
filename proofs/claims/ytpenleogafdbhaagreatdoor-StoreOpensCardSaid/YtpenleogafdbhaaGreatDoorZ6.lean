/-
  The bytes of changes.
  Small functions of the store.
  Ready or not.
-/
import Derived.Test.YtpenleogafdbhaaGreatDoorZ5
import Derived.Lib.AppendStr
namespace Go.Proofs.YtpenleogafdbhaaGreatDoor
open Go.RowKit Go.Maps Go.ChangeMaps Go.WideElems Go.WideShapes Go.WideAt Go.WideMaps
theorem strCells_bv (s : ByteArray) : Go.Lib.strCells s = s.data.toList.map bv := rfl
theorem wpl_app_str {ops : Array Oper} {rest : List Oper} {o : Oper} {a : Act} {Q : Exit → Act → World → Prop} {w : World} (hgd : o.guard = none) (sl x : Operand)
    (ho : o.op = .call { callee := .builtin .append, args := #[sl, x], argTypes := #[59, 9] }) (B : Nat) (v : Value) (xs : Bs) (hs : a.eval sl = v) (hown : OwnV w B 5 v (xs.map bv)) (s : ByteArray) (hx : a.eval x = .string s)
    (hl1 : xs.length ≤ 10000000) (hl2 : s.size ≤ 10000000) (hB : B ≤ w.heap.size)
    (h : ∀ v' w', OwnV w' B 5 v' ((xs ++ s.data.toList).map bv) → w.grownBy w' v.ownBlock → wpList Tryz.prog ops Q rest (a.put o.dst v') w') : wpList Tryz.prog ops Q (o :: rest) a w := by
  cases hi0 : Tryz.prog.info? 5 with
  | none => have := info5; rw [hi0] at this; cases this
  | some i =>
    have hi := info5
    rw [hi0] at hi
    simp only [Option.map_some, Option.some.injEq, Prod.mk.injEq] at hi
    obtain ⟨h1, h2, h3⟩ := hi
    have hmx : (9223372036854775807 : Nat) = maxLen := rfl
    refine Go.Lib.wpList_append_own_string w hgd sl x 59 9 ho B 5 i Tryz.underlying59 Tryz.underlying9 hi0 h1 h2 h3 v (xs.map bv).length (xs.map bv) hs hown s hx (by rw [List.length_map, ← hmx]; omega) (by rw [List.length_map]; omega) hB ?_
    intro v' w' r1 r2 _
    refine h v' w' ?_ r2
    rw [List.map_append]
    have e : (xs.map bv).length + s.size = (xs.map bv ++ s.data.toList.map bv).length := by rw [List.length_append, List.length_map, List.length_map]; rfl
    rw [e, strCells_bv] at r1
    exact r1
theorem bytesAt2 (w : World) (a b : UInt8) : BytesAt (w.alloc (.cells #[bv a, bv b] 5)) ⟨w.heap.size, 0, none⟩ [a, b] := by
  obtain ⟨h0, h1⟩ := cells2_of (heap_alloc_new w (.cells #[bv a, bv b] 5))
  intro j u hj
  have hadd : (⟨w.heap.size, 0, none⟩ : Addr).add j = ⟨w.heap.size, j, none⟩ := by unfold Addr.add; split <;> simp_all
  rw [hadd]
  match j, hj with
  | 0, hj => exact h0.trans hj
  | 1, hj => exact h1.trans hj
theorem bytesAt1 (w : World) (a : UInt8) : BytesAt (w.alloc (.cells #[bv a] 5)) ⟨w.heap.size, 0, none⟩ [a] := by
  have h0 := box1 (heap_alloc_new w (.cells #[bv a] 5))
  intro j u hj
  have hadd : (⟨w.heap.size, 0, none⟩ : Addr).add j = ⟨w.heap.size, j, none⟩ := by unfold Addr.add; split <;> simp_all
  rw [hadd]
  match j, hj with
  | 0, hj => exact h0.trans hj
/-- where the bytes of a change stand -/
structure Wr (w0 W : World) (X B : Nat) (xs : Bs) (v : Value) (kx vx : ByteArray) (d : Bool) : Prop where
  own : OwnV W B 5 v (xs.map bv)
  cell : W.heap[X]? = some (.cells #[.string kx, .string vx, .bool d] 39)
  below : Below B w0 W
theorem Wr.alloc {w0 W : World} {X B : Nat} {xs : Bs} {v : Value} {kx vx : ByteArray} {d : Bool} (h : Wr w0 W X B xs v kx vx d) (o : Obj) (hB : B ≤ w0.heap.size) : Wr w0 (W.alloc o) X B xs v kx vx d :=
  ⟨ownV_below h.own (ba _ _), ((ba W o).block X (heap_lt h.cell)).trans h.cell, h.below.alloc (Nat.le_trans hB h.below.size) _⟩
theorem Wr.app {w0 W W' : World} {X B : Nat} {xs ys : Bs} {v v' : Value} {kx vx : ByteArray} {d : Bool} (h : Wr w0 W X B xs v kx vx d) (ho : OwnV W' B 5 v' (ys.map bv)) (hg : W.grownBy W' v.ownBlock) (hB : B ≤ w0.heap.size) : Wr w0 W' X B ys v' kx vx d :=
  ⟨ho, (hg.block X (heap_lt h.cell) fun e => by
    obtain ⟨cs, hcs⟩ := row_type h.own X e.symm
    rw [h.cell] at hcs
    simp at hcs).trans h.cell, h.below.grown hg (Nat.le_trans hB h.below.size) fun j hj => (ownV_lt h.own j hj).1⟩
theorem ch_bytes_len (x : Ch) (h : x.key.length ≤ 1000 ∧ x.val.length ≤ 1000) : x.bytes.length ≤ 2003 := by
  unfold Ch.bytes
  split <;> simp <;> omega
theorem chBytes_len : ∀ (l : List Ch), (∀ x ∈ l, x.key.length ≤ 1000 ∧ x.val.length ≤ 1000) → (chBytes l).length ≤ 2003 * l.length
  | [], _ => Nat.le_refl _
  | x :: r, h => by
    have h1 := ch_bytes_len x (h x List.mem_cons_self)
    have h2 := chBytes_len r fun y hy => h y (List.mem_cons_of_mem _ hy)
    unfold chBytes at h2 ⊢
    rw [List.flatMap_cons, List.length_append, List.length_cons]
    omega
set_option maxRecDepth 100000 in
set_option maxHeartbeats 8000000 in
theorem chBytes_any (v : Value) (l : List Ch) (w : World) (hv : IsCh w v l) (hn400 : l.length ≤ 1000) :
    Calls Tryz.prog 79 #[v] w fun e w' => ∃ v', e = .returned v' ∧ OwnV w' w.heap.size 5 v' ((chBytes l).map bv) ∧ Below w.heap.size w w' := by
  have HV := hid hv
  obtain ⟨p, c, rfl, hl, HS, -⟩ := hv
  obtain ⟨n, hn⟩ : ∃ n, n = l.length := ⟨_, rfl⟩
  have HN := hid hn
  rw [← hn] at hl HV hn400 ⊢
  have HSS : Hid (∀ x ∈ l, x.key.length ≤ 1000 ∧ x.val.length ≤ 1000) := hid HS
  clear hn HS
  go_enter Tryz.func79, Tryz.ntmps79
  go_wp2_with fail
  go_loopw [3, 9] (fun sv kv wr => ∃ k : Nat, kv = .int .i64 (k : Int) ∧ k ≤ n ∧ (∃ a b c, sv = .slice a b c) ∧ Hid (OwnV wr w.heap.size 5 sv ((chBytes (l.take k)).map bv)) ∧ Hid (Below w.heap.size w wr)) (fun _ kv _ => n - (intOf kv).toNat)
  case atStart => exact ⟨0, rfl, Nat.zero_le _, ⟨_, _, _, rfl⟩, hid (ownV_nil _ _ _), Below.refl _ _⟩
  case round =>
    obtain ⟨k, rfl, hk, ⟨sa, sn, sc, rfl⟩, HOr, HBr⟩ := hrel
    rename World => wr
    by_cases hlt : k < n
    · have hkl : k < l.length := by rw [← HN.out]; exact hlt
      obtain ⟨x, hx⟩ : ∃ x, l[k]? = some x := ⟨_, List.getElem?_eq_getElem hkl⟩
      have HX := hid hx
      obtain ⟨p', c', hv', _, _, hcell⟩ := HV.out.below HBr.out
      obtain ⟨g, hp, c0, c1, c2⟩ := hcell k x hx
      injection hv' with e1 e2 e3
      subst e1
      subst hp
      clear e2 e3 hcell hx
      have KD := hid kinds_any
      have hix0 := ix0
      have hix1 := ix1
      have hx0 := heap_alloc_new wr (.cells #[.string (str x.key), .string (str x.val), .bool x.del] 39)
      have HX0 := hid hx0
      have HB1 : Hid (Below wr.heap.size wr (wr.alloc (.cells #[.string (str x.key), .string (str x.val), .bool x.del] 39))) := hid (ba wr _)
      clear hx0
      have hks : x.key.length ≤ 1000 ∧ x.val.length ≤ 1000 := HSS.out x (List.mem_of_getElem? HX.out)
      have HKS := hid hks
      have HCL : Hid ((chBytes (l.take k)).length ≤ 2003 * 1000) := hid (by
        have h1 := chBytes_len (l.take k) fun y hy => HSS.out y (List.mem_of_mem_take hy)
        have h2 : (l.take k).length ≤ k := by rw [List.length_take]; omega
        have h3 : 2003 * (l.take k).length ≤ 2003 * 1000 := Nat.mul_le_mul_left _ (by omega)
        omega)
      have HTK : Hid (chBytes (l.take (k + 1)) = chBytes (l.take k) ++ x.bytes) := hid (by
        have : l.take (k + 1) = l.take k ++ [x] := by
          have := HX.out
          rw [List.take_add_one, this]; rfl
        rw [this]
        unfold chBytes
        rw [List.flatMap_append]
        simp)
      clear hks
      go_wp2_with fail
      generalize wr.alloc (.cells #[.string (str x.key), .string (str x.val), .bool x.del] 39) = w1 at *
      go_at_call 135
      refine (KD.out w1).mono ?_
      rintro e w2 ⟨rfl, hb2⟩
      have HX2 := hid ((hb2.block _ (heap_lt HX0.out)).trans HX0.out)
      have HB2 := hid (below_step HB1.out hb2)
      clear hb2
      cases hdel : x.del with
      | false =>
        have HDEL := hid hdel
        clear hdel
        go_upto_region 6 with fail
        have HX3 := hid (((ba w2 (.cells #[.int .u8 61, .func (.func 163) #[] #[]] 193)).block _ (heap_lt HX2.out)).trans HX2.out)
        have HY3 := hid (heap_alloc_new w2 (.cells #[.int .u8 61, .func (.func 163) #[] #[]] 193))
        have HB3 := hid (below_step HB2.out (ba w2 (.cells #[.int .u8 61, .func (.func 163) #[] #[]] 193)))
        have HSZ2 : Hid (wr.heap.size < w2.heap.size) := hid (heap_lt HX2.out)
        have HSY : Hid (w2.heap.size < (w2.alloc (.cells #[.int .u8 61, .func (.func 163) #[] #[]] 193)).heap.size) := hid (heap_lt HY3.out)
        obtain ⟨y0, y1, y2⟩ := cells3_of HX3.out
        rw [HDEL.out] at y2
        obtain ⟨z0, z1⟩ := cells2_of HY3.out
        generalize w2.alloc (.cells #[.int .u8 61, .func (.func 163) #[] #[]] 193) = w3 at *
        obtain ⟨Y, hY⟩ : ∃ Y, Y = w2.heap.size := ⟨_, rfl⟩
        rw [← hY] at z0 z1 HY3 HSZ2 HSY ⊢
        clear hY
        have hcx := HX3.out
        try rw [HDEL.out] at hcx
        have R0 : Hid (Wr w w3 wr.heap.size w.heap.size (chBytes (l.take k)) (.slice sa sn sc) (str x.key) (str x.val) false) := hid ⟨ownV_below HOr.out HB3.out, hcx, HBr.out.trans (HB3.out.mono HBr.out.size)⟩
        clear hcx
        obtain ⟨kl, hkl⟩ : ∃ kl, kl = UInt8.ofNat x.key.length := ⟨_, rfl⟩
        obtain ⟨vl, hvl⟩ : ∃ vl, vl = UInt8.ofNat (List.length (α := UInt8) x.val) := ⟨_, rfl⟩
        have hk8 : ((str x.key).size : Int) % 256 = (kl.toNat : Int) := by rw [hkl, str_size, UInt8.toNat_ofNat']; omega
        have hv8 : ((str x.val).size : Int) % 256 = (vl.toNat : Int) := by rw [hvl, str_size, UInt8.toNat_ofNat']; omega
        have HKE := hid hkl
        have HVE := hid hvl
        have hk1000 : x.key.length ≤ 1000 := HKS.out.1
        have hv1000 : (str x.val).size ≤ 1000 := by rw [str_size]; first | exact HKS.out.2 | exact Nat.zero_le _
        have hs1000 : (str x.key).size ≤ 1000 := by rw [str_size]; exact hk1000
        clear hkl hvl
        go_wp2_with (first
          | (at_builtin; refine wpl_app_b rfl _ _ rfl w.heap.size (.slice sa sn sc) (chBytes (l.take k)) [61, kl] rfl (ownV_below R0.out.own (ba _ _)) ⟨w3.heap.size, 0, none⟩ 2 2 rfl rfl (bytesAt2 w3 61 kl) (by have := HCL.out; omega) (show 2 ≤ 10000000 by decide) (Nat.le_trans R0.out.below.size (ba _ _).size) ?_; intro v5 w5 ho5 hg5 hl5; have R1 := hid ((R0.out.alloc _ (Nat.le_refl _)).app ho5 hg5 (Nat.le_refl _)); obtain ⟨q0, q1, q2⟩ := cells3_of R1.out.cell; obtain ⟨a5, n5, c5, rfl⟩ := ownV_sh ho5; clear ho5 hg5 hl5)
          | (at_builtin; refine wpl_app_str rfl _ _ rfl w.heap.size (.slice a5 n5 c5) _ rfl R1.out.own (str x.key) rfl (by have := HCL.out; simp; omega) (by omega) R1.out.below.size ?_; intro v6 w6 ho6 hg6; have R2 := hid (R1.out.app ho6 hg6 (Nat.le_refl _)); obtain ⟨r0, r1, r2⟩ := cells3_of R2.out.cell; obtain ⟨a6, n6, c6, rfl⟩ := ownV_sh ho6; clear ho6 hg6)
          | (at_builtin; refine wpl_app_b rfl _ _ rfl w.heap.size (.slice a6 n6 c6) _ [vl] rfl (ownV_below R2.out.own (ba _ _)) ⟨w6.heap.size, 0, none⟩ 1 1 rfl rfl (bytesAt1 w6 vl) (by have := HCL.out; have := str_size x.key; simp; omega) (show 1 ≤ 10000000 by decide) (Nat.le_trans R2.out.below.size (ba _ _).size) ?_; intro v7 w7 ho7 hg7 hl7; have R3 := hid ((R2.out.alloc _ (Nat.le_refl _)).app ho7 hg7 (Nat.le_refl _)); obtain ⟨s0, s1, s2⟩ := cells3_of R3.out.cell; obtain ⟨a7, n7, c7, rfl⟩ := ownV_sh ho7; clear ho7 hg7 hl7)
          | (at_builtin; refine wpl_app_str rfl _ _ rfl w.heap.size (.slice a7 n7 c7) _ rfl R3.out.own (str x.val) rfl (by have := HCL.out; have := str_size x.key; simp; omega) (by omega) R3.out.below.size ?_; intro v8 w8 ho8 hg8; have R4 := hid (R3.out.app ho8 hg8 (Nat.le_refl _)); obtain ⟨a8, n8, c8, rfl⟩ := ownV_sh ho8; clear ho8 hg8)
          | fail)
        go_roundw
        case rel =>
          refine ⟨k + 1, by go_num, by omega, ⟨_, _, _, rfl⟩, hid ?_, hid R4.out.below⟩
          have h := R4.out.own
          rw [HTK.out]
          have e : x.bytes = [61, kl] ++ x.key ++ (vl :: x.val) := by
            unfold Ch.bytes
            rw [HDEL.out, HKE.out, HVE.out]
            rfl
          rw [e]
          rw [show chBytes (l.take k) ++ ([61, kl] ++ x.key ++ (vl :: x.val)) = chBytes (l.take k) ++ [61, kl] ++ (str x.key).data.toList ++ [vl] ++ (str x.val).data.toList by rw [str_list, str_list]; simp]
          exact h
        case measure => simp [intOf]; omega
      | true =>
        have HDEL := hid hdel
        clear hdel
        go_upto_region 6 with fail
        have HX3 := hid (((ba w2 (.cells #[.int .u8 61, .func (.func 163) #[] #[]] 193)).block _ (heap_lt HX2.out)).trans HX2.out)
        have HY3 := hid (heap_alloc_new w2 (.cells #[.int .u8 61, .func (.func 163) #[] #[]] 193))
        have HB3 := hid (below_step HB2.out (ba w2 (.cells #[.int .u8 61, .func (.func 163) #[] #[]] 193)))
        have HSZ2 : Hid (wr.heap.size < w2.heap.size) := hid (heap_lt HX2.out)
        have HSY : Hid (w2.heap.size < (w2.alloc (.cells #[.int .u8 61, .func (.func 163) #[] #[]] 193)).heap.size) := hid (heap_lt HY3.out)
        obtain ⟨y0, y1, y2⟩ := cells3_of HX3.out
        rw [HDEL.out] at y2
        obtain ⟨z0, z1⟩ := cells2_of HY3.out
        generalize w2.alloc (.cells #[.int .u8 61, .func (.func 163) #[] #[]] 193) = w3 at *
        obtain ⟨Y, hY⟩ : ∃ Y, Y = w2.heap.size := ⟨_, rfl⟩
        rw [← hY] at z0 z1 HY3 HSZ2 HSY ⊢
        clear hY
        have f3 := free_of HX3.out 1
        go_wp2_with fail
        go_at_call 135
        have HXs := hid (modify_at (off := 1) (v := .string ⟨#[]⟩) HX3.out)
        have HYs := hid ((set_other (w := w3) (a := ⟨wr.heap.size, 1, none⟩) (v := .string ⟨#[]⟩) (Nat.ne_of_gt HSZ2.out)).trans HY3.out)
        have HBs : Hid (Below wr.heap.size wr (w3.setCell ⟨wr.heap.size, 1, none⟩ (.string ⟨#[]⟩))) := hid (below_set HB3.out (Nat.le_refl _))
        refine (KD.out _).mono ?_
        rintro e w4 ⟨rfl, hb4⟩
        have HX4 := hid ((hb4.block _ (heap_lt HXs.out)).trans HXs.out)
        have HY4 := hid ((hb4.block _ (heap_lt HYs.out)).trans HYs.out)
        have HB4 := hid (below_step HBs.out hb4)
        obtain ⟨u0, u1⟩ := cells2_of HY4.out
        have g0 := free_of HY4.out 0
        have g1 := free_of HY4.out 1
        clear hb4 y0 y1 y2 z0 z1
        go_upto_region 9 with fail
        have HB5 : Hid (Below wr.heap.size wr ((w4.setCell ⟨Y, 0, none⟩ (.int .u8 45)).setCell ⟨Y, 1, none⟩ (.func (.func 164) #[] #[]))) := hid (below_set (below_set HB4.out (Nat.le_of_lt HSZ2.out)) (Nat.le_of_lt HSZ2.out))
        have HX5 : Hid (((w4.setCell ⟨Y, 0, none⟩ (.int .u8 45)).setCell ⟨Y, 1, none⟩ (.func (.func 164) #[] #[])).heap[wr.heap.size]? = some (.cells #[.string (str x.key), .string (str []), .bool x.del] 39)) := hid (((set_other (Nat.ne_of_lt HSZ2.out)).trans (set_other (Nat.ne_of_lt HSZ2.out))).trans HX4.out)
        have HY5 : Hid (((w4.setCell ⟨Y, 0, none⟩ (.int .u8 45)).setCell ⟨Y, 1, none⟩ (.func (.func 164) #[] #[])).heap[Y]? = some (.cells #[.int .u8 45, .func (.func 164) #[] #[]] 193)) := hid (by rw [modify_at (modify_at HY4.out)]; rfl)
        generalize (w4.setCell ⟨Y, 0, none⟩ (.int .u8 45)).setCell ⟨Y, 1, none⟩ (.func (.func 164) #[] #[]) = wz at *
        obtain ⟨y0, y1, y2⟩ := cells3_of HX5.out
        obtain ⟨z0, z1⟩ := cells2_of HY5.out
        have hcx := HX5.out
        try rw [HDEL.out] at hcx
        have R0 : Hid (Wr w wz wr.heap.size w.heap.size (chBytes (l.take k)) (.slice sa sn sc) (str x.key) (str []) true) := hid ⟨ownV_below HOr.out HB5.out, hcx, HBr.out.trans (HB5.out.mono HBr.out.size)⟩
        clear hcx
        obtain ⟨kl, hkl⟩ : ∃ kl, kl = UInt8.ofNat x.key.length := ⟨_, rfl⟩
        obtain ⟨vl, hvl⟩ : ∃ vl, vl = UInt8.ofNat (List.length (α := UInt8) []) := ⟨_, rfl⟩
        have hk8 : ((str x.key).size : Int) % 256 = (kl.toNat : Int) := by rw [hkl, str_size, UInt8.toNat_ofNat']; omega
        have hv8 : ((str []).size : Int) % 256 = (vl.toNat : Int) := by rw [hvl, str_size, UInt8.toNat_ofNat']; omega
        have HKE := hid hkl
        have HVE := hid hvl
        have hk1000 : x.key.length ≤ 1000 := HKS.out.1
        have hv1000 : (str []).size ≤ 1000 := by rw [str_size]; first | exact HKS.out.2 | exact Nat.zero_le _
        have hs1000 : (str x.key).size ≤ 1000 := by rw [str_size]; exact hk1000
        clear hkl hvl
        go_wp2_with (first
          | (at_builtin; refine wpl_app_b rfl _ _ rfl w.heap.size (.slice sa sn sc) (chBytes (l.take k)) [45, kl] rfl (ownV_below R0.out.own (ba _ _)) ⟨wz.heap.size, 0, none⟩ 2 2 rfl rfl (bytesAt2 wz 45 kl) (by have := HCL.out; omega) (show 2 ≤ 10000000 by decide) (Nat.le_trans R0.out.below.size (ba _ _).size) ?_; intro v5 w5 ho5 hg5 hl5; have R1 := hid ((R0.out.alloc _ (Nat.le_refl _)).app ho5 hg5 (Nat.le_refl _)); obtain ⟨q0, q1, q2⟩ := cells3_of R1.out.cell; obtain ⟨a5, n5, c5, rfl⟩ := ownV_sh ho5; clear ho5 hg5 hl5)
          | (at_builtin; refine wpl_app_str rfl _ _ rfl w.heap.size (.slice a5 n5 c5) _ rfl R1.out.own (str x.key) rfl (by have := HCL.out; simp; omega) (by omega) R1.out.below.size ?_; intro v6 w6 ho6 hg6; have R2 := hid (R1.out.app ho6 hg6 (Nat.le_refl _)); obtain ⟨r0, r1, r2⟩ := cells3_of R2.out.cell; obtain ⟨a6, n6, c6, rfl⟩ := ownV_sh ho6; clear ho6 hg6)
          | (at_builtin; refine wpl_app_b rfl _ _ rfl w.heap.size (.slice a6 n6 c6) _ [vl] rfl (ownV_below R2.out.own (ba _ _)) ⟨w6.heap.size, 0, none⟩ 1 1 rfl rfl (bytesAt1 w6 vl) (by have := HCL.out; have := str_size x.key; simp; omega) (show 1 ≤ 10000000 by decide) (Nat.le_trans R2.out.below.size (ba _ _).size) ?_; intro v7 w7 ho7 hg7 hl7; have R3 := hid ((R2.out.alloc _ (Nat.le_refl _)).app ho7 hg7 (Nat.le_refl _)); obtain ⟨s0, s1, s2⟩ := cells3_of R3.out.cell; obtain ⟨a7, n7, c7, rfl⟩ := ownV_sh ho7; clear ho7 hg7 hl7)
          | (at_builtin; refine wpl_app_str rfl _ _ rfl w.heap.size (.slice a7 n7 c7) _ rfl R3.out.own (str []) rfl (by have := HCL.out; have := str_size x.key; simp; omega) (by omega) R3.out.below.size ?_; intro v8 w8 ho8 hg8; have R4 := hid (R3.out.app ho8 hg8 (Nat.le_refl _)); obtain ⟨a8, n8, c8, rfl⟩ := ownV_sh ho8; clear ho8 hg8)
          | fail)
        go_roundw
        case rel =>
          refine ⟨k + 1, by go_num, by omega, ⟨_, _, _, rfl⟩, hid ?_, hid R4.out.below⟩
          have h := R4.out.own
          rw [HTK.out]
          have e : x.bytes = [45, kl] ++ x.key ++ (vl :: []) := by
            unfold Ch.bytes
            rw [HDEL.out, HKE.out, HVE.out]
            rfl
          rw [e]
          rw [show chBytes (l.take k) ++ ([45, kl] ++ x.key ++ (vl :: [])) = chBytes (l.take k) ++ [45, kl] ++ (str x.key).data.toList ++ [vl] ++ (str []).data.toList by rw [str_list, str_list]; simp]
          exact h
        case measure => simp [intOf]; omega
    · obtain rfl : k = n := by omega
      go_wp2_with fail
      go_ret
      have h := HOr.out
      rw [List.take_of_length_le (by rw [← HN.out]; exact Nat.le_refl _)] at h
      exact ⟨_, rfl, h, HBr.out⟩
end Go.Proofs.YtpenleogafdbhaaGreatDoor

namespace Go.Proofs.YtpenleogafdbhaaGreatDoor
open Go.RowKit Go.Maps Go.ChangeMaps Go.WideElems Go.WideShapes Go.WideAt Go.WideMaps
/-- a string's length and emptiness, as the walk asks -/
theorem empty_true {b : Bs} (h : b.length = 0) : ((str b).toList == []) = true := by
  rw [toList_data, str_list, List.eq_nil_of_length_eq_zero h]; rfl
theorem empty_false {b : Bs} (h : b.length ≠ 0) : ((str b).toList == []) = false := by
  rw [toList_data, str_list, beq_eq_false_iff_ne]
  intro e
  exact h (by rw [e]; rfl)
theorem okKV_eq (k v : Bs) : okKV k v = (k.length != 0 && decide (k.length ≤ 16) && decide (v.length ≤ 64)) := rfl
theorem valid_any (k v : Bs) (w : World) : Calls Tryz.prog 75 #[.string (str k), .string (str v)] w fun e w' => e = .returned (.bool (okKV k v)) ∧ w' = w := by
  have hsk := str_size k
  have hsv := str_size v
  go_enter Tryz.func75, Tryz.ntmps75
  by_cases h0 : k.length = 0
  · have he := empty_true h0
    have HR : Hid (okKV k v = false) := hid (by rw [okKV_eq, h0]; rfl)
    clear h0
    go_wp2_with fail
    go_ret
    rw [HR.out]
    exact ⟨rfl, rfl⟩
  · have he := empty_false h0
    have h0b : (k.length != 0) = true := by simpa using h0
    by_cases h1 : k.length ≤ 16
    · have HR : Hid (okKV k v = decide ((v.length : Int) ≤ 64)) := hid (by
        rw [okKV_eq, h0b, decide_eq_true h1, Bool.true_and, Bool.true_and]
        exact decide_eq_decide.2 (by omega))
      clear h0 h0b
      go_wp2_with fail
      go_ret
      rw [HR.out]
      exact ⟨rfl, rfl⟩
    · have HR : Hid (okKV k v = false) := hid (by rw [okKV_eq, decide_eq_false h1]; simp)
      clear h0 h0b
      go_wp2_with fail
      go_ret
      rw [HR.out]
      exact ⟨rfl, rfl⟩
/-- the package's variables that numbers want -/
structure Glb (w : World) : Prop where
  tab : Lib.TabIs Tryz.prog w "internal/strconv.uint64pow10" .u64 Lib.pow10Tab
  ml : ∃ m, w.cell? ⟨3, 0, none⟩ = some (.int .i64 m)
theorem glb2 : Tryz.prog.globalNamed "internal/strconv.uint64pow10" = some 2 := by kernel_rfl
theorem Glb.size {w : World} (h : Glb w) : 3 < w.heap.size := by
  obtain ⟨m, hm⟩ := h.ml
  exact World.block_lt_of_cell? w _ hm
theorem Glb.keep {w w' : World} (h : Glb w) (h2 : w'.heap[2]? = w.heap[2]?) (h3 : w'.heap[3]? = w.heap[3]?) : Glb w' := by
  refine ⟨?_, ?_⟩
  · have h1 := h.tab
    unfold Lib.TabIs World.var? at *
    rw [glb2] at *
    simp only [Option.bind_some] at *
    rw [h2]
    exact h1
  · obtain ⟨m, hm⟩ := h.ml
    exact ⟨m, (cell_same h3).trans hm⟩
theorem Glb.below {w w' : World} (h : Glb w) (hb : Below w.heap.size w w') : Glb w' := h.keep (hb.block 2 (by have := h.size; omega)) (hb.block 3 h.size)
theorem Glb.chg {w w' : World} {F : Fp} (h : Glb w) (hc : Chg F w w') (hF : ∀ k, F k → 4 ≤ k) : Glb w' := h.keep (hc.block 2 (by have := h.size; omega) fun hf => by have := hF _ hf; omega) (hc.block 3 h.size fun hf => by have := hF _ hf; omega)
theorem below_of_grow {w w' : World} (h : ∃ k os, w' = Sort.grow (w.drewN k) os) : Below w.heap.size w w' := by
  obtain ⟨k, os, rfl⟩ := h
  refine ⟨rfl, rfl, rfl, ?_, fun j hj => ?_⟩
  · rw [Sort.size_grow]
    exact Nat.le_add_right _ _
  · exact Sort.heap_grow_old (w.drewN k) os hj
/-- a number in decimal -/
theorem itoa_any (n : Nat) (hn : n < 100000000) (w : World) (hG : Glb w) : Calls Tryz.prog 126 #[.int .i64 (n : Int)] w fun e w' => e = .returned (.string (str (itoa n))) ∧ Below w.heap.size w w' := by
  refine (Tryz.strconv_Itoa n (by omega) (by omega) w hG.tab).mono ?_
  rintro e w' ⟨rfl, h⟩
  rw [Lib.itoa_nonneg]
  exact ⟨rfl, below_of_grow h⟩
theorem logFile_any (n : Nat) (w : World) (hn : n < 100000000) (hG : Glb w) : Calls Tryz.prog 67 #[.int .i64 (n : Int)] w fun e w' => e = .returned (.string (str (nLog n))) ∧ Below w.heap.size w w' := by
  have HI := hid (itoa_any n hn w hG)
  have hl : (itoa n).length ≤ 8 := itoa_len hn
  have hsz : (str (itoa n)).size ≤ 8 := by rw [str_size]; exact hl
  go_enter Tryz.func67, Tryz.ntmps67
  go_wp2_with (first | (go_at_call 126; refine HI.out.mono ?_; rintro e w1 ⟨rfl, hb1⟩; have HB := hid hb1; clear hb1) | fail)
  go_ret
  refine ⟨?_, HB.out⟩
  congr 2
theorem runFile_any (n : Nat) (w : World) (hn : n < 100000000) (hG : Glb w) : Calls Tryz.prog 69 #[.int .i64 (n : Int)] w fun e w' => e = .returned (.string (str (nRun n))) ∧ Below w.heap.size w w' := by
  have HI := hid (itoa_any n hn w hG)
  have hl : (itoa n).length ≤ 8 := itoa_len hn
  have hsz : (str (itoa n)).size ≤ 8 := by rw [str_size]; exact hl
  go_enter Tryz.func69, Tryz.ntmps69
  go_wp2_with (first | (go_at_call 126; refine HI.out.mono ?_; rintro e w1 ⟨rfl, hb1⟩; have HB := hid hb1; clear hb1) | fail)
  go_ret
  refine ⟨?_, HB.out⟩
  congr 2
/-- the cells of a store -/
def stc (dp : Nat) (tn : Int) (bk : Bool) (a3 a4 a5 a6 a7 a8 a9 : Value) : Array Value := #[.pointer (some ⟨dp, 0, none⟩), .int .i64 tn, .bool bk, a3, a4, a5, a6, a7, a8, a9]
theorem stc_of {W : World} {sp dp : Nat} {tn : Int} {bk : Bool} {a3 a4 a5 a6 a7 a8 a9 : Value} {t : TypeId} (h : W.heap[sp]? = some (.cells (stc dp tn bk a3 a4 a5 a6 a7 a8 a9) t)) :
    W.cell? ⟨sp, 0, none⟩ = some (.pointer (some ⟨dp, 0, none⟩)) ∧ W.cell? ⟨sp, 1, none⟩ = some (.int .i64 tn) ∧ W.cell? ⟨sp, 2, none⟩ = some (.bool bk) ∧ W.cell? ⟨sp, 3, none⟩ = some a3 ∧ W.cell? ⟨sp, 4, none⟩ = some a4 ∧ W.cell? ⟨sp, 5, none⟩ = some a5 ∧ W.cell? ⟨sp, 6, none⟩ = some a6 ∧ W.cell? ⟨sp, 7, none⟩ = some a7 ∧ W.cell? ⟨sp, 8, none⟩ = some a8 ∧ W.cell? ⟨sp, 9, none⟩ = some a9 := by
  unfold stc at h
  simp [World.cell?, h]
theorem made_any {sp dp : Nat} {w : World} (h : w.cell? ⟨sp, 0, none⟩ = some (.pointer (some ⟨dp, 0, none⟩))) : Calls Tryz.prog 83 #[.pointer (some ⟨sp, 0, none⟩)] w fun e w' => e = .returned (.bool true) ∧ w' = w := by
  go_enter Tryz.func83, Tryz.ntmps83
  go_wp2_with fail
  go_ret
  exact ⟨rfl, rfl⟩
theorem made_zero {sp : Nat} {w : World} (h : w.cell? ⟨sp, 0, none⟩ = some (.pointer none)) : Calls Tryz.prog 83 #[.pointer (some ⟨sp, 0, none⟩)] w fun e w' => e = .returned (.bool false) ∧ w' = w := by
  go_enter Tryz.func83, Tryz.ntmps83
  go_wp2_with fail
  go_ret
  exact ⟨rfl, rfl⟩
theorem made_nil (w : World) : Calls Tryz.prog 83 #[.pointer none] w fun e w' => e = .returned (.bool false) ∧ w' = w := by
  go_enter Tryz.func83, Tryz.ntmps83
  go_wp2_with fail
  go_ret
  exact ⟨rfl, rfl⟩
theorem broken_any {sp dp : Nat} {bk : Bool} {w : World} (h : w.cell? ⟨sp, 0, none⟩ = some (.pointer (some ⟨dp, 0, none⟩))) (h2 : w.cell? ⟨sp, 2, none⟩ = some (.bool bk)) : Calls Tryz.prog 26 #[.pointer (some ⟨sp, 0, none⟩)] w fun e w' => e = .returned (.bool bk) ∧ w' = w := by
  have HM := hid (made_any h)
  go_enter Tryz.func26, Tryz.ntmps26
  go_wp2_with (first | (go_at_call 83; refine HM.out.mono ?_; rintro e w1 ⟨rfl, hw⟩; obtain rfl := hw.symm) | fail)
  go_ret
  exact ⟨rfl, rfl⟩
theorem disk_any {sp dp : Nat} {w : World} (h : w.cell? ⟨sp, 0, none⟩ = some (.pointer (some ⟨dp, 0, none⟩))) : Calls Tryz.prog 27 #[.pointer (some ⟨sp, 0, none⟩)] w fun e w' => e = .returned (.pointer (some ⟨dp, 0, none⟩)) ∧ w' = w := by
  have HM := hid (made_any h)
  go_enter Tryz.func27, Tryz.ntmps27
  go_wp2_with (first | (go_at_call 83; refine HM.out.mono ?_; rintro e w1 ⟨rfl, hw⟩; obtain rfl := hw.symm) | fail)
  go_ret
  exact ⟨rfl, rfl⟩
/-- the error of an act is noted -/
theorem fail_any {sp dp : Nat} {tn : Int} {bk : Bool} {a3 a4 a5 a6 a7 a8 a9 : Value} (er : Nat) (w : World) (h : w.heap[sp]? = some (.cells (stc dp tn bk a3 a4 a5 a6 a7 a8 a9) 109)) :
    Calls Tryz.prog 141 #[.pointer (some ⟨sp, 0, none⟩), .int .i64 (er : Int)] w fun e w' => e = .returned (.int .i64 (er : Int)) ∧ w'.heap[sp]? = some (.cells (stc dp tn (bk || er == 8) a3 a4 a5 a6 a7 a8 a9) 109) ∧ Chg (fun k => k = sp) w w' := by
  have H := hid h
  obtain ⟨e0, e1, e2, -⟩ := stc_of h
  have f2 := free_of h 2
  clear h
  have fin : Hid (∀ b : Bool, (w.setCell ⟨sp, 2, none⟩ (.bool b)).heap[sp]? = some (.cells (stc dp tn b a3 a4 a5 a6 a7 a8 a9) 109) ∧ Chg (fun k => k = sp) w (w.setCell ⟨sp, 2, none⟩ (.bool b))) := hid fun b => ⟨by rw [modify_at H.out]; rfl, chg_set rfl⟩
  go_enter Tryz.func141, Tryz.ntmps141
  cases bk with
  | true =>
    go_wp2_with fail
    go_ret
    exact ⟨rfl, fin.out true⟩
  | false =>
    by_cases h8 : er = 8
    · subst h8
      go_wp2_with fail
      go_ret
      exact ⟨rfl, fin.out true⟩
    · have hb : ((er : Int) == 8) = false := by simp; omega
      have HE : Hid ((er == 8) = false) := hid (by simpa using h8)
      clear h8
      go_wp2_with fail
      go_ret
      rw [HE.out]
      exact ⟨rfl, fin.out false⟩
end Go.Proofs.YtpenleogafdbhaaGreatDoor

namespace Go.Proofs.YtpenleogafdbhaaGreatDoor
open Go.RowKit Go.Maps Go.ChangeMaps Go.WideElems Go.WideShapes Go.WideAt Go.WideMaps
set_option maxRecDepth 100000 in
set_option maxHeartbeats 4000000 in
/-- functions may do something -/
theorem readyS_any {sp dp mb : Nat} {L : Mp FileR} {d : Dk} {tn : Nat} {bk : Bool} {a3 a4 a5 a6 a7 a8 a9 : Value} (w : World) (h : w.heap[sp]? = some (.cells (stc dp tn bk a3 a4 a5 a6 a7 a8 a9) 109)) (hd : DiskM w dp mb L d) :
    Calls Tryz.prog 76 #[.pointer (some ⟨sp, 0, none⟩)] w fun e w' => e = .returned (.bool (!bk && tn == d.opened)) ∧ Below w.heap.size w w' := by
  obtain ⟨e0, e1, e2, -⟩ := stc_of h
  obtain ⟨-, -, -, -, d4⟩ := cells5_of hd.cells
  have HM : Hid (∀ n, Calls Tryz.prog 83 #[.pointer (some ⟨sp, 0, none⟩)] (w.drewN n) fun e w' => e = .returned (.bool true) ∧ w' = w.drewN n) := hid fun n => made_any (w := w.drewN n) e0
  clear h hd
  cases bk with
  | true =>
    go_enter Tryz.func76, Tryz.ntmps76
    go_upto_region 1 with fail
    go_quiet ((go_at_call 83; exact Calls.quiet_of_same (HM.out _)))
    all_goals go_wp2_with fail
    all_goals go_ret
    all_goals exact ⟨rfl, ⟨rfl, rfl, rfl, Nat.le_refl _, fun _ _ => rfl⟩⟩
  | false =>
    by_cases ht : tn = d.opened
    · have hb : ((tn : Int) == (d.opened : Int)) = true := by rw [ht]; simp
      have HE : Hid ((tn == d.opened) = true) := hid (by rw [ht]; simp)
      clear ht
      go_enter Tryz.func76, Tryz.ntmps76
      go_upto_region 1 with fail
      go_quiet ((go_at_call 83; exact Calls.quiet_of_same (HM.out _)))
      all_goals go_wp2_with fail
      all_goals go_ret
      all_goals rw [HE.out]
      all_goals exact ⟨rfl, ⟨rfl, rfl, rfl, Nat.le_refl _, fun _ _ => rfl⟩⟩
    · have hb : ((tn : Int) == (d.opened : Int)) = false := by simp; omega
      have HE : Hid ((tn == d.opened) = false) := hid (by simpa using ht)
      clear ht
      go_enter Tryz.func76, Tryz.ntmps76
      go_upto_region 1 with fail
      go_quiet ((go_at_call 83; exact Calls.quiet_of_same (HM.out _)))
      all_goals go_wp2_with fail
      all_goals go_ret
      all_goals rw [HE.out]
      all_goals exact ⟨rfl, ⟨rfl, rfl, rfl, Nat.le_refl _, fun _ _ => rfl⟩⟩
end Go.Proofs.YtpenleogafdbhaaGreatDoor
