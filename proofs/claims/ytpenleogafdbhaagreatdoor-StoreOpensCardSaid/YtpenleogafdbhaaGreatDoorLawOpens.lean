/-
  Open of disks that are nil, that nobody made, and that have no files: the law's walk.
-/
import Derived.Test.YtpenleogafdbhaaGreatDoorZ15
import Derived.LaidEqlPtr
namespace Go.Proofs.YtpenleogafdbhaaGreatDoor
open Go.RowKit Go.Maps Go.ChangeMaps Go.WideElems Go.WideShapes Go.WideAt Go.WideMaps
theorem eql_disk (dp : Nat) (W : World) : (binOp .eql 31 (.pointer (some ⟨dp, 0, none⟩)) (.pointer (some ⟨dp, 0, none⟩))).run Tryz.prog W = .ok (.bool true) W := by
  obtain ⟨j, hj⟩ := Option.isSome_iff_exists.1 (show (Tryz.prog.info? 51).isSome = true by kernel_rfl)
  exact run_eql_ptr_same W _ Tryz.underlying31 hj
set_option maxRecDepth 100000 in
set_option maxHeartbeats 16000000 in
theorem StoreOpens_ok (a0 n : Int) (w : World) (hG : Glb w) (w0 : (Lit.int .u8 a0).wf = true) : Calls Tryz.prog 4 #[.int .u8 a0, .int .i64 n] w fun e w' => e = .returned (.bool true) ∧ Below w.heap.size w w' := by
  have hr : 0 ≤ a0 ∧ a0 < 256 := by
    have e1 : IntKind.u8.min = 0 := by rfl
    have e2 : IntKind.u8.max = 255 := by rfl
    unfold Lit.wf at w0
    simp [e1, e2] at w0
    omega
  obtain ⟨x, rfl⟩ : ∃ x : Nat, a0 = x := ⟨a0.toNat, by omega⟩
  have hx : x < 256 := by omega
  clear hr w0
  have HG := hid hG
  have HO1 := hid (open_no (w := w) (.inl rfl))
  clear hG
  go_enter Tryz.func4, Tryz.ntmps4
  go_upto_region 3 with (first
    | (go_at_call 16; refine HO1.out.mono ?_; rintro e w1 ⟨rfl, hb⟩; have HB1 := hid hb; clear hb HO1)
    | fail)
  have HO2 := hid (open_no (w := w1.alloc (.cells #[.bool false, .map none, .bool false, .int .i64 0, .int .i64 0] 51)) (.inr ⟨_, rfl, heap_alloc_new w1 _⟩))
  have HBA := hid (below_step HB1.out (ba w1 (.cells #[.bool false, .map none, .bool false, .int .i64 0, .int .i64 0] 51)))
  go_upto_region 7 with (first
    | (go_at_call 16; refine HO2.out.mono ?_; rintro e w2 ⟨rfl, hb⟩; have HB2 := hid (below_step HBA.out hb); have HL := hid (lives_any w2 (HG.out.below HB2.out)); clear hb HO2)
    | (go_at_call 24; refine HL.out.mono ?_; rintro e w3 ⟨rfl, hb⟩; have HB3 := hid (below_step HB2.out hb); have HN := hid (dl_new HG.out w3 HB3.out HG.out.size); clear hb HL)
    | (go_at_call 15; refine HN.out.mono ?_; rintro e w4 ⟨dp, mb, rfl, hd, -⟩; have HD := hid hd; clear hd HN)
    | fail)
  have HM6 : Hid ((x : Int) % 6 < 9223372036854775808) := hid (by omega)
  go_upto_region 9 with (first
    | (go_at_call 17; refine (dl_arm HD.out _ HM6.out).mono ?_; rintro e w5 ⟨rfl, hd⟩; have HO3 := hid (opn_1 _ hd); clear hd HD)
    | (go_at_call 16; refine HO3.out.mono ?_; rintro e w6 ⟨sp, vb, rfl, hs⟩; have HDN := hid (sl_down hs); have HAR := hid (sl_arm hs 0 (by decide)); clear hs HO3)
    | fail)
  have hdn : (Dk.new.arm ((x : Int) % 6)).op.down = false := rfl
  rw [hdn] at HDN
  clear hdn
  go_upto_region 20 with (first
    | (go_at_call 25; refine HDN.out.mono ?_; rintro e w7 ⟨rfl, hw⟩; obtain rfl := hw.symm; clear hw)
    | (go_at_call 17; refine HAR.out.mono ?_; rintro e w8 ⟨rfl, hs⟩; have HSC := hid (opn_s _ hs); clear hs)
    | fail)
  go_upto_region 21 with (first
    | (go_at_call 23; refine HSC.out.mono ?_; rintro e w9 ⟨sa, sc, rfl, hs⟩; have HBR := hid (sl_broken hs); have HDK := hid (sl_disk hs); have HAP := hid (opn_a hs); clear hs)
    | fail)
  have hbr : sN.broken = false := rfl
  rw [hbr] at HBR
  clear hbr
  have hpe := eql_disk dp
  go_wp2_with (first
    | (go_at_call 26; refine HBR.out.mono ?_; rintro e w7 ⟨rfl, hw⟩; obtain rfl := hw.symm; clear hw)
    | (go_at_call 27; refine HDK.out.mono ?_; rintro e w7 ⟨rfl, hw⟩; obtain rfl := hw.symm; clear hw)
    | (go_at_call 19; refine HAP.out.mono ?_; rintro e w7 ⟨rfl, hb⟩; have HF := hid hb; clear hb)
    | fail)
  go_ret
  exact ⟨rfl, HF.out⟩
end Go.Proofs.YtpenleogafdbhaaGreatDoor
