/-
  NARROWER THAN 'FOR EVERY INPUT', by the rows' own cells (each row's printed sentence says how): TemperChooses: laid · TemperMore: laid · TemperLosses: laid · TemperAgain: laid · TemperKernels: laid · TemperHolds: laid · TemperGreatest: laid · TemperPlays: laid · TemperSafe: laid · TemperReaches: laid · TemperArrives: laid.
  DERIVED. THE GIVEN ROWS OF THIS SEAT. 11 by the template 'for every input the law returns true; each argument reads behind the call as it read before'; 0 by the template 'total and deterministic' (their statements: YtjonbhimbhidpaaDoorTotals.lean).
  GIVEN WITH THE SEED: the statements are not yours to turn. If you find one false, say at which input.
  Laid BY PROGRAM, IN A SANDBOX (cutbox-rows.mjs): the forced cells as the released guide's own fill.sh prints them over the translation d7394eea74a5e9db… (all of the seat's roots in one cut). By AI agents, Wed Nov 11 2026. No macro, syntax, notation, axiom, sorry.
-/
import Derived.Test.YtjonbhimbhidpaaDoorChecked
import GoSem.PinnedTables
import GoSem.Claim
import GoSem.ClaimJoined
import GoSem.ClaimMapViews
import Derived.JoinedTies
import Derived.KernelRfl
namespace Go.Proofs.YtjonbhimbhidpaaDoor
/- THE CELL 'sum', in the pinned program and in every row, IS THE sha256 OF THE DUMP (.gsa) THAT YtjonbhimbhidpaaDoorProg.lean LOADS. Nothing in Lean hashes anything: it is a label: what it is worth is what the hold of that sum in a sandbox is worth. -/
noncomputable def Tryd.pinned : Pinned := { name := "ytjonbhimbhidpaadoor", sum := "d7394eea74a5e9dbcc09efd844bf0f1204224bf79dca0fe0fa973614d36798a1", checked := Tryd.checked }
namespace Rows
def none {H : Type} : Left H := { results := [], args := [] }

/- WHAT THE LISTED PACKAGE-LEVEL VARIABLES READ AS WHEN THE CALL BEGINS. Each datum BY PROGRAM (the guide's laid-datum.mjs) off the statement by which the dump's own 'gosem.cut.vars' lays the variable. In a bare row this is a premise. The card (YtjonbhimbhidpaaDoorCards.lean) ties it to the program's text. -/
def laid_unicode_utf8_acceptRanges {H : Type} : DataW H := .agg [.agg [.lit (.int .u8 128), .lit (.int .u8 191)], .agg [.lit (.int .u8 160), .lit (.int .u8 191)], .agg [.lit (.int .u8 128), .lit (.int .u8 159)], .agg [.lit (.int .u8 144), .lit (.int .u8 191)], .agg [.lit (.int .u8 128), .lit (.int .u8 143)], .agg [.lit (.int .u8 0), .lit (.int .u8 0)], .agg [.lit (.int .u8 0), .lit (.int .u8 0)], .agg [.lit (.int .u8 0), .lit (.int .u8 0)], .agg [.lit (.int .u8 0), .lit (.int .u8 0)], .agg [.lit (.int .u8 0), .lit (.int .u8 0)], .agg [.lit (.int .u8 0), .lit (.int .u8 0)], .agg [.lit (.int .u8 0), .lit (.int .u8 0)], .agg [.lit (.int .u8 0), .lit (.int .u8 0)], .agg [.lit (.int .u8 0), .lit (.int .u8 0)], .agg [.lit (.int .u8 0), .lit (.int .u8 0)], .agg [.lit (.int .u8 0), .lit (.int .u8 0)]]
/-- One of Go's own tables, pinned by name: the form's constant. -/
def laid_unicode_utf8_first : DataW Unit := Go.Pinned.utf8First

/-- 'bolsterlaw06.TemperChooses': WHATEVER THE INPUT: true; the input reads as it did. -/
def temperChoosesSpec : ChangeSpec := { name := "temperChooses", fn := fun _ => fun
  | [d1, d2] => { results := [.lit (.bool true)], args := [d1, d2] }
  | _ => none }
def temperChoosesRow : OpenClaim := { program := "ytjonbhimbhidpaadoor", sum := "d7394eea74a5e9dbcc09efd844bf0f1204224bf79dca0fe0fa973614d36798a1", func := "bolster/bolsterlaw06.TemperChooses", spec := "temperChooses", inPlace := ["internal/bytealg.IndexByteString", "internal/bytealg.IndexString", "internal/abi.NoEscape"], unfollowed := true, recurses := true, named := ["unicode/utf8.first", "unicode/utf8.acceptRanges", "internal/bytealg.MaxLen"], plainKeys := false, apart := false, laid := [("unicode/utf8.acceptRanges", laid_unicode_utf8_acceptRanges), ("unicode/utf8.first", laid_unicode_utf8_first)] }
def TemperChoosesSaid : Prop := temperChoosesRow.holds Tryd.pinned (OpenSpec.ofChange temperChoosesSpec)

/-- ITS FALSE NEIGHBOUR: 'it returns false'. Refute it at one input. -/
def temperChoosesWrong : ChangeSpec := { name := "temperChooses", fn := fun _ => fun
  | [d1, d2] => { results := [.lit (.bool false)], args := [d1, d2] }
  | _ => none }
def TemperChoosesWrongFalsely : Prop := temperChoosesRow.holds Tryd.pinned (OpenSpec.ofChange temperChoosesWrong)

/-- 'bolsterlaw06.TemperMore': WHATEVER THE INPUT: true; the input reads as it did. -/
def temperMoreSpec : ChangeSpec := { name := "temperMore", fn := fun _ => fun
  | [d1, d2, d3] => { results := [.lit (.bool true)], args := [d1, d2, d3] }
  | _ => none }
def temperMoreRow : OpenClaim := { program := "ytjonbhimbhidpaadoor", sum := "d7394eea74a5e9dbcc09efd844bf0f1204224bf79dca0fe0fa973614d36798a1", func := "bolster/bolsterlaw06.TemperMore", spec := "temperMore", inPlace := ["internal/bytealg.IndexByteString", "internal/bytealg.IndexString", "internal/abi.NoEscape"], unfollowed := true, recurses := true, named := ["unicode/utf8.first", "unicode/utf8.acceptRanges", "internal/bytealg.MaxLen"], plainKeys := false, apart := false, laid := [("unicode/utf8.acceptRanges", laid_unicode_utf8_acceptRanges), ("unicode/utf8.first", laid_unicode_utf8_first)] }
def TemperMoreSaid : Prop := temperMoreRow.holds Tryd.pinned (OpenSpec.ofChange temperMoreSpec)

/-- ITS FALSE NEIGHBOUR: 'it returns false'. Refute it at one input. -/
def temperMoreWrong : ChangeSpec := { name := "temperMore", fn := fun _ => fun
  | [d1, d2, d3] => { results := [.lit (.bool false)], args := [d1, d2, d3] }
  | _ => none }
def TemperMoreWrongFalsely : Prop := temperMoreRow.holds Tryd.pinned (OpenSpec.ofChange temperMoreWrong)

/-- 'bolsterlaw06.TemperLosses': WHATEVER THE INPUT: true; the input reads as it did. -/
def temperLossesSpec : ChangeSpec := { name := "temperLosses", fn := fun _ => fun
  | [d] => { results := [.lit (.bool true)], args := [d] }
  | _ => none }
def temperLossesRow : OpenClaim := { program := "ytjonbhimbhidpaadoor", sum := "d7394eea74a5e9dbcc09efd844bf0f1204224bf79dca0fe0fa973614d36798a1", func := "bolster/bolsterlaw06.TemperLosses", spec := "temperLosses", inPlace := ["internal/bytealg.IndexByteString", "internal/bytealg.IndexString", "internal/abi.NoEscape"], unfollowed := true, recurses := true, named := ["unicode/utf8.first", "unicode/utf8.acceptRanges", "internal/bytealg.MaxLen"], plainKeys := false, apart := false, laid := [("unicode/utf8.acceptRanges", laid_unicode_utf8_acceptRanges), ("unicode/utf8.first", laid_unicode_utf8_first)] }
def TemperLossesSaid : Prop := temperLossesRow.holds Tryd.pinned (OpenSpec.ofChange temperLossesSpec)

/-- ITS FALSE NEIGHBOUR: 'it returns false'. Refute it at one input. -/
def temperLossesWrong : ChangeSpec := { name := "temperLosses", fn := fun _ => fun
  | [d] => { results := [.lit (.bool false)], args := [d] }
  | _ => none }
def TemperLossesWrongFalsely : Prop := temperLossesRow.holds Tryd.pinned (OpenSpec.ofChange temperLossesWrong)

/-- 'bolsterlaw06.TemperAgain': WHATEVER THE INPUT: true; the input reads as it did. -/
def temperAgainSpec : ChangeSpec := { name := "temperAgain", fn := fun _ => fun
  | [d] => { results := [.lit (.bool true)], args := [d] }
  | _ => none }
def temperAgainRow : OpenClaim := { program := "ytjonbhimbhidpaadoor", sum := "d7394eea74a5e9dbcc09efd844bf0f1204224bf79dca0fe0fa973614d36798a1", func := "bolster/bolsterlaw06.TemperAgain", spec := "temperAgain", inPlace := ["internal/bytealg.IndexByteString", "internal/bytealg.IndexString", "internal/abi.NoEscape"], unfollowed := true, recurses := true, named := ["unicode/utf8.first", "unicode/utf8.acceptRanges", "internal/bytealg.MaxLen"], plainKeys := false, apart := false, laid := [("unicode/utf8.acceptRanges", laid_unicode_utf8_acceptRanges), ("unicode/utf8.first", laid_unicode_utf8_first)] }
def TemperAgainSaid : Prop := temperAgainRow.holds Tryd.pinned (OpenSpec.ofChange temperAgainSpec)

/-- ITS FALSE NEIGHBOUR: 'it returns false'. Refute it at one input. -/
def temperAgainWrong : ChangeSpec := { name := "temperAgain", fn := fun _ => fun
  | [d] => { results := [.lit (.bool false)], args := [d] }
  | _ => none }
def TemperAgainWrongFalsely : Prop := temperAgainRow.holds Tryd.pinned (OpenSpec.ofChange temperAgainWrong)

/-- 'bolsterlaw06.TemperKernels': WHATEVER THE INPUT: true; the input reads as it did. -/
def temperKernelsSpec : ChangeSpec := { name := "temperKernels", fn := fun _ => fun
  | [d] => { results := [.lit (.bool true)], args := [d] }
  | _ => none }
def temperKernelsRow : OpenClaim := { program := "ytjonbhimbhidpaadoor", sum := "d7394eea74a5e9dbcc09efd844bf0f1204224bf79dca0fe0fa973614d36798a1", func := "bolster/bolsterlaw06.TemperKernels", spec := "temperKernels", inPlace := ["internal/bytealg.IndexByteString", "internal/bytealg.IndexString", "internal/abi.NoEscape"], unfollowed := true, recurses := true, named := ["unicode/utf8.first", "unicode/utf8.acceptRanges", "internal/bytealg.MaxLen"], plainKeys := false, apart := false, laid := [("unicode/utf8.acceptRanges", laid_unicode_utf8_acceptRanges), ("unicode/utf8.first", laid_unicode_utf8_first)] }
def TemperKernelsSaid : Prop := temperKernelsRow.holds Tryd.pinned (OpenSpec.ofChange temperKernelsSpec)

/-- ITS FALSE NEIGHBOUR: 'it returns false'. Refute it at one input. -/
def temperKernelsWrong : ChangeSpec := { name := "temperKernels", fn := fun _ => fun
  | [d] => { results := [.lit (.bool false)], args := [d] }
  | _ => none }
def TemperKernelsWrongFalsely : Prop := temperKernelsRow.holds Tryd.pinned (OpenSpec.ofChange temperKernelsWrong)

/-- 'bolsterlaw06.TemperHolds': WHATEVER THE INPUT: true; the input reads as it did. -/
def temperHoldsSpec : ChangeSpec := { name := "temperHolds", fn := fun _ => fun
  | [d1, d2] => { results := [.lit (.bool true)], args := [d1, d2] }
  | _ => none }
def temperHoldsRow : OpenClaim := { program := "ytjonbhimbhidpaadoor", sum := "d7394eea74a5e9dbcc09efd844bf0f1204224bf79dca0fe0fa973614d36798a1", func := "bolster/bolsterlaw06.TemperHolds", spec := "temperHolds", inPlace := ["internal/bytealg.IndexByteString", "internal/bytealg.IndexString", "internal/abi.NoEscape"], unfollowed := true, recurses := true, named := ["unicode/utf8.first", "unicode/utf8.acceptRanges", "internal/bytealg.MaxLen"], plainKeys := false, apart := false, laid := [("unicode/utf8.acceptRanges", laid_unicode_utf8_acceptRanges), ("unicode/utf8.first", laid_unicode_utf8_first)] }
def TemperHoldsSaid : Prop := temperHoldsRow.holds Tryd.pinned (OpenSpec.ofChange temperHoldsSpec)

/-- ITS FALSE NEIGHBOUR: 'it returns false'. Refute it at one input. -/
def temperHoldsWrong : ChangeSpec := { name := "temperHolds", fn := fun _ => fun
  | [d1, d2] => { results := [.lit (.bool false)], args := [d1, d2] }
  | _ => none }
def TemperHoldsWrongFalsely : Prop := temperHoldsRow.holds Tryd.pinned (OpenSpec.ofChange temperHoldsWrong)

/-- 'bolsterlaw06.TemperGreatest': WHATEVER THE INPUT: true; the input reads as it did. -/
def temperGreatestSpec : ChangeSpec := { name := "temperGreatest", fn := fun _ => fun
  | [d1, d2] => { results := [.lit (.bool true)], args := [d1, d2] }
  | _ => none }
def temperGreatestRow : OpenClaim := { program := "ytjonbhimbhidpaadoor", sum := "d7394eea74a5e9dbcc09efd844bf0f1204224bf79dca0fe0fa973614d36798a1", func := "bolster/bolsterlaw06.TemperGreatest", spec := "temperGreatest", inPlace := ["internal/bytealg.IndexByteString", "internal/bytealg.IndexString", "internal/abi.NoEscape"], unfollowed := true, recurses := true, named := ["unicode/utf8.first", "unicode/utf8.acceptRanges", "internal/bytealg.MaxLen"], plainKeys := false, apart := false, laid := [("unicode/utf8.acceptRanges", laid_unicode_utf8_acceptRanges), ("unicode/utf8.first", laid_unicode_utf8_first)] }
def TemperGreatestSaid : Prop := temperGreatestRow.holds Tryd.pinned (OpenSpec.ofChange temperGreatestSpec)

/-- ITS FALSE NEIGHBOUR: 'it returns false'. Refute it at one input. -/
def temperGreatestWrong : ChangeSpec := { name := "temperGreatest", fn := fun _ => fun
  | [d1, d2] => { results := [.lit (.bool false)], args := [d1, d2] }
  | _ => none }
def TemperGreatestWrongFalsely : Prop := temperGreatestRow.holds Tryd.pinned (OpenSpec.ofChange temperGreatestWrong)

/-- 'bolsterlaw06.TemperPlays': WHATEVER THE INPUT: true; the input reads as it did. -/
def temperPlaysSpec : ChangeSpec := { name := "temperPlays", fn := fun _ => fun
  | [d1, d2, d3] => { results := [.lit (.bool true)], args := [d1, d2, d3] }
  | _ => none }
def temperPlaysRow : OpenClaim := { program := "ytjonbhimbhidpaadoor", sum := "d7394eea74a5e9dbcc09efd844bf0f1204224bf79dca0fe0fa973614d36798a1", func := "bolster/bolsterlaw06.TemperPlays", spec := "temperPlays", inPlace := ["internal/bytealg.IndexByteString", "internal/bytealg.IndexString", "internal/abi.NoEscape"], unfollowed := true, recurses := true, named := ["unicode/utf8.first", "unicode/utf8.acceptRanges", "internal/bytealg.MaxLen"], plainKeys := false, apart := false, laid := [("unicode/utf8.acceptRanges", laid_unicode_utf8_acceptRanges), ("unicode/utf8.first", laid_unicode_utf8_first)] }
def TemperPlaysSaid : Prop := temperPlaysRow.holds Tryd.pinned (OpenSpec.ofChange temperPlaysSpec)

/-- ITS FALSE NEIGHBOUR: 'it returns false'. Refute it at one input. -/
def temperPlaysWrong : ChangeSpec := { name := "temperPlays", fn := fun _ => fun
  | [d1, d2, d3] => { results := [.lit (.bool false)], args := [d1, d2, d3] }
  | _ => none }
def TemperPlaysWrongFalsely : Prop := temperPlaysRow.holds Tryd.pinned (OpenSpec.ofChange temperPlaysWrong)

/-- 'bolsterlaw06.TemperSafe': WHATEVER THE INPUT: true; the input reads as it did. -/
def temperSafeSpec : ChangeSpec := { name := "temperSafe", fn := fun _ => fun
  | [d1, d2, d3] => { results := [.lit (.bool true)], args := [d1, d2, d3] }
  | _ => none }
def temperSafeRow : OpenClaim := { program := "ytjonbhimbhidpaadoor", sum := "d7394eea74a5e9dbcc09efd844bf0f1204224bf79dca0fe0fa973614d36798a1", func := "bolster/bolsterlaw06.TemperSafe", spec := "temperSafe", inPlace := ["internal/bytealg.IndexByteString", "internal/bytealg.IndexString", "internal/abi.NoEscape"], unfollowed := true, recurses := true, named := ["unicode/utf8.first", "unicode/utf8.acceptRanges", "internal/bytealg.MaxLen"], plainKeys := false, apart := false, laid := [("unicode/utf8.acceptRanges", laid_unicode_utf8_acceptRanges), ("unicode/utf8.first", laid_unicode_utf8_first)] }
def TemperSafeSaid : Prop := temperSafeRow.holds Tryd.pinned (OpenSpec.ofChange temperSafeSpec)

/-- ITS FALSE NEIGHBOUR: 'it returns false'. Refute it at one input. -/
def temperSafeWrong : ChangeSpec := { name := "temperSafe", fn := fun _ => fun
  | [d1, d2, d3] => { results := [.lit (.bool false)], args := [d1, d2, d3] }
  | _ => none }
def TemperSafeWrongFalsely : Prop := temperSafeRow.holds Tryd.pinned (OpenSpec.ofChange temperSafeWrong)

/-- 'bolsterlaw06.TemperReaches': WHATEVER THE INPUT: true; the input reads as it did. -/
def temperReachesSpec : ChangeSpec := { name := "temperReaches", fn := fun _ => fun
  | [d1, d2, d3] => { results := [.lit (.bool true)], args := [d1, d2, d3] }
  | _ => none }
def temperReachesRow : OpenClaim := { program := "ytjonbhimbhidpaadoor", sum := "d7394eea74a5e9dbcc09efd844bf0f1204224bf79dca0fe0fa973614d36798a1", func := "bolster/bolsterlaw06.TemperReaches", spec := "temperReaches", inPlace := ["internal/bytealg.IndexByteString", "internal/bytealg.IndexString", "internal/abi.NoEscape"], unfollowed := true, recurses := true, named := ["unicode/utf8.first", "unicode/utf8.acceptRanges", "internal/bytealg.MaxLen"], plainKeys := false, apart := false, laid := [("unicode/utf8.acceptRanges", laid_unicode_utf8_acceptRanges), ("unicode/utf8.first", laid_unicode_utf8_first)] }
def TemperReachesSaid : Prop := temperReachesRow.holds Tryd.pinned (OpenSpec.ofChange temperReachesSpec)

/-- ITS FALSE NEIGHBOUR: 'it returns false'. Refute it at one input. -/
def temperReachesWrong : ChangeSpec := { name := "temperReaches", fn := fun _ => fun
  | [d1, d2, d3] => { results := [.lit (.bool false)], args := [d1, d2, d3] }
  | _ => none }
def TemperReachesWrongFalsely : Prop := temperReachesRow.holds Tryd.pinned (OpenSpec.ofChange temperReachesWrong)

/-- 'bolsterlaw06.TemperArrives': WHATEVER THE INPUT: true; the input reads as it did. -/
def temperArrivesSpec : ChangeSpec := { name := "temperArrives", fn := fun _ => fun
  | [d1, d2, d3] => { results := [.lit (.bool true)], args := [d1, d2, d3] }
  | _ => none }
def temperArrivesRow : OpenClaim := { program := "ytjonbhimbhidpaadoor", sum := "d7394eea74a5e9dbcc09efd844bf0f1204224bf79dca0fe0fa973614d36798a1", func := "bolster/bolsterlaw06.TemperArrives", spec := "temperArrives", inPlace := ["internal/bytealg.IndexByteString", "internal/bytealg.IndexString", "internal/abi.NoEscape"], unfollowed := true, recurses := true, named := ["unicode/utf8.first", "unicode/utf8.acceptRanges", "internal/bytealg.MaxLen"], plainKeys := false, apart := false, laid := [("unicode/utf8.acceptRanges", laid_unicode_utf8_acceptRanges), ("unicode/utf8.first", laid_unicode_utf8_first)] }
def TemperArrivesSaid : Prop := temperArrivesRow.holds Tryd.pinned (OpenSpec.ofChange temperArrivesSpec)

/-- ITS FALSE NEIGHBOUR: 'it returns false'. Refute it at one input. -/
def temperArrivesWrong : ChangeSpec := { name := "temperArrives", fn := fun _ => fun
  | [d1, d2, d3] => { results := [.lit (.bool false)], args := [d1, d2, d3] }
  | _ => none }
def TemperArrivesWrongFalsely : Prop := temperArrivesRow.holds Tryd.pinned (OpenSpec.ofChange temperArrivesWrong)

/- THE SECOND FORM. 'bulk': how many values and letters a reading holds, each counted each time it is reached (what is shared counts as often as it is met; a slice's spare places count too). A statement '..UptoSaid' is the law's where the arguments, and the package variables that the reading takes, are together of bulk at most 1048576: NARROWER than '..Said'. Prove '..Said' where nothing that the law and all that it calls make is longer than what came in: it says more and counts as full. Else prove '..UptoSaid'. A law counts once. -/
mutual
def uptoBulk {H : Type} : DataW H → Nat
  | .lit (.string bytes) => bytes.length + 1
  | .lit _ => 1
  | .nil => 1
  | .ptr d => uptoBulk d + 1
  | .slice elems spare => uptoBulkAll elems + uptoBulkAll spare + 1
  | .agg parts => uptoBulkAll parts + 1
  | .iface _ d => uptoBulk d + 1
  | .map entries => uptoBulkEntries entries + 1
  | .held _ => 1
def uptoBulkAll {H : Type} : List (DataW H) → Nat
  | [] => 0
  | d :: r => uptoBulk d + uptoBulkAll r
def uptoBulkEntries {H : Type} : List (Lit × DataW H) → Nat
  | [] => 0
  | x :: r => uptoBulkEntry x + uptoBulkEntries r
def uptoBulkEntry {H : Type} : Lit × DataW H → Nat
  | (.string bytes, d) => bytes.length + uptoBulk d + 1
  | (_, d) => uptoBulk d + 1
 end
def uptoSmall : (H : Type) → List (DataW H) → Bool := fun _ ds => decide (uptoBulkAll ds ≤ 1048576)
def OpenSpec.upto (s : _root_.Go.ChangeSpec) : _root_.Go.OpenSpec := { _root_.Go.OpenSpec.ofChange s with cond := some uptoSmall }

/-- 'bolsterlaw06.TemperChooses', WHERE WHAT IT READS IS OF BULK AT MOST 1048576: true; the input reads as it did. -/
def temperChoosesUptoRow : OpenClaim := { program := "ytjonbhimbhidpaadoor", sum := "d7394eea74a5e9dbcc09efd844bf0f1204224bf79dca0fe0fa973614d36798a1", func := "bolster/bolsterlaw06.TemperChooses", spec := "temperChooses", inPlace := ["internal/bytealg.IndexByteString", "internal/bytealg.IndexString", "internal/abi.NoEscape"], unfollowed := true, recurses := true, named := ["unicode/utf8.first", "unicode/utf8.acceptRanges", "internal/bytealg.MaxLen"], plainKeys := false, apart := false, laid := [("unicode/utf8.acceptRanges", laid_unicode_utf8_acceptRanges), ("unicode/utf8.first", laid_unicode_utf8_first)], narrowed := true }
def TemperChoosesUptoSaid : Prop := temperChoosesUptoRow.holds Tryd.pinned (OpenSpec.upto temperChoosesSpec)

/-- 'bolsterlaw06.TemperMore', WHERE WHAT IT READS IS OF BULK AT MOST 1048576: true; the input reads as it did. -/
def temperMoreUptoRow : OpenClaim := { program := "ytjonbhimbhidpaadoor", sum := "d7394eea74a5e9dbcc09efd844bf0f1204224bf79dca0fe0fa973614d36798a1", func := "bolster/bolsterlaw06.TemperMore", spec := "temperMore", inPlace := ["internal/bytealg.IndexByteString", "internal/bytealg.IndexString", "internal/abi.NoEscape"], unfollowed := true, recurses := true, named := ["unicode/utf8.first", "unicode/utf8.acceptRanges", "internal/bytealg.MaxLen"], plainKeys := false, apart := false, laid := [("unicode/utf8.acceptRanges", laid_unicode_utf8_acceptRanges), ("unicode/utf8.first", laid_unicode_utf8_first)], narrowed := true }
def TemperMoreUptoSaid : Prop := temperMoreUptoRow.holds Tryd.pinned (OpenSpec.upto temperMoreSpec)

/-- 'bolsterlaw06.TemperLosses', WHERE WHAT IT READS IS OF BULK AT MOST 1048576: true; the input reads as it did. -/
def temperLossesUptoRow : OpenClaim := { program := "ytjonbhimbhidpaadoor", sum := "d7394eea74a5e9dbcc09efd844bf0f1204224bf79dca0fe0fa973614d36798a1", func := "bolster/bolsterlaw06.TemperLosses", spec := "temperLosses", inPlace := ["internal/bytealg.IndexByteString", "internal/bytealg.IndexString", "internal/abi.NoEscape"], unfollowed := true, recurses := true, named := ["unicode/utf8.first", "unicode/utf8.acceptRanges", "internal/bytealg.MaxLen"], plainKeys := false, apart := false, laid := [("unicode/utf8.acceptRanges", laid_unicode_utf8_acceptRanges), ("unicode/utf8.first", laid_unicode_utf8_first)], narrowed := true }
def TemperLossesUptoSaid : Prop := temperLossesUptoRow.holds Tryd.pinned (OpenSpec.upto temperLossesSpec)

/-- 'bolsterlaw06.TemperAgain', WHERE WHAT IT READS IS OF BULK AT MOST 1048576: true; the input reads as it did. -/
def temperAgainUptoRow : OpenClaim := { program := "ytjonbhimbhidpaadoor", sum := "d7394eea74a5e9dbcc09efd844bf0f1204224bf79dca0fe0fa973614d36798a1", func := "bolster/bolsterlaw06.TemperAgain", spec := "temperAgain", inPlace := ["internal/bytealg.IndexByteString", "internal/bytealg.IndexString", "internal/abi.NoEscape"], unfollowed := true, recurses := true, named := ["unicode/utf8.first", "unicode/utf8.acceptRanges", "internal/bytealg.MaxLen"], plainKeys := false, apart := false, laid := [("unicode/utf8.acceptRanges", laid_unicode_utf8_acceptRanges), ("unicode/utf8.first", laid_unicode_utf8_first)], narrowed := true }
def TemperAgainUptoSaid : Prop := temperAgainUptoRow.holds Tryd.pinned (OpenSpec.upto temperAgainSpec)

/-- 'bolsterlaw06.TemperKernels', WHERE WHAT IT READS IS OF BULK AT MOST 1048576: true; the input reads as it did. -/
def temperKernelsUptoRow : OpenClaim := { program := "ytjonbhimbhidpaadoor", sum := "d7394eea74a5e9dbcc09efd844bf0f1204224bf79dca0fe0fa973614d36798a1", func := "bolster/bolsterlaw06.TemperKernels", spec := "temperKernels", inPlace := ["internal/bytealg.IndexByteString", "internal/bytealg.IndexString", "internal/abi.NoEscape"], unfollowed := true, recurses := true, named := ["unicode/utf8.first", "unicode/utf8.acceptRanges", "internal/bytealg.MaxLen"], plainKeys := false, apart := false, laid := [("unicode/utf8.acceptRanges", laid_unicode_utf8_acceptRanges), ("unicode/utf8.first", laid_unicode_utf8_first)], narrowed := true }
def TemperKernelsUptoSaid : Prop := temperKernelsUptoRow.holds Tryd.pinned (OpenSpec.upto temperKernelsSpec)

/-- 'bolsterlaw06.TemperHolds', WHERE WHAT IT READS IS OF BULK AT MOST 1048576: true; the input reads as it did. -/
def temperHoldsUptoRow : OpenClaim := { program := "ytjonbhimbhidpaadoor", sum := "d7394eea74a5e9dbcc09efd844bf0f1204224bf79dca0fe0fa973614d36798a1", func := "bolster/bolsterlaw06.TemperHolds", spec := "temperHolds", inPlace := ["internal/bytealg.IndexByteString", "internal/bytealg.IndexString", "internal/abi.NoEscape"], unfollowed := true, recurses := true, named := ["unicode/utf8.first", "unicode/utf8.acceptRanges", "internal/bytealg.MaxLen"], plainKeys := false, apart := false, laid := [("unicode/utf8.acceptRanges", laid_unicode_utf8_acceptRanges), ("unicode/utf8.first", laid_unicode_utf8_first)], narrowed := true }
def TemperHoldsUptoSaid : Prop := temperHoldsUptoRow.holds Tryd.pinned (OpenSpec.upto temperHoldsSpec)

/-- 'bolsterlaw06.TemperGreatest', WHERE WHAT IT READS IS OF BULK AT MOST 1048576: true; the input reads as it did. -/
def temperGreatestUptoRow : OpenClaim := { program := "ytjonbhimbhidpaadoor", sum := "d7394eea74a5e9dbcc09efd844bf0f1204224bf79dca0fe0fa973614d36798a1", func := "bolster/bolsterlaw06.TemperGreatest", spec := "temperGreatest", inPlace := ["internal/bytealg.IndexByteString", "internal/bytealg.IndexString", "internal/abi.NoEscape"], unfollowed := true, recurses := true, named := ["unicode/utf8.first", "unicode/utf8.acceptRanges", "internal/bytealg.MaxLen"], plainKeys := false, apart := false, laid := [("unicode/utf8.acceptRanges", laid_unicode_utf8_acceptRanges), ("unicode/utf8.first", laid_unicode_utf8_first)], narrowed := true }
def TemperGreatestUptoSaid : Prop := temperGreatestUptoRow.holds Tryd.pinned (OpenSpec.upto temperGreatestSpec)

/-- 'bolsterlaw06.TemperPlays', WHERE WHAT IT READS IS OF BULK AT MOST 1048576: true; the input reads as it did. -/
def temperPlaysUptoRow : OpenClaim := { program := "ytjonbhimbhidpaadoor", sum := "d7394eea74a5e9dbcc09efd844bf0f1204224bf79dca0fe0fa973614d36798a1", func := "bolster/bolsterlaw06.TemperPlays", spec := "temperPlays", inPlace := ["internal/bytealg.IndexByteString", "internal/bytealg.IndexString", "internal/abi.NoEscape"], unfollowed := true, recurses := true, named := ["unicode/utf8.first", "unicode/utf8.acceptRanges", "internal/bytealg.MaxLen"], plainKeys := false, apart := false, laid := [("unicode/utf8.acceptRanges", laid_unicode_utf8_acceptRanges), ("unicode/utf8.first", laid_unicode_utf8_first)], narrowed := true }
def TemperPlaysUptoSaid : Prop := temperPlaysUptoRow.holds Tryd.pinned (OpenSpec.upto temperPlaysSpec)

/-- 'bolsterlaw06.TemperSafe', WHERE WHAT IT READS IS OF BULK AT MOST 1048576: true; the input reads as it did. -/
def temperSafeUptoRow : OpenClaim := { program := "ytjonbhimbhidpaadoor", sum := "d7394eea74a5e9dbcc09efd844bf0f1204224bf79dca0fe0fa973614d36798a1", func := "bolster/bolsterlaw06.TemperSafe", spec := "temperSafe", inPlace := ["internal/bytealg.IndexByteString", "internal/bytealg.IndexString", "internal/abi.NoEscape"], unfollowed := true, recurses := true, named := ["unicode/utf8.first", "unicode/utf8.acceptRanges", "internal/bytealg.MaxLen"], plainKeys := false, apart := false, laid := [("unicode/utf8.acceptRanges", laid_unicode_utf8_acceptRanges), ("unicode/utf8.first", laid_unicode_utf8_first)], narrowed := true }
def TemperSafeUptoSaid : Prop := temperSafeUptoRow.holds Tryd.pinned (OpenSpec.upto temperSafeSpec)

/-- 'bolsterlaw06.TemperReaches', WHERE WHAT IT READS IS OF BULK AT MOST 1048576: true; the input reads as it did. -/
def temperReachesUptoRow : OpenClaim := { program := "ytjonbhimbhidpaadoor", sum := "d7394eea74a5e9dbcc09efd844bf0f1204224bf79dca0fe0fa973614d36798a1", func := "bolster/bolsterlaw06.TemperReaches", spec := "temperReaches", inPlace := ["internal/bytealg.IndexByteString", "internal/bytealg.IndexString", "internal/abi.NoEscape"], unfollowed := true, recurses := true, named := ["unicode/utf8.first", "unicode/utf8.acceptRanges", "internal/bytealg.MaxLen"], plainKeys := false, apart := false, laid := [("unicode/utf8.acceptRanges", laid_unicode_utf8_acceptRanges), ("unicode/utf8.first", laid_unicode_utf8_first)], narrowed := true }
def TemperReachesUptoSaid : Prop := temperReachesUptoRow.holds Tryd.pinned (OpenSpec.upto temperReachesSpec)

/-- 'bolsterlaw06.TemperArrives', WHERE WHAT IT READS IS OF BULK AT MOST 1048576: true; the input reads as it did. -/
def temperArrivesUptoRow : OpenClaim := { program := "ytjonbhimbhidpaadoor", sum := "d7394eea74a5e9dbcc09efd844bf0f1204224bf79dca0fe0fa973614d36798a1", func := "bolster/bolsterlaw06.TemperArrives", spec := "temperArrives", inPlace := ["internal/bytealg.IndexByteString", "internal/bytealg.IndexString", "internal/abi.NoEscape"], unfollowed := true, recurses := true, named := ["unicode/utf8.first", "unicode/utf8.acceptRanges", "internal/bytealg.MaxLen"], plainKeys := false, apart := false, laid := [("unicode/utf8.acceptRanges", laid_unicode_utf8_acceptRanges), ("unicode/utf8.first", laid_unicode_utf8_first)], narrowed := true }
def TemperArrivesUptoSaid : Prop := temperArrivesUptoRow.holds Tryd.pinned (OpenSpec.upto temperArrivesSpec)

end Rows
end Go.Proofs.YtjonbhimbhidpaaDoor
