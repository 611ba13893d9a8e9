/-
  NARROWER THAN 'FOR EVERY INPUT', by the rows' own cells (each row's printed sentence says how): RhythmPeriods: laid · RhythmLocals: laid · RhythmRuns: laid · RhythmEvens: laid · RhythmTwo: laid · RhythmCritical: laid · RhythmTurns: laid · RhythmGaps: laid · RhythmThree: laid · RhythmLyndons: laid · RhythmWords: laid · RhythmFew: laid · RhythmRotations: laid · RhythmSquares: laid · RhythmBalances: laid · RhythmChristoffel: laid · RhythmEven: laid · RhythmReversed: laid.
  DERIVED. THE GIVEN ROWS OF THIS SEAT. 18 by the template 'for every input the law returns true; each argument reads behind the call as it read before'; 0 by the template 'total and deterministic' (their statements: YtpoekblolicehaaDoorTotals.lean).
  GIVEN WITH THE SEED: the statements are not yours to turn. If you find one false, say at which input.
  Laid BY PROGRAM, IN A SANDBOX (cutbox-rows.mjs): the forced cells as the released guide's own fill.sh prints them over the translation 0642688fad225213… (all of the seat's roots in one cut). By AI agents, Wed Nov 11 2026. No macro, syntax, notation, axiom, sorry.
-/
import Derived.Test.YtpoekblolicehaaDoorChecked
import GoSem.PinnedTables
import GoSem.Claim
import GoSem.ClaimJoined
import GoSem.ClaimMapViews
import Derived.JoinedTies
import Derived.KernelRfl
namespace Go.Proofs.YtpoekblolicehaaDoor
/- THE CELL 'sum', in the pinned program and in every row, IS THE sha256 OF THE DUMP (.gsa) THAT YtpoekblolicehaaDoorProg.lean LOADS. Nothing in Lean hashes anything: it is a label: what it is worth is what the hold of that sum in a sandbox is worth. -/
noncomputable def Tryd.pinned : Pinned := { name := "ytpoekblolicehaadoor", sum := "0642688fad22521312c722c623102b0a3bf224518ac7862e1471464d073565e0", checked := Tryd.checked }
namespace Rows
def none {H : Type} : Left H := { results := [], args := [] }

/- WHAT THE LISTED PACKAGE-LEVEL VARIABLES READ AS WHEN THE CALL BEGINS. Each datum BY PROGRAM (the guide's laid-datum.mjs) off the statement by which the dump's own 'gosem.cut.vars' lays the variable. In a bare row this is a premise. The card (YtpoekblolicehaaDoorCards.lean) ties it to the program's text. -/
def laid_unicode_utf8_acceptRanges {H : Type} : DataW H := .agg [.agg [.lit (.int .u8 128), .lit (.int .u8 191)], .agg [.lit (.int .u8 160), .lit (.int .u8 191)], .agg [.lit (.int .u8 128), .lit (.int .u8 159)], .agg [.lit (.int .u8 144), .lit (.int .u8 191)], .agg [.lit (.int .u8 128), .lit (.int .u8 143)], .agg [.lit (.int .u8 0), .lit (.int .u8 0)], .agg [.lit (.int .u8 0), .lit (.int .u8 0)], .agg [.lit (.int .u8 0), .lit (.int .u8 0)], .agg [.lit (.int .u8 0), .lit (.int .u8 0)], .agg [.lit (.int .u8 0), .lit (.int .u8 0)], .agg [.lit (.int .u8 0), .lit (.int .u8 0)], .agg [.lit (.int .u8 0), .lit (.int .u8 0)], .agg [.lit (.int .u8 0), .lit (.int .u8 0)], .agg [.lit (.int .u8 0), .lit (.int .u8 0)], .agg [.lit (.int .u8 0), .lit (.int .u8 0)], .agg [.lit (.int .u8 0), .lit (.int .u8 0)]]
/-- One of Go's own tables, pinned by name: the form's constant. -/
def laid_unicode_utf8_first : DataW Unit := Go.Pinned.utf8First

/-- 'bolsterlaw01.RhythmPeriods': WHATEVER THE INPUT: true; the input reads as it did. -/
def rhythmPeriodsSpec : ChangeSpec := { name := "rhythmPeriods", fn := fun _ => fun
  | [d] => { results := [.lit (.bool true)], args := [d] }
  | _ => none }
def rhythmPeriodsRow : OpenClaim := { program := "ytpoekblolicehaadoor", sum := "0642688fad22521312c722c623102b0a3bf224518ac7862e1471464d073565e0", func := "bolster/bolsterlaw01.RhythmPeriods", spec := "rhythmPeriods", inPlace := ["internal/bytealg.IndexByteString", "internal/bytealg.IndexString", "internal/abi.NoEscape"], named := ["unicode/utf8.first", "unicode/utf8.acceptRanges", "internal/bytealg.MaxLen"], apart := false, laid := [("unicode/utf8.acceptRanges", laid_unicode_utf8_acceptRanges), ("unicode/utf8.first", laid_unicode_utf8_first)] }
def RhythmPeriodsSaid : Prop := rhythmPeriodsRow.holds Tryd.pinned (OpenSpec.ofChange rhythmPeriodsSpec)

/-- ITS FALSE NEIGHBOUR: 'it returns false'. Refute it at one input. -/
def rhythmPeriodsWrong : ChangeSpec := { name := "rhythmPeriods", fn := fun _ => fun
  | [d] => { results := [.lit (.bool false)], args := [d] }
  | _ => none }
def RhythmPeriodsWrongFalsely : Prop := rhythmPeriodsRow.holds Tryd.pinned (OpenSpec.ofChange rhythmPeriodsWrong)

/-- 'bolsterlaw01.RhythmLocals': WHATEVER THE INPUT: true; the input reads as it did. -/
def rhythmLocalsSpec : ChangeSpec := { name := "rhythmLocals", fn := fun _ => fun
  | [d] => { results := [.lit (.bool true)], args := [d] }
  | _ => none }
def rhythmLocalsRow : OpenClaim := { program := "ytpoekblolicehaadoor", sum := "0642688fad22521312c722c623102b0a3bf224518ac7862e1471464d073565e0", func := "bolster/bolsterlaw01.RhythmLocals", spec := "rhythmLocals", inPlace := ["internal/bytealg.IndexByteString", "internal/bytealg.IndexString", "internal/abi.NoEscape"], named := ["unicode/utf8.first", "unicode/utf8.acceptRanges", "internal/bytealg.MaxLen"], apart := false, laid := [("unicode/utf8.acceptRanges", laid_unicode_utf8_acceptRanges), ("unicode/utf8.first", laid_unicode_utf8_first)] }
def RhythmLocalsSaid : Prop := rhythmLocalsRow.holds Tryd.pinned (OpenSpec.ofChange rhythmLocalsSpec)

/-- ITS FALSE NEIGHBOUR: 'it returns false'. Refute it at one input. -/
def rhythmLocalsWrong : ChangeSpec := { name := "rhythmLocals", fn := fun _ => fun
  | [d] => { results := [.lit (.bool false)], args := [d] }
  | _ => none }
def RhythmLocalsWrongFalsely : Prop := rhythmLocalsRow.holds Tryd.pinned (OpenSpec.ofChange rhythmLocalsWrong)

/-- 'bolsterlaw01.RhythmRuns': WHATEVER THE INPUT: true; the input reads as it did. -/
def rhythmRunsSpec : ChangeSpec := { name := "rhythmRuns", fn := fun _ => fun
  | [d] => { results := [.lit (.bool true)], args := [d] }
  | _ => none }
def rhythmRunsRow : OpenClaim := { program := "ytpoekblolicehaadoor", sum := "0642688fad22521312c722c623102b0a3bf224518ac7862e1471464d073565e0", func := "bolster/bolsterlaw01.RhythmRuns", spec := "rhythmRuns", inPlace := ["internal/bytealg.IndexByteString", "internal/bytealg.IndexString", "internal/abi.NoEscape"], named := ["unicode/utf8.first", "unicode/utf8.acceptRanges", "internal/bytealg.MaxLen"], apart := false, laid := [("unicode/utf8.acceptRanges", laid_unicode_utf8_acceptRanges), ("unicode/utf8.first", laid_unicode_utf8_first)] }
def RhythmRunsSaid : Prop := rhythmRunsRow.holds Tryd.pinned (OpenSpec.ofChange rhythmRunsSpec)

/-- ITS FALSE NEIGHBOUR: 'it returns false'. Refute it at one input. -/
def rhythmRunsWrong : ChangeSpec := { name := "rhythmRuns", fn := fun _ => fun
  | [d] => { results := [.lit (.bool false)], args := [d] }
  | _ => none }
def RhythmRunsWrongFalsely : Prop := rhythmRunsRow.holds Tryd.pinned (OpenSpec.ofChange rhythmRunsWrong)

/-- 'bolsterlaw01.RhythmEvens': WHATEVER THE INPUT: true; the input reads as it did. -/
def rhythmEvensSpec : ChangeSpec := { name := "rhythmEvens", fn := fun _ => fun
  | [d1, d2] => { results := [.lit (.bool true)], args := [d1, d2] }
  | _ => none }
def rhythmEvensRow : OpenClaim := { program := "ytpoekblolicehaadoor", sum := "0642688fad22521312c722c623102b0a3bf224518ac7862e1471464d073565e0", func := "bolster/bolsterlaw01.RhythmEvens", spec := "rhythmEvens", inPlace := ["internal/abi.NoEscape", "internal/bytealg.IndexByteString", "internal/bytealg.IndexString"], named := ["unicode/utf8.first", "unicode/utf8.acceptRanges", "internal/bytealg.MaxLen"], apart := false, laid := [("unicode/utf8.acceptRanges", laid_unicode_utf8_acceptRanges), ("unicode/utf8.first", laid_unicode_utf8_first)] }
def RhythmEvensSaid : Prop := rhythmEvensRow.holds Tryd.pinned (OpenSpec.ofChange rhythmEvensSpec)

/-- ITS FALSE NEIGHBOUR: 'it returns false'. Refute it at one input. -/
def rhythmEvensWrong : ChangeSpec := { name := "rhythmEvens", fn := fun _ => fun
  | [d1, d2] => { results := [.lit (.bool false)], args := [d1, d2] }
  | _ => none }
def RhythmEvensWrongFalsely : Prop := rhythmEvensRow.holds Tryd.pinned (OpenSpec.ofChange rhythmEvensWrong)

/-- 'bolsterlaw01.RhythmTwo': WHATEVER THE INPUT: true; the input reads as it did. -/
def rhythmTwoSpec : ChangeSpec := { name := "rhythmTwo", fn := fun _ => fun
  | [d1, d2] => { results := [.lit (.bool true)], args := [d1, d2] }
  | _ => none }
def rhythmTwoRow : OpenClaim := { program := "ytpoekblolicehaadoor", sum := "0642688fad22521312c722c623102b0a3bf224518ac7862e1471464d073565e0", func := "bolster/bolsterlaw01.RhythmTwo", spec := "rhythmTwo", inPlace := ["internal/bytealg.IndexByteString", "internal/bytealg.IndexString", "internal/abi.NoEscape"], unfollowed := true, recurses := true, named := ["unicode/utf8.first", "unicode/utf8.acceptRanges", "internal/bytealg.MaxLen"], apart := false, laid := [("unicode/utf8.acceptRanges", laid_unicode_utf8_acceptRanges), ("unicode/utf8.first", laid_unicode_utf8_first)] }
def RhythmTwoSaid : Prop := rhythmTwoRow.holds Tryd.pinned (OpenSpec.ofChange rhythmTwoSpec)

/-- ITS FALSE NEIGHBOUR: 'it returns false'. Refute it at one input. -/
def rhythmTwoWrong : ChangeSpec := { name := "rhythmTwo", fn := fun _ => fun
  | [d1, d2] => { results := [.lit (.bool false)], args := [d1, d2] }
  | _ => none }
def RhythmTwoWrongFalsely : Prop := rhythmTwoRow.holds Tryd.pinned (OpenSpec.ofChange rhythmTwoWrong)

/-- 'bolsterlaw01.RhythmCritical': WHATEVER THE INPUT: true; the input reads as it did. -/
def rhythmCriticalSpec : ChangeSpec := { name := "rhythmCritical", fn := fun _ => fun
  | [d] => { results := [.lit (.bool true)], args := [d] }
  | _ => none }
def rhythmCriticalRow : OpenClaim := { program := "ytpoekblolicehaadoor", sum := "0642688fad22521312c722c623102b0a3bf224518ac7862e1471464d073565e0", func := "bolster/bolsterlaw01.RhythmCritical", spec := "rhythmCritical", inPlace := ["internal/bytealg.IndexByteString", "internal/bytealg.IndexString", "internal/abi.NoEscape"], named := ["unicode/utf8.first", "unicode/utf8.acceptRanges", "internal/bytealg.MaxLen"], apart := false, laid := [("unicode/utf8.acceptRanges", laid_unicode_utf8_acceptRanges), ("unicode/utf8.first", laid_unicode_utf8_first)] }
def RhythmCriticalSaid : Prop := rhythmCriticalRow.holds Tryd.pinned (OpenSpec.ofChange rhythmCriticalSpec)

/-- ITS FALSE NEIGHBOUR: 'it returns false'. Refute it at one input. -/
def rhythmCriticalWrong : ChangeSpec := { name := "rhythmCritical", fn := fun _ => fun
  | [d] => { results := [.lit (.bool false)], args := [d] }
  | _ => none }
def RhythmCriticalWrongFalsely : Prop := rhythmCriticalRow.holds Tryd.pinned (OpenSpec.ofChange rhythmCriticalWrong)

/-- 'bolsterlaw01.RhythmTurns': WHATEVER THE INPUT: true; the input reads as it did. -/
def rhythmTurnsSpec : ChangeSpec := { name := "rhythmTurns", fn := fun _ => fun
  | [d] => { results := [.lit (.bool true)], args := [d] }
  | _ => none }
def rhythmTurnsRow : OpenClaim := { program := "ytpoekblolicehaadoor", sum := "0642688fad22521312c722c623102b0a3bf224518ac7862e1471464d073565e0", func := "bolster/bolsterlaw01.RhythmTurns", spec := "rhythmTurns", inPlace := ["internal/bytealg.IndexByteString", "internal/bytealg.IndexString", "internal/abi.NoEscape"], named := ["unicode/utf8.first", "unicode/utf8.acceptRanges", "internal/bytealg.MaxLen"], apart := false, laid := [("unicode/utf8.acceptRanges", laid_unicode_utf8_acceptRanges), ("unicode/utf8.first", laid_unicode_utf8_first)] }
def RhythmTurnsSaid : Prop := rhythmTurnsRow.holds Tryd.pinned (OpenSpec.ofChange rhythmTurnsSpec)

/-- ITS FALSE NEIGHBOUR: 'it returns false'. Refute it at one input. -/
def rhythmTurnsWrong : ChangeSpec := { name := "rhythmTurns", fn := fun _ => fun
  | [d] => { results := [.lit (.bool false)], args := [d] }
  | _ => none }
def RhythmTurnsWrongFalsely : Prop := rhythmTurnsRow.holds Tryd.pinned (OpenSpec.ofChange rhythmTurnsWrong)

/-- 'bolsterlaw01.RhythmGaps': WHATEVER THE INPUT: true; the input reads as it did. -/
def rhythmGapsSpec : ChangeSpec := { name := "rhythmGaps", fn := fun _ => fun
  | [d1, d2, d3] => { results := [.lit (.bool true)], args := [d1, d2, d3] }
  | _ => none }
def rhythmGapsRow : OpenClaim := { program := "ytpoekblolicehaadoor", sum := "0642688fad22521312c722c623102b0a3bf224518ac7862e1471464d073565e0", func := "bolster/bolsterlaw01.RhythmGaps", spec := "rhythmGaps", inPlace := ["internal/bytealg.IndexByteString", "internal/bytealg.IndexString", "internal/abi.NoEscape"], named := ["unicode/utf8.first", "unicode/utf8.acceptRanges", "internal/bytealg.MaxLen"], apart := false, laid := [("unicode/utf8.acceptRanges", laid_unicode_utf8_acceptRanges), ("unicode/utf8.first", laid_unicode_utf8_first)] }
def RhythmGapsSaid : Prop := rhythmGapsRow.holds Tryd.pinned (OpenSpec.ofChange rhythmGapsSpec)

/-- ITS FALSE NEIGHBOUR: 'it returns false'. Refute it at one input. -/
def rhythmGapsWrong : ChangeSpec := { name := "rhythmGaps", fn := fun _ => fun
  | [d1, d2, d3] => { results := [.lit (.bool false)], args := [d1, d2, d3] }
  | _ => none }
def RhythmGapsWrongFalsely : Prop := rhythmGapsRow.holds Tryd.pinned (OpenSpec.ofChange rhythmGapsWrong)

/-- 'bolsterlaw01.RhythmThree': WHATEVER THE INPUT: true; the input reads as it did. -/
def rhythmThreeSpec : ChangeSpec := { name := "rhythmThree", fn := fun _ => fun
  | [d1, d2, d3] => { results := [.lit (.bool true)], args := [d1, d2, d3] }
  | _ => none }
def rhythmThreeRow : OpenClaim := { program := "ytpoekblolicehaadoor", sum := "0642688fad22521312c722c623102b0a3bf224518ac7862e1471464d073565e0", func := "bolster/bolsterlaw01.RhythmThree", spec := "rhythmThree", inPlace := ["internal/bytealg.IndexByteString", "internal/bytealg.IndexString", "internal/abi.NoEscape"], named := ["unicode/utf8.first", "unicode/utf8.acceptRanges", "internal/bytealg.MaxLen"], apart := false, laid := [("unicode/utf8.acceptRanges", laid_unicode_utf8_acceptRanges), ("unicode/utf8.first", laid_unicode_utf8_first)] }
def RhythmThreeSaid : Prop := rhythmThreeRow.holds Tryd.pinned (OpenSpec.ofChange rhythmThreeSpec)

/-- ITS FALSE NEIGHBOUR: 'it returns false'. Refute it at one input. -/
def rhythmThreeWrong : ChangeSpec := { name := "rhythmThree", fn := fun _ => fun
  | [d1, d2, d3] => { results := [.lit (.bool false)], args := [d1, d2, d3] }
  | _ => none }
def RhythmThreeWrongFalsely : Prop := rhythmThreeRow.holds Tryd.pinned (OpenSpec.ofChange rhythmThreeWrong)

/-- 'bolsterlaw01.RhythmLyndons': WHATEVER THE INPUT: true; the input reads as it did. -/
def rhythmLyndonsSpec : ChangeSpec := { name := "rhythmLyndons", fn := fun _ => fun
  | [d] => { results := [.lit (.bool true)], args := [d] }
  | _ => none }
def rhythmLyndonsRow : OpenClaim := { program := "ytpoekblolicehaadoor", sum := "0642688fad22521312c722c623102b0a3bf224518ac7862e1471464d073565e0", func := "bolster/bolsterlaw01.RhythmLyndons", spec := "rhythmLyndons", inPlace := ["internal/bytealg.IndexByteString", "internal/bytealg.IndexString", "internal/abi.NoEscape"], named := ["unicode/utf8.first", "unicode/utf8.acceptRanges", "internal/bytealg.MaxLen"], apart := false, laid := [("unicode/utf8.acceptRanges", laid_unicode_utf8_acceptRanges), ("unicode/utf8.first", laid_unicode_utf8_first)] }
def RhythmLyndonsSaid : Prop := rhythmLyndonsRow.holds Tryd.pinned (OpenSpec.ofChange rhythmLyndonsSpec)

/-- ITS FALSE NEIGHBOUR: 'it returns false'. Refute it at one input. -/
def rhythmLyndonsWrong : ChangeSpec := { name := "rhythmLyndons", fn := fun _ => fun
  | [d] => { results := [.lit (.bool false)], args := [d] }
  | _ => none }
def RhythmLyndonsWrongFalsely : Prop := rhythmLyndonsRow.holds Tryd.pinned (OpenSpec.ofChange rhythmLyndonsWrong)

/-- 'bolsterlaw01.RhythmWords': WHATEVER THE INPUT: true; the input reads as it did. -/
def rhythmWordsSpec : ChangeSpec := { name := "rhythmWords", fn := fun _ => fun
  | [d] => { results := [.lit (.bool true)], args := [d] }
  | _ => none }
def rhythmWordsRow : OpenClaim := { program := "ytpoekblolicehaadoor", sum := "0642688fad22521312c722c623102b0a3bf224518ac7862e1471464d073565e0", func := "bolster/bolsterlaw01.RhythmWords", spec := "rhythmWords", inPlace := ["internal/bytealg.IndexByteString", "internal/bytealg.IndexString", "internal/abi.NoEscape"], named := ["unicode/utf8.first", "unicode/utf8.acceptRanges", "internal/bytealg.MaxLen"], apart := false, laid := [("unicode/utf8.acceptRanges", laid_unicode_utf8_acceptRanges), ("unicode/utf8.first", laid_unicode_utf8_first)] }
def RhythmWordsSaid : Prop := rhythmWordsRow.holds Tryd.pinned (OpenSpec.ofChange rhythmWordsSpec)

/-- ITS FALSE NEIGHBOUR: 'it returns false'. Refute it at one input. -/
def rhythmWordsWrong : ChangeSpec := { name := "rhythmWords", fn := fun _ => fun
  | [d] => { results := [.lit (.bool false)], args := [d] }
  | _ => none }
def RhythmWordsWrongFalsely : Prop := rhythmWordsRow.holds Tryd.pinned (OpenSpec.ofChange rhythmWordsWrong)

/-- 'bolsterlaw01.RhythmFew': WHATEVER THE INPUT: true; the input reads as it did. -/
def rhythmFewSpec : ChangeSpec := { name := "rhythmFew", fn := fun _ => fun
  | [d] => { results := [.lit (.bool true)], args := [d] }
  | _ => none }
def rhythmFewRow : OpenClaim := { program := "ytpoekblolicehaadoor", sum := "0642688fad22521312c722c623102b0a3bf224518ac7862e1471464d073565e0", func := "bolster/bolsterlaw01.RhythmFew", spec := "rhythmFew", inPlace := ["internal/bytealg.IndexByteString", "internal/bytealg.IndexString", "internal/abi.NoEscape"], unfollowed := true, recurses := true, named := ["unicode/utf8.first", "unicode/utf8.acceptRanges", "internal/bytealg.MaxLen"], apart := false, laid := [("unicode/utf8.acceptRanges", laid_unicode_utf8_acceptRanges), ("unicode/utf8.first", laid_unicode_utf8_first)] }
def RhythmFewSaid : Prop := rhythmFewRow.holds Tryd.pinned (OpenSpec.ofChange rhythmFewSpec)

/-- ITS FALSE NEIGHBOUR: 'it returns false'. Refute it at one input. -/
def rhythmFewWrong : ChangeSpec := { name := "rhythmFew", fn := fun _ => fun
  | [d] => { results := [.lit (.bool false)], args := [d] }
  | _ => none }
def RhythmFewWrongFalsely : Prop := rhythmFewRow.holds Tryd.pinned (OpenSpec.ofChange rhythmFewWrong)

/-- 'bolsterlaw01.RhythmRotations': WHATEVER THE INPUT: true; the input reads as it did. -/
def rhythmRotationsSpec : ChangeSpec := { name := "rhythmRotations", fn := fun _ => fun
  | [d1, d2] => { results := [.lit (.bool true)], args := [d1, d2] }
  | _ => none }
def rhythmRotationsRow : OpenClaim := { program := "ytpoekblolicehaadoor", sum := "0642688fad22521312c722c623102b0a3bf224518ac7862e1471464d073565e0", func := "bolster/bolsterlaw01.RhythmRotations", spec := "rhythmRotations", inPlace := ["internal/bytealg.IndexByteString", "internal/bytealg.IndexString", "internal/abi.NoEscape"], named := ["unicode/utf8.first", "unicode/utf8.acceptRanges", "internal/bytealg.MaxLen"], apart := false, laid := [("unicode/utf8.acceptRanges", laid_unicode_utf8_acceptRanges), ("unicode/utf8.first", laid_unicode_utf8_first)] }
def RhythmRotationsSaid : Prop := rhythmRotationsRow.holds Tryd.pinned (OpenSpec.ofChange rhythmRotationsSpec)

/-- ITS FALSE NEIGHBOUR: 'it returns false'. Refute it at one input. -/
def rhythmRotationsWrong : ChangeSpec := { name := "rhythmRotations", fn := fun _ => fun
  | [d1, d2] => { results := [.lit (.bool false)], args := [d1, d2] }
  | _ => none }
def RhythmRotationsWrongFalsely : Prop := rhythmRotationsRow.holds Tryd.pinned (OpenSpec.ofChange rhythmRotationsWrong)

/-- 'bolsterlaw01.RhythmSquares': WHATEVER THE INPUT: true; the input reads as it did. -/
def rhythmSquaresSpec : ChangeSpec := { name := "rhythmSquares", fn := fun _ => fun
  | [d] => { results := [.lit (.bool true)], args := [d] }
  | _ => none }
def rhythmSquaresRow : OpenClaim := { program := "ytpoekblolicehaadoor", sum := "0642688fad22521312c722c623102b0a3bf224518ac7862e1471464d073565e0", func := "bolster/bolsterlaw01.RhythmSquares", spec := "rhythmSquares", inPlace := ["internal/bytealg.IndexByteString", "internal/bytealg.IndexString", "internal/abi.NoEscape"], unfollowed := true, recurses := true, named := ["unicode/utf8.first", "unicode/utf8.acceptRanges", "internal/bytealg.MaxLen"], apart := false, laid := [("unicode/utf8.acceptRanges", laid_unicode_utf8_acceptRanges), ("unicode/utf8.first", laid_unicode_utf8_first)] }
def RhythmSquaresSaid : Prop := rhythmSquaresRow.holds Tryd.pinned (OpenSpec.ofChange rhythmSquaresSpec)

/-- ITS FALSE NEIGHBOUR: 'it returns false'. Refute it at one input. -/
def rhythmSquaresWrong : ChangeSpec := { name := "rhythmSquares", fn := fun _ => fun
  | [d] => { results := [.lit (.bool false)], args := [d] }
  | _ => none }
def RhythmSquaresWrongFalsely : Prop := rhythmSquaresRow.holds Tryd.pinned (OpenSpec.ofChange rhythmSquaresWrong)

/-- 'bolsterlaw01.RhythmBalances': WHATEVER THE INPUT: true; the input reads as it did. -/
def rhythmBalancesSpec : ChangeSpec := { name := "rhythmBalances", fn := fun _ => fun
  | [d] => { results := [.lit (.bool true)], args := [d] }
  | _ => none }
def rhythmBalancesRow : OpenClaim := { program := "ytpoekblolicehaadoor", sum := "0642688fad22521312c722c623102b0a3bf224518ac7862e1471464d073565e0", func := "bolster/bolsterlaw01.RhythmBalances", spec := "rhythmBalances", inPlace := ["internal/bytealg.IndexByteString", "internal/bytealg.IndexString", "internal/bytealg.CountString", "internal/abi.NoEscape"], unfollowed := true, recurses := true, named := ["unicode/utf8.first", "unicode/utf8.acceptRanges", "internal/bytealg.MaxLen"], apart := false, laid := [("unicode/utf8.acceptRanges", laid_unicode_utf8_acceptRanges), ("unicode/utf8.first", laid_unicode_utf8_first)] }
def RhythmBalancesSaid : Prop := rhythmBalancesRow.holds Tryd.pinned (OpenSpec.ofChange rhythmBalancesSpec)

/-- ITS FALSE NEIGHBOUR: 'it returns false'. Refute it at one input. -/
def rhythmBalancesWrong : ChangeSpec := { name := "rhythmBalances", fn := fun _ => fun
  | [d] => { results := [.lit (.bool false)], args := [d] }
  | _ => none }
def RhythmBalancesWrongFalsely : Prop := rhythmBalancesRow.holds Tryd.pinned (OpenSpec.ofChange rhythmBalancesWrong)

/-- 'bolsterlaw01.RhythmChristoffel': WHATEVER THE INPUT: true; the input reads as it did. -/
def rhythmChristoffelSpec : ChangeSpec := { name := "rhythmChristoffel", fn := fun _ => fun
  | [d1, d2] => { results := [.lit (.bool true)], args := [d1, d2] }
  | _ => none }
def rhythmChristoffelRow : OpenClaim := { program := "ytpoekblolicehaadoor", sum := "0642688fad22521312c722c623102b0a3bf224518ac7862e1471464d073565e0", func := "bolster/bolsterlaw01.RhythmChristoffel", spec := "rhythmChristoffel", inPlace := ["internal/abi.NoEscape", "internal/bytealg.IndexByteString", "internal/bytealg.IndexString", "internal/bytealg.CountString"], unfollowed := true, recurses := true, named := ["unicode/utf8.first", "unicode/utf8.acceptRanges", "internal/bytealg.MaxLen"], apart := false, laid := [("unicode/utf8.acceptRanges", laid_unicode_utf8_acceptRanges), ("unicode/utf8.first", laid_unicode_utf8_first)] }
def RhythmChristoffelSaid : Prop := rhythmChristoffelRow.holds Tryd.pinned (OpenSpec.ofChange rhythmChristoffelSpec)

/-- ITS FALSE NEIGHBOUR: 'it returns false'. Refute it at one input. -/
def rhythmChristoffelWrong : ChangeSpec := { name := "rhythmChristoffel", fn := fun _ => fun
  | [d1, d2] => { results := [.lit (.bool false)], args := [d1, d2] }
  | _ => none }
def RhythmChristoffelWrongFalsely : Prop := rhythmChristoffelRow.holds Tryd.pinned (OpenSpec.ofChange rhythmChristoffelWrong)

/-- 'bolsterlaw01.RhythmEven': WHATEVER THE INPUT: true; the input reads as it did. -/
def rhythmEvenSpec : ChangeSpec := { name := "rhythmEven", fn := fun _ => fun
  | [d] => { results := [.lit (.bool true)], args := [d] }
  | _ => none }
def rhythmEvenRow : OpenClaim := { program := "ytpoekblolicehaadoor", sum := "0642688fad22521312c722c623102b0a3bf224518ac7862e1471464d073565e0", func := "bolster/bolsterlaw01.RhythmEven", spec := "rhythmEven", inPlace := ["internal/bytealg.IndexByteString", "internal/bytealg.IndexString", "internal/abi.NoEscape", "internal/bytealg.CountString"], unfollowed := true, recurses := true, named := ["unicode/utf8.first", "unicode/utf8.acceptRanges", "internal/bytealg.MaxLen"], apart := false, laid := [("unicode/utf8.acceptRanges", laid_unicode_utf8_acceptRanges), ("unicode/utf8.first", laid_unicode_utf8_first)] }
def RhythmEvenSaid : Prop := rhythmEvenRow.holds Tryd.pinned (OpenSpec.ofChange rhythmEvenSpec)

/-- ITS FALSE NEIGHBOUR: 'it returns false'. Refute it at one input. -/
def rhythmEvenWrong : ChangeSpec := { name := "rhythmEven", fn := fun _ => fun
  | [d] => { results := [.lit (.bool false)], args := [d] }
  | _ => none }
def RhythmEvenWrongFalsely : Prop := rhythmEvenRow.holds Tryd.pinned (OpenSpec.ofChange rhythmEvenWrong)

/-- 'bolsterlaw01.RhythmReversed': WHATEVER THE INPUT: true; the input reads as it did. -/
def rhythmReversedSpec : ChangeSpec := { name := "rhythmReversed", fn := fun _ => fun
  | [d] => { results := [.lit (.bool true)], args := [d] }
  | _ => none }
def rhythmReversedRow : OpenClaim := { program := "ytpoekblolicehaadoor", sum := "0642688fad22521312c722c623102b0a3bf224518ac7862e1471464d073565e0", func := "bolster/bolsterlaw01.RhythmReversed", spec := "rhythmReversed", inPlace := ["internal/bytealg.IndexByteString", "internal/bytealg.IndexString", "internal/bytealg.CountString", "internal/abi.NoEscape"], unfollowed := true, recurses := true, named := ["unicode/utf8.first", "unicode/utf8.acceptRanges", "internal/bytealg.MaxLen"], apart := false, laid := [("unicode/utf8.acceptRanges", laid_unicode_utf8_acceptRanges), ("unicode/utf8.first", laid_unicode_utf8_first)] }
def RhythmReversedSaid : Prop := rhythmReversedRow.holds Tryd.pinned (OpenSpec.ofChange rhythmReversedSpec)

/-- ITS FALSE NEIGHBOUR: 'it returns false'. Refute it at one input. -/
def rhythmReversedWrong : ChangeSpec := { name := "rhythmReversed", fn := fun _ => fun
  | [d] => { results := [.lit (.bool false)], args := [d] }
  | _ => none }
def RhythmReversedWrongFalsely : Prop := rhythmReversedRow.holds Tryd.pinned (OpenSpec.ofChange rhythmReversedWrong)

/- THE SECOND FORM. 'bulk': how many values and letters a reading holds, each counted each time it is reached (what is shared counts as often as it is met; a slice's spare places count too). A statement '..UptoSaid' is the law's where the arguments, and the package variables that the reading takes, are together of bulk at most 1048576: NARROWER than '..Said'. Prove '..Said' where nothing that the law and all that it calls make is longer than what came in: it says more and counts as full. Else prove '..UptoSaid'. A law counts once. -/
mutual
def uptoBulk {H : Type} : DataW H → Nat
  | .lit (.string bytes) => bytes.length + 1
  | .lit _ => 1
  | .nil => 1
  | .ptr d => uptoBulk d + 1
  | .slice elems spare => uptoBulkAll elems + uptoBulkAll spare + 1
  | .agg parts => uptoBulkAll parts + 1
  | .iface _ d => uptoBulk d + 1
  | .map entries => uptoBulkEntries entries + 1
  | .held _ => 1
def uptoBulkAll {H : Type} : List (DataW H) → Nat
  | [] => 0
  | d :: r => uptoBulk d + uptoBulkAll r
def uptoBulkEntries {H : Type} : List (Lit × DataW H) → Nat
  | [] => 0
  | x :: r => uptoBulkEntry x + uptoBulkEntries r
def uptoBulkEntry {H : Type} : Lit × DataW H → Nat
  | (.string bytes, d) => bytes.length + uptoBulk d + 1
  | (_, d) => uptoBulk d + 1
 end
def uptoSmall : (H : Type) → List (DataW H) → Bool := fun _ ds => decide (uptoBulkAll ds ≤ 1048576)
def OpenSpec.upto (s : _root_.Go.ChangeSpec) : _root_.Go.OpenSpec := { _root_.Go.OpenSpec.ofChange s with cond := some uptoSmall }

/-- 'bolsterlaw01.RhythmPeriods', WHERE WHAT IT READS IS OF BULK AT MOST 1048576: true; the input reads as it did. -/
def rhythmPeriodsUptoRow : OpenClaim := { program := "ytpoekblolicehaadoor", sum := "0642688fad22521312c722c623102b0a3bf224518ac7862e1471464d073565e0", func := "bolster/bolsterlaw01.RhythmPeriods", spec := "rhythmPeriods", inPlace := ["internal/bytealg.IndexByteString", "internal/bytealg.IndexString", "internal/abi.NoEscape"], named := ["unicode/utf8.first", "unicode/utf8.acceptRanges", "internal/bytealg.MaxLen"], apart := false, laid := [("unicode/utf8.acceptRanges", laid_unicode_utf8_acceptRanges), ("unicode/utf8.first", laid_unicode_utf8_first)], narrowed := true }
def RhythmPeriodsUptoSaid : Prop := rhythmPeriodsUptoRow.holds Tryd.pinned (OpenSpec.upto rhythmPeriodsSpec)

/-- 'bolsterlaw01.RhythmLocals', WHERE WHAT IT READS IS OF BULK AT MOST 1048576: true; the input reads as it did. -/
def rhythmLocalsUptoRow : OpenClaim := { program := "ytpoekblolicehaadoor", sum := "0642688fad22521312c722c623102b0a3bf224518ac7862e1471464d073565e0", func := "bolster/bolsterlaw01.RhythmLocals", spec := "rhythmLocals", inPlace := ["internal/bytealg.IndexByteString", "internal/bytealg.IndexString", "internal/abi.NoEscape"], named := ["unicode/utf8.first", "unicode/utf8.acceptRanges", "internal/bytealg.MaxLen"], apart := false, laid := [("unicode/utf8.acceptRanges", laid_unicode_utf8_acceptRanges), ("unicode/utf8.first", laid_unicode_utf8_first)], narrowed := true }
def RhythmLocalsUptoSaid : Prop := rhythmLocalsUptoRow.holds Tryd.pinned (OpenSpec.upto rhythmLocalsSpec)

/-- 'bolsterlaw01.RhythmRuns', WHERE WHAT IT READS IS OF BULK AT MOST 1048576: true; the input reads as it did. -/
def rhythmRunsUptoRow : OpenClaim := { program := "ytpoekblolicehaadoor", sum := "0642688fad22521312c722c623102b0a3bf224518ac7862e1471464d073565e0", func := "bolster/bolsterlaw01.RhythmRuns", spec := "rhythmRuns", inPlace := ["internal/bytealg.IndexByteString", "internal/bytealg.IndexString", "internal/abi.NoEscape"], named := ["unicode/utf8.first", "unicode/utf8.acceptRanges", "internal/bytealg.MaxLen"], apart := false, laid := [("unicode/utf8.acceptRanges", laid_unicode_utf8_acceptRanges), ("unicode/utf8.first", laid_unicode_utf8_first)], narrowed := true }
def RhythmRunsUptoSaid : Prop := rhythmRunsUptoRow.holds Tryd.pinned (OpenSpec.upto rhythmRunsSpec)

/-- 'bolsterlaw01.RhythmEvens', WHERE WHAT IT READS IS OF BULK AT MOST 1048576: true; the input reads as it did. -/
def rhythmEvensUptoRow : OpenClaim := { program := "ytpoekblolicehaadoor", sum := "0642688fad22521312c722c623102b0a3bf224518ac7862e1471464d073565e0", func := "bolster/bolsterlaw01.RhythmEvens", spec := "rhythmEvens", inPlace := ["internal/abi.NoEscape", "internal/bytealg.IndexByteString", "internal/bytealg.IndexString"], named := ["unicode/utf8.first", "unicode/utf8.acceptRanges", "internal/bytealg.MaxLen"], apart := false, laid := [("unicode/utf8.acceptRanges", laid_unicode_utf8_acceptRanges), ("unicode/utf8.first", laid_unicode_utf8_first)], narrowed := true }
def RhythmEvensUptoSaid : Prop := rhythmEvensUptoRow.holds Tryd.pinned (OpenSpec.upto rhythmEvensSpec)

/-- 'bolsterlaw01.RhythmTwo', WHERE WHAT IT READS IS OF BULK AT MOST 1048576: true; the input reads as it did. -/
def rhythmTwoUptoRow : OpenClaim := { program := "ytpoekblolicehaadoor", sum := "0642688fad22521312c722c623102b0a3bf224518ac7862e1471464d073565e0", func := "bolster/bolsterlaw01.RhythmTwo", spec := "rhythmTwo", inPlace := ["internal/bytealg.IndexByteString", "internal/bytealg.IndexString", "internal/abi.NoEscape"], unfollowed := true, recurses := true, named := ["unicode/utf8.first", "unicode/utf8.acceptRanges", "internal/bytealg.MaxLen"], apart := false, laid := [("unicode/utf8.acceptRanges", laid_unicode_utf8_acceptRanges), ("unicode/utf8.first", laid_unicode_utf8_first)], narrowed := true }
def RhythmTwoUptoSaid : Prop := rhythmTwoUptoRow.holds Tryd.pinned (OpenSpec.upto rhythmTwoSpec)

/-- 'bolsterlaw01.RhythmCritical', WHERE WHAT IT READS IS OF BULK AT MOST 1048576: true; the input reads as it did. -/
def rhythmCriticalUptoRow : OpenClaim := { program := "ytpoekblolicehaadoor", sum := "0642688fad22521312c722c623102b0a3bf224518ac7862e1471464d073565e0", func := "bolster/bolsterlaw01.RhythmCritical", spec := "rhythmCritical", inPlace := ["internal/bytealg.IndexByteString", "internal/bytealg.IndexString", "internal/abi.NoEscape"], named := ["unicode/utf8.first", "unicode/utf8.acceptRanges", "internal/bytealg.MaxLen"], apart := false, laid := [("unicode/utf8.acceptRanges", laid_unicode_utf8_acceptRanges), ("unicode/utf8.first", laid_unicode_utf8_first)], narrowed := true }
def RhythmCriticalUptoSaid : Prop := rhythmCriticalUptoRow.holds Tryd.pinned (OpenSpec.upto rhythmCriticalSpec)

/-- 'bolsterlaw01.RhythmTurns', WHERE WHAT IT READS IS OF BULK AT MOST 1048576: true; the input reads as it did. -/
def rhythmTurnsUptoRow : OpenClaim := { program := "ytpoekblolicehaadoor", sum := "0642688fad22521312c722c623102b0a3bf224518ac7862e1471464d073565e0", func := "bolster/bolsterlaw01.RhythmTurns", spec := "rhythmTurns", inPlace := ["internal/bytealg.IndexByteString", "internal/bytealg.IndexString", "internal/abi.NoEscape"], named := ["unicode/utf8.first", "unicode/utf8.acceptRanges", "internal/bytealg.MaxLen"], apart := false, laid := [("unicode/utf8.acceptRanges", laid_unicode_utf8_acceptRanges), ("unicode/utf8.first", laid_unicode_utf8_first)], narrowed := true }
def RhythmTurnsUptoSaid : Prop := rhythmTurnsUptoRow.holds Tryd.pinned (OpenSpec.upto rhythmTurnsSpec)

/-- 'bolsterlaw01.RhythmGaps', WHERE WHAT IT READS IS OF BULK AT MOST 1048576: true; the input reads as it did. -/
def rhythmGapsUptoRow : OpenClaim := { program := "ytpoekblolicehaadoor", sum := "0642688fad22521312c722c623102b0a3bf224518ac7862e1471464d073565e0", func := "bolster/bolsterlaw01.RhythmGaps", spec := "rhythmGaps", inPlace := ["internal/bytealg.IndexByteString", "internal/bytealg.IndexString", "internal/abi.NoEscape"], named := ["unicode/utf8.first", "unicode/utf8.acceptRanges", "internal/bytealg.MaxLen"], apart := false, laid := [("unicode/utf8.acceptRanges", laid_unicode_utf8_acceptRanges), ("unicode/utf8.first", laid_unicode_utf8_first)], narrowed := true }
def RhythmGapsUptoSaid : Prop := rhythmGapsUptoRow.holds Tryd.pinned (OpenSpec.upto rhythmGapsSpec)

/-- 'bolsterlaw01.RhythmThree', WHERE WHAT IT READS IS OF BULK AT MOST 1048576: true; the input reads as it did. -/
def rhythmThreeUptoRow : OpenClaim := { program := "ytpoekblolicehaadoor", sum := "0642688fad22521312c722c623102b0a3bf224518ac7862e1471464d073565e0", func := "bolster/bolsterlaw01.RhythmThree", spec := "rhythmThree", inPlace := ["internal/bytealg.IndexByteString", "internal/bytealg.IndexString", "internal/abi.NoEscape"], named := ["unicode/utf8.first", "unicode/utf8.acceptRanges", "internal/bytealg.MaxLen"], apart := false, laid := [("unicode/utf8.acceptRanges", laid_unicode_utf8_acceptRanges), ("unicode/utf8.first", laid_unicode_utf8_first)], narrowed := true }
def RhythmThreeUptoSaid : Prop := rhythmThreeUptoRow.holds Tryd.pinned (OpenSpec.upto rhythmThreeSpec)

/-- 'bolsterlaw01.RhythmLyndons', WHERE WHAT IT READS IS OF BULK AT MOST 1048576: true; the input reads as it did. -/
def rhythmLyndonsUptoRow : OpenClaim := { program := "ytpoekblolicehaadoor", sum := "0642688fad22521312c722c623102b0a3bf224518ac7862e1471464d073565e0", func := "bolster/bolsterlaw01.RhythmLyndons", spec := "rhythmLyndons", inPlace := ["internal/bytealg.IndexByteString", "internal/bytealg.IndexString", "internal/abi.NoEscape"], named := ["unicode/utf8.first", "unicode/utf8.acceptRanges", "internal/bytealg.MaxLen"], apart := false, laid := [("unicode/utf8.acceptRanges", laid_unicode_utf8_acceptRanges), ("unicode/utf8.first", laid_unicode_utf8_first)], narrowed := true }
def RhythmLyndonsUptoSaid : Prop := rhythmLyndonsUptoRow.holds Tryd.pinned (OpenSpec.upto rhythmLyndonsSpec)

/-- 'bolsterlaw01.RhythmWords', WHERE WHAT IT READS IS OF BULK AT MOST 1048576: true; the input reads as it did. -/
def rhythmWordsUptoRow : OpenClaim := { program := "ytpoekblolicehaadoor", sum := "0642688fad22521312c722c623102b0a3bf224518ac7862e1471464d073565e0", func := "bolster/bolsterlaw01.RhythmWords", spec := "rhythmWords", inPlace := ["internal/bytealg.IndexByteString", "internal/bytealg.IndexString", "internal/abi.NoEscape"], named := ["unicode/utf8.first", "unicode/utf8.acceptRanges", "internal/bytealg.MaxLen"], apart := false, laid := [("unicode/utf8.acceptRanges", laid_unicode_utf8_acceptRanges), ("unicode/utf8.first", laid_unicode_utf8_first)], narrowed := true }
def RhythmWordsUptoSaid : Prop := rhythmWordsUptoRow.holds Tryd.pinned (OpenSpec.upto rhythmWordsSpec)

/-- 'bolsterlaw01.RhythmFew', WHERE WHAT IT READS IS OF BULK AT MOST 1048576: true; the input reads as it did. -/
def rhythmFewUptoRow : OpenClaim := { program := "ytpoekblolicehaadoor", sum := "0642688fad22521312c722c623102b0a3bf224518ac7862e1471464d073565e0", func := "bolster/bolsterlaw01.RhythmFew", spec := "rhythmFew", inPlace := ["internal/bytealg.IndexByteString", "internal/bytealg.IndexString", "internal/abi.NoEscape"], unfollowed := true, recurses := true, named := ["unicode/utf8.first", "unicode/utf8.acceptRanges", "internal/bytealg.MaxLen"], apart := false, laid := [("unicode/utf8.acceptRanges", laid_unicode_utf8_acceptRanges), ("unicode/utf8.first", laid_unicode_utf8_first)], narrowed := true }
def RhythmFewUptoSaid : Prop := rhythmFewUptoRow.holds Tryd.pinned (OpenSpec.upto rhythmFewSpec)

/-- 'bolsterlaw01.RhythmRotations', WHERE WHAT IT READS IS OF BULK AT MOST 1048576: true; the input reads as it did. -/
def rhythmRotationsUptoRow : OpenClaim := { program := "ytpoekblolicehaadoor", sum := "0642688fad22521312c722c623102b0a3bf224518ac7862e1471464d073565e0", func := "bolster/bolsterlaw01.RhythmRotations", spec := "rhythmRotations", inPlace := ["internal/bytealg.IndexByteString", "internal/bytealg.IndexString", "internal/abi.NoEscape"], named := ["unicode/utf8.first", "unicode/utf8.acceptRanges", "internal/bytealg.MaxLen"], apart := false, laid := [("unicode/utf8.acceptRanges", laid_unicode_utf8_acceptRanges), ("unicode/utf8.first", laid_unicode_utf8_first)], narrowed := true }
def RhythmRotationsUptoSaid : Prop := rhythmRotationsUptoRow.holds Tryd.pinned (OpenSpec.upto rhythmRotationsSpec)

/-- 'bolsterlaw01.RhythmSquares', WHERE WHAT IT READS IS OF BULK AT MOST 1048576: true; the input reads as it did. -/
def rhythmSquaresUptoRow : OpenClaim := { program := "ytpoekblolicehaadoor", sum := "0642688fad22521312c722c623102b0a3bf224518ac7862e1471464d073565e0", func := "bolster/bolsterlaw01.RhythmSquares", spec := "rhythmSquares", inPlace := ["internal/bytealg.IndexByteString", "internal/bytealg.IndexString", "internal/abi.NoEscape"], unfollowed := true, recurses := true, named := ["unicode/utf8.first", "unicode/utf8.acceptRanges", "internal/bytealg.MaxLen"], apart := false, laid := [("unicode/utf8.acceptRanges", laid_unicode_utf8_acceptRanges), ("unicode/utf8.first", laid_unicode_utf8_first)], narrowed := true }
def RhythmSquaresUptoSaid : Prop := rhythmSquaresUptoRow.holds Tryd.pinned (OpenSpec.upto rhythmSquaresSpec)

/-- 'bolsterlaw01.RhythmBalances', WHERE WHAT IT READS IS OF BULK AT MOST 1048576: true; the input reads as it did. -/
def rhythmBalancesUptoRow : OpenClaim := { program := "ytpoekblolicehaadoor", sum := "0642688fad22521312c722c623102b0a3bf224518ac7862e1471464d073565e0", func := "bolster/bolsterlaw01.RhythmBalances", spec := "rhythmBalances", inPlace := ["internal/bytealg.IndexByteString", "internal/bytealg.IndexString", "internal/bytealg.CountString", "internal/abi.NoEscape"], unfollowed := true, recurses := true, named := ["unicode/utf8.first", "unicode/utf8.acceptRanges", "internal/bytealg.MaxLen"], apart := false, laid := [("unicode/utf8.acceptRanges", laid_unicode_utf8_acceptRanges), ("unicode/utf8.first", laid_unicode_utf8_first)], narrowed := true }
def RhythmBalancesUptoSaid : Prop := rhythmBalancesUptoRow.holds Tryd.pinned (OpenSpec.upto rhythmBalancesSpec)

/-- 'bolsterlaw01.RhythmChristoffel', WHERE WHAT IT READS IS OF BULK AT MOST 1048576: true; the input reads as it did. -/
def rhythmChristoffelUptoRow : OpenClaim := { program := "ytpoekblolicehaadoor", sum := "0642688fad22521312c722c623102b0a3bf224518ac7862e1471464d073565e0", func := "bolster/bolsterlaw01.RhythmChristoffel", spec := "rhythmChristoffel", inPlace := ["internal/abi.NoEscape", "internal/bytealg.IndexByteString", "internal/bytealg.IndexString", "internal/bytealg.CountString"], unfollowed := true, recurses := true, named := ["unicode/utf8.first", "unicode/utf8.acceptRanges", "internal/bytealg.MaxLen"], apart := false, laid := [("unicode/utf8.acceptRanges", laid_unicode_utf8_acceptRanges), ("unicode/utf8.first", laid_unicode_utf8_first)], narrowed := true }
def RhythmChristoffelUptoSaid : Prop := rhythmChristoffelUptoRow.holds Tryd.pinned (OpenSpec.upto rhythmChristoffelSpec)

/-- 'bolsterlaw01.RhythmEven', WHERE WHAT IT READS IS OF BULK AT MOST 1048576: true; the input reads as it did. -/
def rhythmEvenUptoRow : OpenClaim := { program := "ytpoekblolicehaadoor", sum := "0642688fad22521312c722c623102b0a3bf224518ac7862e1471464d073565e0", func := "bolster/bolsterlaw01.RhythmEven", spec := "rhythmEven", inPlace := ["internal/bytealg.IndexByteString", "internal/bytealg.IndexString", "internal/abi.NoEscape", "internal/bytealg.CountString"], unfollowed := true, recurses := true, named := ["unicode/utf8.first", "unicode/utf8.acceptRanges", "internal/bytealg.MaxLen"], apart := false, laid := [("unicode/utf8.acceptRanges", laid_unicode_utf8_acceptRanges), ("unicode/utf8.first", laid_unicode_utf8_first)], narrowed := true }
def RhythmEvenUptoSaid : Prop := rhythmEvenUptoRow.holds Tryd.pinned (OpenSpec.upto rhythmEvenSpec)

/-- 'bolsterlaw01.RhythmReversed', WHERE WHAT IT READS IS OF BULK AT MOST 1048576: true; the input reads as it did. -/
def rhythmReversedUptoRow : OpenClaim := { program := "ytpoekblolicehaadoor", sum := "0642688fad22521312c722c623102b0a3bf224518ac7862e1471464d073565e0", func := "bolster/bolsterlaw01.RhythmReversed", spec := "rhythmReversed", inPlace := ["internal/bytealg.IndexByteString", "internal/bytealg.IndexString", "internal/bytealg.CountString", "internal/abi.NoEscape"], unfollowed := true, recurses := true, named := ["unicode/utf8.first", "unicode/utf8.acceptRanges", "internal/bytealg.MaxLen"], apart := false, laid := [("unicode/utf8.acceptRanges", laid_unicode_utf8_acceptRanges), ("unicode/utf8.first", laid_unicode_utf8_first)], narrowed := true }
def RhythmReversedUptoSaid : Prop := rhythmReversedUptoRow.holds Tryd.pinned (OpenSpec.upto rhythmReversedSpec)

end Rows
end Go.Proofs.YtpoekblolicehaaDoor
