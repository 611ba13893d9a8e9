/-
  No cell of these rows narrows 'for every input' (looked for: loops, veiled, ifaces, maps, wideKeys, modest, calm, conditions, laid).
  DERIVED. THE GIVEN ROWS OF THIS SEAT. 13 by the template 'for every input the law returns true; each argument reads behind the call as it read before'; 0 by the template 'total and deterministic' (their statements: YtaedbkdimpdngaaTotals.lean).
  GIVEN WITH THE SEED: the statements are not yours to turn. If you find one false, say at which input.
  Laid BY PROGRAM, IN A SANDBOX (cutbox-rows.mjs): the forced cells as the released guide's own fill.sh prints them over the translation 20b9fe8927653119… (all of the seat's roots in one cut). By AI agents, Wed Nov 11 2026. No macro, syntax, notation, axiom, sorry.
-/
import Derived.Test.YtaedbkdimpdngaaChecked
import GoSem.Claim
import GoSem.ClaimJoined
import GoSem.ClaimMapViews
import Derived.JoinedTies
import Derived.KernelRfl
namespace Go.Proofs.Ytaedbkdimpdngaa
/- THE CELL 'sum', in the pinned program and in every row, IS THE sha256 OF THE DUMP (.gsa) THAT YtaedbkdimpdngaaProg.lean LOADS. Nothing in Lean hashes anything: it is a label: what it is worth is what the hold of that sum in a sandbox is worth. -/
noncomputable def Try.pinned : Pinned := { name := "ytaedbkdimpdngaa", sum := "20b9fe8927653119996bee1cccd67c6490c9c601e3a10bbace2d57dd447f2c5a", checked := Try.checked }
namespace Rows
def none {H : Type} : Left H := { results := [], args := [] }

/-- 'bolsterlaw12.ClaimGranted': WHATEVER THE INPUT: true; the input reads as it did. -/
def claimGrantedSpec : ChangeSpec := { name := "claimGranted", fn := fun _ => fun
  | [d1, d2, d3] => { results := [.lit (.bool true)], args := [d1, d2, d3] }
  | _ => none }
def claimGrantedRow : OpenClaim := { program := "ytaedbkdimpdngaa", sum := "20b9fe8927653119996bee1cccd67c6490c9c601e3a10bbace2d57dd447f2c5a", func := "bolster/bolsterlaw12.ClaimGranted", spec := "claimGranted", unfollowed := true, recurses := true, apart := false }
def ClaimGrantedSaid : Prop := claimGrantedRow.holds Try.pinned (OpenSpec.ofChange claimGrantedSpec)

/-- ITS FALSE NEIGHBOUR: 'it returns false'. Refute it at one input. -/
def claimGrantedWrong : ChangeSpec := { name := "claimGranted", fn := fun _ => fun
  | [d1, d2, d3] => { results := [.lit (.bool false)], args := [d1, d2, d3] }
  | _ => none }
def ClaimGrantedWrongFalsely : Prop := claimGrantedRow.holds Try.pinned (OpenSpec.ofChange claimGrantedWrong)

/-- 'bolsterlaw12.ClaimOdds': WHATEVER THE INPUT: true; the input reads as it did. -/
def claimOddsSpec : ChangeSpec := { name := "claimOdds", fn := fun _ => fun
  | [d1, d2] => { results := [.lit (.bool true)], args := [d1, d2] }
  | _ => none }
def claimOddsRow : OpenClaim := { program := "ytaedbkdimpdngaa", sum := "20b9fe8927653119996bee1cccd67c6490c9c601e3a10bbace2d57dd447f2c5a", func := "bolster/bolsterlaw12.ClaimOdds", spec := "claimOdds", unfollowed := true, recurses := true, apart := false }
def ClaimOddsSaid : Prop := claimOddsRow.holds Try.pinned (OpenSpec.ofChange claimOddsSpec)

/-- ITS FALSE NEIGHBOUR: 'it returns false'. Refute it at one input. -/
def claimOddsWrong : ChangeSpec := { name := "claimOdds", fn := fun _ => fun
  | [d1, d2] => { results := [.lit (.bool false)], args := [d1, d2] }
  | _ => none }
def ClaimOddsWrongFalsely : Prop := claimOddsRow.holds Try.pinned (OpenSpec.ofChange claimOddsWrong)

/-- 'bolsterlaw12.ClaimNames': WHATEVER THE INPUT: true; the input reads as it did. -/
def claimNamesSpec : ChangeSpec := { name := "claimNames", fn := fun _ => fun
  | [d1, d2, d3] => { results := [.lit (.bool true)], args := [d1, d2, d3] }
  | _ => none }
def claimNamesRow : OpenClaim := { program := "ytaedbkdimpdngaa", sum := "20b9fe8927653119996bee1cccd67c6490c9c601e3a10bbace2d57dd447f2c5a", func := "bolster/bolsterlaw12.ClaimNames", spec := "claimNames", unfollowed := true, recurses := true, apart := false }
def ClaimNamesSaid : Prop := claimNamesRow.holds Try.pinned (OpenSpec.ofChange claimNamesSpec)

/-- ITS FALSE NEIGHBOUR: 'it returns false'. Refute it at one input. -/
def claimNamesWrong : ChangeSpec := { name := "claimNames", fn := fun _ => fun
  | [d1, d2, d3] => { results := [.lit (.bool false)], args := [d1, d2, d3] }
  | _ => none }
def ClaimNamesWrongFalsely : Prop := claimNamesRow.holds Try.pinned (OpenSpec.ofChange claimNamesWrong)

/-- 'bolsterlaw12.ClaimRings': WHATEVER THE INPUT: true; the input reads as it did. -/
def claimRingsSpec : ChangeSpec := { name := "claimRings", fn := fun _ => fun
  | [d1, d2, d3] => { results := [.lit (.bool true)], args := [d1, d2, d3] }
  | _ => none }
def claimRingsRow : OpenClaim := { program := "ytaedbkdimpdngaa", sum := "20b9fe8927653119996bee1cccd67c6490c9c601e3a10bbace2d57dd447f2c5a", func := "bolster/bolsterlaw12.ClaimRings", spec := "claimRings", unfollowed := true, recurses := true, apart := false }
def ClaimRingsSaid : Prop := claimRingsRow.holds Try.pinned (OpenSpec.ofChange claimRingsSpec)

/-- ITS FALSE NEIGHBOUR: 'it returns false'. Refute it at one input. -/
def claimRingsWrong : ChangeSpec := { name := "claimRings", fn := fun _ => fun
  | [d1, d2, d3] => { results := [.lit (.bool false)], args := [d1, d2, d3] }
  | _ => none }
def ClaimRingsWrongFalsely : Prop := claimRingsRow.holds Try.pinned (OpenSpec.ofChange claimRingsWrong)

/-- 'bolsterlaw12.ClaimIdeals': WHATEVER THE INPUT: true; the input reads as it did. -/
def claimIdealsSpec : ChangeSpec := { name := "claimIdeals", fn := fun _ => fun
  | [d1, d2] => { results := [.lit (.bool true)], args := [d1, d2] }
  | _ => none }
def claimIdealsRow : OpenClaim := { program := "ytaedbkdimpdngaa", sum := "20b9fe8927653119996bee1cccd67c6490c9c601e3a10bbace2d57dd447f2c5a", func := "bolster/bolsterlaw12.ClaimIdeals", spec := "claimIdeals", unfollowed := true, recurses := true, apart := false }
def ClaimIdealsSaid : Prop := claimIdealsRow.holds Try.pinned (OpenSpec.ofChange claimIdealsSpec)

/-- ITS FALSE NEIGHBOUR: 'it returns false'. Refute it at one input. -/
def claimIdealsWrong : ChangeSpec := { name := "claimIdeals", fn := fun _ => fun
  | [d1, d2] => { results := [.lit (.bool false)], args := [d1, d2] }
  | _ => none }
def ClaimIdealsWrongFalsely : Prop := claimIdealsRow.holds Try.pinned (OpenSpec.ofChange claimIdealsWrong)

/-- 'bolsterlaw12.ClaimSets': WHATEVER THE INPUT: true; the input reads as it did. -/
def claimSetsSpec : ChangeSpec := { name := "claimSets", fn := fun _ => fun
  | [d1, d2] => { results := [.lit (.bool true)], args := [d1, d2] }
  | _ => none }
def claimSetsRow : OpenClaim := { program := "ytaedbkdimpdngaa", sum := "20b9fe8927653119996bee1cccd67c6490c9c601e3a10bbace2d57dd447f2c5a", func := "bolster/bolsterlaw12.ClaimSets", spec := "claimSets", unfollowed := true, recurses := true, apart := false }
def ClaimSetsSaid : Prop := claimSetsRow.holds Try.pinned (OpenSpec.ofChange claimSetsSpec)

/-- ITS FALSE NEIGHBOUR: 'it returns false'. Refute it at one input. -/
def claimSetsWrong : ChangeSpec := { name := "claimSets", fn := fun _ => fun
  | [d1, d2] => { results := [.lit (.bool false)], args := [d1, d2] }
  | _ => none }
def ClaimSetsWrongFalsely : Prop := claimSetsRow.holds Try.pinned (OpenSpec.ofChange claimSetsWrong)

/-- 'bolsterlaw12.ClaimChain': WHATEVER THE INPUT: true; the input reads as it did. -/
def claimChainSpec : ChangeSpec := { name := "claimChain", fn := fun _ => fun
  | [d1, d2] => { results := [.lit (.bool true)], args := [d1, d2] }
  | _ => none }
def claimChainRow : OpenClaim := { program := "ytaedbkdimpdngaa", sum := "20b9fe8927653119996bee1cccd67c6490c9c601e3a10bbace2d57dd447f2c5a", func := "bolster/bolsterlaw12.ClaimChain", spec := "claimChain", unfollowed := true, recurses := true, apart := false }
def ClaimChainSaid : Prop := claimChainRow.holds Try.pinned (OpenSpec.ofChange claimChainSpec)

/-- ITS FALSE NEIGHBOUR: 'it returns false'. Refute it at one input. -/
def claimChainWrong : ChangeSpec := { name := "claimChain", fn := fun _ => fun
  | [d1, d2] => { results := [.lit (.bool false)], args := [d1, d2] }
  | _ => none }
def ClaimChainWrongFalsely : Prop := claimChainRow.holds Try.pinned (OpenSpec.ofChange claimChainWrong)

/-- 'bolsterlaw12.ClaimCores': WHATEVER THE INPUT: true; the input reads as it did. -/
def claimCoresSpec : ChangeSpec := { name := "claimCores", fn := fun _ => fun
  | [d1, d2] => { results := [.lit (.bool true)], args := [d1, d2] }
  | _ => none }
def claimCoresRow : OpenClaim := { program := "ytaedbkdimpdngaa", sum := "20b9fe8927653119996bee1cccd67c6490c9c601e3a10bbace2d57dd447f2c5a", func := "bolster/bolsterlaw12.ClaimCores", spec := "claimCores", unfollowed := true, recurses := true, apart := false }
def ClaimCoresSaid : Prop := claimCoresRow.holds Try.pinned (OpenSpec.ofChange claimCoresSpec)

/-- ITS FALSE NEIGHBOUR: 'it returns false'. Refute it at one input. -/
def claimCoresWrong : ChangeSpec := { name := "claimCores", fn := fun _ => fun
  | [d1, d2] => { results := [.lit (.bool false)], args := [d1, d2] }
  | _ => none }
def ClaimCoresWrongFalsely : Prop := claimCoresRow.holds Try.pinned (OpenSpec.ofChange claimCoresWrong)

/-- 'bolsterlaw12.ClaimDefends': WHATEVER THE INPUT: true; the input reads as it did. -/
def claimDefendsSpec : ChangeSpec := { name := "claimDefends", fn := fun _ => fun
  | [d1, d2, d3] => { results := [.lit (.bool true)], args := [d1, d2, d3] }
  | _ => none }
def claimDefendsRow : OpenClaim := { program := "ytaedbkdimpdngaa", sum := "20b9fe8927653119996bee1cccd67c6490c9c601e3a10bbace2d57dd447f2c5a", func := "bolster/bolsterlaw12.ClaimDefends", spec := "claimDefends", unfollowed := true, recurses := true, apart := false }
def ClaimDefendsSaid : Prop := claimDefendsRow.holds Try.pinned (OpenSpec.ofChange claimDefendsSpec)

/-- ITS FALSE NEIGHBOUR: 'it returns false'. Refute it at one input. -/
def claimDefendsWrong : ChangeSpec := { name := "claimDefends", fn := fun _ => fun
  | [d1, d2, d3] => { results := [.lit (.bool false)], args := [d1, d2, d3] }
  | _ => none }
def ClaimDefendsWrongFalsely : Prop := claimDefendsRow.holds Try.pinned (OpenSpec.ofChange claimDefendsWrong)

/-- 'bolsterlaw12.ClaimLemma': WHATEVER THE INPUT: true; the input reads as it did. -/
def claimLemmaSpec : ChangeSpec := { name := "claimLemma", fn := fun _ => fun
  | [d1, d2, d3] => { results := [.lit (.bool true)], args := [d1, d2, d3] }
  | _ => none }
def claimLemmaRow : OpenClaim := { program := "ytaedbkdimpdngaa", sum := "20b9fe8927653119996bee1cccd67c6490c9c601e3a10bbace2d57dd447f2c5a", func := "bolster/bolsterlaw12.ClaimLemma", spec := "claimLemma", unfollowed := true, recurses := true, apart := false }
def ClaimLemmaSaid : Prop := claimLemmaRow.holds Try.pinned (OpenSpec.ofChange claimLemmaSpec)

/-- ITS FALSE NEIGHBOUR: 'it returns false'. Refute it at one input. -/
def claimLemmaWrong : ChangeSpec := { name := "claimLemma", fn := fun _ => fun
  | [d1, d2, d3] => { results := [.lit (.bool false)], args := [d1, d2, d3] }
  | _ => none }
def ClaimLemmaWrongFalsely : Prop := claimLemmaRow.holds Try.pinned (OpenSpec.ofChange claimLemmaWrong)

/-- 'bolsterlaw12.ClaimLeast': WHATEVER THE INPUT: true; the input reads as it did. -/
def claimLeastSpec : ChangeSpec := { name := "claimLeast", fn := fun _ => fun
  | [d1, d2] => { results := [.lit (.bool true)], args := [d1, d2] }
  | _ => none }
def claimLeastRow : OpenClaim := { program := "ytaedbkdimpdngaa", sum := "20b9fe8927653119996bee1cccd67c6490c9c601e3a10bbace2d57dd447f2c5a", func := "bolster/bolsterlaw12.ClaimLeast", spec := "claimLeast", unfollowed := true, recurses := true, apart := false }
def ClaimLeastSaid : Prop := claimLeastRow.holds Try.pinned (OpenSpec.ofChange claimLeastSpec)

/-- ITS FALSE NEIGHBOUR: 'it returns false'. Refute it at one input. -/
def claimLeastWrong : ChangeSpec := { name := "claimLeast", fn := fun _ => fun
  | [d1, d2] => { results := [.lit (.bool false)], args := [d1, d2] }
  | _ => none }
def ClaimLeastWrongFalsely : Prop := claimLeastRow.holds Try.pinned (OpenSpec.ofChange claimLeastWrong)

/-- 'bolsterlaw12.ClaimCore': WHATEVER THE INPUT: true; the input reads as it did. -/
def claimCoreSpec : ChangeSpec := { name := "claimCore", fn := fun _ => fun
  | [d1, d2, d3] => { results := [.lit (.bool true)], args := [d1, d2, d3] }
  | _ => none }
def claimCoreRow : OpenClaim := { program := "ytaedbkdimpdngaa", sum := "20b9fe8927653119996bee1cccd67c6490c9c601e3a10bbace2d57dd447f2c5a", func := "bolster/bolsterlaw12.ClaimCore", spec := "claimCore", unfollowed := true, recurses := true, apart := false }
def ClaimCoreSaid : Prop := claimCoreRow.holds Try.pinned (OpenSpec.ofChange claimCoreSpec)

/-- ITS FALSE NEIGHBOUR: 'it returns false'. Refute it at one input. -/
def claimCoreWrong : ChangeSpec := { name := "claimCore", fn := fun _ => fun
  | [d1, d2, d3] => { results := [.lit (.bool false)], args := [d1, d2, d3] }
  | _ => none }
def ClaimCoreWrongFalsely : Prop := claimCoreRow.holds Try.pinned (OpenSpec.ofChange claimCoreWrong)

/-- 'bolsterlaw12.ClaimIdeal': WHATEVER THE INPUT: true; the input reads as it did. -/
def claimIdealSpec : ChangeSpec := { name := "claimIdeal", fn := fun _ => fun
  | [d1, d2] => { results := [.lit (.bool true)], args := [d1, d2] }
  | _ => none }
def claimIdealRow : OpenClaim := { program := "ytaedbkdimpdngaa", sum := "20b9fe8927653119996bee1cccd67c6490c9c601e3a10bbace2d57dd447f2c5a", func := "bolster/bolsterlaw12.ClaimIdeal", spec := "claimIdeal", unfollowed := true, recurses := true, apart := false }
def ClaimIdealSaid : Prop := claimIdealRow.holds Try.pinned (OpenSpec.ofChange claimIdealSpec)

/-- ITS FALSE NEIGHBOUR: 'it returns false'. Refute it at one input. -/
def claimIdealWrong : ChangeSpec := { name := "claimIdeal", fn := fun _ => fun
  | [d1, d2] => { results := [.lit (.bool false)], args := [d1, d2] }
  | _ => none }
def ClaimIdealWrongFalsely : Prop := claimIdealRow.holds Try.pinned (OpenSpec.ofChange claimIdealWrong)

/- THE SECOND FORM. 'bulk': how many values and letters a reading holds, each counted each time it is reached (what is shared counts as often as it is met; a slice's spare places count too). A statement '..UptoSaid' is the law's where the arguments, and the package variables that the reading takes, are together of bulk at most 1048576: NARROWER than '..Said'. Prove '..Said' where nothing that the law and all that it calls make is longer than what came in: it says more and counts as full. Else prove '..UptoSaid'. A law counts once. -/
mutual
def uptoBulk {H : Type} : DataW H → Nat
  | .lit (.string bytes) => bytes.length + 1
  | .lit _ => 1
  | .nil => 1
  | .ptr d => uptoBulk d + 1
  | .slice elems spare => uptoBulkAll elems + uptoBulkAll spare + 1
  | .agg parts => uptoBulkAll parts + 1
  | .iface _ d => uptoBulk d + 1
  | .map entries => uptoBulkEntries entries + 1
  | .held _ => 1
def uptoBulkAll {H : Type} : List (DataW H) → Nat
  | [] => 0
  | d :: r => uptoBulk d + uptoBulkAll r
def uptoBulkEntries {H : Type} : List (Lit × DataW H) → Nat
  | [] => 0
  | x :: r => uptoBulkEntry x + uptoBulkEntries r
def uptoBulkEntry {H : Type} : Lit × DataW H → Nat
  | (.string bytes, d) => bytes.length + uptoBulk d + 1
  | (_, d) => uptoBulk d + 1
 end
def uptoSmall : (H : Type) → List (DataW H) → Bool := fun _ ds => decide (uptoBulkAll ds ≤ 1048576)
def OpenSpec.upto (s : _root_.Go.ChangeSpec) : _root_.Go.OpenSpec := { _root_.Go.OpenSpec.ofChange s with cond := some uptoSmall }

/-- 'bolsterlaw12.ClaimGranted', WHERE WHAT IT READS IS OF BULK AT MOST 1048576: true; the input reads as it did. -/
def claimGrantedUptoRow : OpenClaim := { program := "ytaedbkdimpdngaa", sum := "20b9fe8927653119996bee1cccd67c6490c9c601e3a10bbace2d57dd447f2c5a", func := "bolster/bolsterlaw12.ClaimGranted", spec := "claimGranted", unfollowed := true, recurses := true, apart := false, narrowed := true }
def ClaimGrantedUptoSaid : Prop := claimGrantedUptoRow.holds Try.pinned (OpenSpec.upto claimGrantedSpec)

/-- 'bolsterlaw12.ClaimOdds', WHERE WHAT IT READS IS OF BULK AT MOST 1048576: true; the input reads as it did. -/
def claimOddsUptoRow : OpenClaim := { program := "ytaedbkdimpdngaa", sum := "20b9fe8927653119996bee1cccd67c6490c9c601e3a10bbace2d57dd447f2c5a", func := "bolster/bolsterlaw12.ClaimOdds", spec := "claimOdds", unfollowed := true, recurses := true, apart := false, narrowed := true }
def ClaimOddsUptoSaid : Prop := claimOddsUptoRow.holds Try.pinned (OpenSpec.upto claimOddsSpec)

/-- 'bolsterlaw12.ClaimNames', WHERE WHAT IT READS IS OF BULK AT MOST 1048576: true; the input reads as it did. -/
def claimNamesUptoRow : OpenClaim := { program := "ytaedbkdimpdngaa", sum := "20b9fe8927653119996bee1cccd67c6490c9c601e3a10bbace2d57dd447f2c5a", func := "bolster/bolsterlaw12.ClaimNames", spec := "claimNames", unfollowed := true, recurses := true, apart := false, narrowed := true }
def ClaimNamesUptoSaid : Prop := claimNamesUptoRow.holds Try.pinned (OpenSpec.upto claimNamesSpec)

/-- 'bolsterlaw12.ClaimRings', WHERE WHAT IT READS IS OF BULK AT MOST 1048576: true; the input reads as it did. -/
def claimRingsUptoRow : OpenClaim := { program := "ytaedbkdimpdngaa", sum := "20b9fe8927653119996bee1cccd67c6490c9c601e3a10bbace2d57dd447f2c5a", func := "bolster/bolsterlaw12.ClaimRings", spec := "claimRings", unfollowed := true, recurses := true, apart := false, narrowed := true }
def ClaimRingsUptoSaid : Prop := claimRingsUptoRow.holds Try.pinned (OpenSpec.upto claimRingsSpec)

/-- 'bolsterlaw12.ClaimIdeals', WHERE WHAT IT READS IS OF BULK AT MOST 1048576: true; the input reads as it did. -/
def claimIdealsUptoRow : OpenClaim := { program := "ytaedbkdimpdngaa", sum := "20b9fe8927653119996bee1cccd67c6490c9c601e3a10bbace2d57dd447f2c5a", func := "bolster/bolsterlaw12.ClaimIdeals", spec := "claimIdeals", unfollowed := true, recurses := true, apart := false, narrowed := true }
def ClaimIdealsUptoSaid : Prop := claimIdealsUptoRow.holds Try.pinned (OpenSpec.upto claimIdealsSpec)

/-- 'bolsterlaw12.ClaimSets', WHERE WHAT IT READS IS OF BULK AT MOST 1048576: true; the input reads as it did. -/
def claimSetsUptoRow : OpenClaim := { program := "ytaedbkdimpdngaa", sum := "20b9fe8927653119996bee1cccd67c6490c9c601e3a10bbace2d57dd447f2c5a", func := "bolster/bolsterlaw12.ClaimSets", spec := "claimSets", unfollowed := true, recurses := true, apart := false, narrowed := true }
def ClaimSetsUptoSaid : Prop := claimSetsUptoRow.holds Try.pinned (OpenSpec.upto claimSetsSpec)

/-- 'bolsterlaw12.ClaimChain', WHERE WHAT IT READS IS OF BULK AT MOST 1048576: true; the input reads as it did. -/
def claimChainUptoRow : OpenClaim := { program := "ytaedbkdimpdngaa", sum := "20b9fe8927653119996bee1cccd67c6490c9c601e3a10bbace2d57dd447f2c5a", func := "bolster/bolsterlaw12.ClaimChain", spec := "claimChain", unfollowed := true, recurses := true, apart := false, narrowed := true }
def ClaimChainUptoSaid : Prop := claimChainUptoRow.holds Try.pinned (OpenSpec.upto claimChainSpec)

/-- 'bolsterlaw12.ClaimCores', WHERE WHAT IT READS IS OF BULK AT MOST 1048576: true; the input reads as it did. -/
def claimCoresUptoRow : OpenClaim := { program := "ytaedbkdimpdngaa", sum := "20b9fe8927653119996bee1cccd67c6490c9c601e3a10bbace2d57dd447f2c5a", func := "bolster/bolsterlaw12.ClaimCores", spec := "claimCores", unfollowed := true, recurses := true, apart := false, narrowed := true }
def ClaimCoresUptoSaid : Prop := claimCoresUptoRow.holds Try.pinned (OpenSpec.upto claimCoresSpec)

/-- 'bolsterlaw12.ClaimDefends', WHERE WHAT IT READS IS OF BULK AT MOST 1048576: true; the input reads as it did. -/
def claimDefendsUptoRow : OpenClaim := { program := "ytaedbkdimpdngaa", sum := "20b9fe8927653119996bee1cccd67c6490c9c601e3a10bbace2d57dd447f2c5a", func := "bolster/bolsterlaw12.ClaimDefends", spec := "claimDefends", unfollowed := true, recurses := true, apart := false, narrowed := true }
def ClaimDefendsUptoSaid : Prop := claimDefendsUptoRow.holds Try.pinned (OpenSpec.upto claimDefendsSpec)

/-- 'bolsterlaw12.ClaimLemma', WHERE WHAT IT READS IS OF BULK AT MOST 1048576: true; the input reads as it did. -/
def claimLemmaUptoRow : OpenClaim := { program := "ytaedbkdimpdngaa", sum := "20b9fe8927653119996bee1cccd67c6490c9c601e3a10bbace2d57dd447f2c5a", func := "bolster/bolsterlaw12.ClaimLemma", spec := "claimLemma", unfollowed := true, recurses := true, apart := false, narrowed := true }
def ClaimLemmaUptoSaid : Prop := claimLemmaUptoRow.holds Try.pinned (OpenSpec.upto claimLemmaSpec)

/-- 'bolsterlaw12.ClaimLeast', WHERE WHAT IT READS IS OF BULK AT MOST 1048576: true; the input reads as it did. -/
def claimLeastUptoRow : OpenClaim := { program := "ytaedbkdimpdngaa", sum := "20b9fe8927653119996bee1cccd67c6490c9c601e3a10bbace2d57dd447f2c5a", func := "bolster/bolsterlaw12.ClaimLeast", spec := "claimLeast", unfollowed := true, recurses := true, apart := false, narrowed := true }
def ClaimLeastUptoSaid : Prop := claimLeastUptoRow.holds Try.pinned (OpenSpec.upto claimLeastSpec)

/-- 'bolsterlaw12.ClaimCore', WHERE WHAT IT READS IS OF BULK AT MOST 1048576: true; the input reads as it did. -/
def claimCoreUptoRow : OpenClaim := { program := "ytaedbkdimpdngaa", sum := "20b9fe8927653119996bee1cccd67c6490c9c601e3a10bbace2d57dd447f2c5a", func := "bolster/bolsterlaw12.ClaimCore", spec := "claimCore", unfollowed := true, recurses := true, apart := false, narrowed := true }
def ClaimCoreUptoSaid : Prop := claimCoreUptoRow.holds Try.pinned (OpenSpec.upto claimCoreSpec)

/-- 'bolsterlaw12.ClaimIdeal', WHERE WHAT IT READS IS OF BULK AT MOST 1048576: true; the input reads as it did. -/
def claimIdealUptoRow : OpenClaim := { program := "ytaedbkdimpdngaa", sum := "20b9fe8927653119996bee1cccd67c6490c9c601e3a10bbace2d57dd447f2c5a", func := "bolster/bolsterlaw12.ClaimIdeal", spec := "claimIdeal", unfollowed := true, recurses := true, apart := false, narrowed := true }
def ClaimIdealUptoSaid : Prop := claimIdealUptoRow.holds Try.pinned (OpenSpec.upto claimIdealSpec)

end Rows
end Go.Proofs.Ytaedbkdimpdngaa
