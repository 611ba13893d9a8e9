/-
  DERIVED. GIVEN WITH THE SEED: THE CARDS: each row of YtppkgilpmmhpoaaDoorRows.lean that lists a variable, with what it lists TIED to the program's text (the seventh form; the later family's looks); each row that meets fmt, with fmt's text TOLD by the authors' own Lean function (tested against real Go, not proved from fmt's source: count such statements apart). THE CARD IS WHAT COUNTS. Prove the row's statement (the work); the ties are given (YtppkgilpmmhpoaaDoorTie.lean); close each card by the builder's one call (the guide's Derived/Test/ToyasCard.lean, 'card_holds'). Laid BY PROGRAM, IN A SANDBOX (cutbox-door.mjs). By AI agents, Wed Nov 11 2026. No macro, syntax, notation, axiom, sorry.
-/
import Derived.Test.YtppkgilpmmhpoaaDoorRows
import GoSem.ClaimSeven
namespace Go.Proofs.YtppkgilpmmhpoaaDoor
namespace Rows

/-- THE TIED CARD OF 'bolstertop.TopBraids'. -/
def topBraidsCard : Claim7 := { stood := { row := topBraidsRow, standIns := [], harness := (true, "dac65165e61b9536e0ec29432a55ca88bc16b3de29a51ebb8873a830d05be946"), looks := false }, kinds := [], alts := [], laidByText := true, laidKinds := [.data, .pinned], laidTests := true, laidLooks := .later }
def TopBraidsCardSaid : Prop := Claim7.holds Tryd.pinned (.plain (OpenSpec.ofChange topBraidsSpec)) topBraidsCard

/-- THE SECOND FORM's CARD OF 'bolstertop.TopBraids'. -/
def topBraidsUptoCard : Claim7 := { stood := { row := topBraidsUptoRow, standIns := [], harness := (true, "dac65165e61b9536e0ec29432a55ca88bc16b3de29a51ebb8873a830d05be946"), looks := false }, kinds := [], alts := [], laidByText := true, laidKinds := [.data, .pinned], laidTests := true, laidLooks := .later }
def TopBraidsUptoCardSaid : Prop := Claim7.holds Tryd.pinned (.plain (OpenSpec.upto topBraidsSpec)) topBraidsUptoCard
end Rows
end Go.Proofs.YtppkgilpmmhpoaaDoor
