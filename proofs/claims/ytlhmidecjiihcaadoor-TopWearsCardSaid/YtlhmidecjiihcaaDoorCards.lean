/-
  DERIVED. GIVEN WITH THE SEED: THE CARDS: each row of YtlhmidecjiihcaaDoorRows.lean that lists a variable, with what it lists TIED to the program's text (the seventh form; the later family's looks); each row that meets fmt, with fmt's text TOLD by the authors' own Lean function (tested against real Go, not proved from fmt's source: count such statements apart). THE CARD IS WHAT COUNTS. Prove the row's statement (the work); the ties are given (YtlhmidecjiihcaaDoorTie.lean); close each card by the builder's one call (the guide's Derived/Test/ToyasCard.lean, 'card_holds'). Laid BY PROGRAM, IN A SANDBOX (cutbox-door.mjs). By AI agents, Wed Nov 11 2026. No macro, syntax, notation, axiom, sorry.
-/
import Derived.Test.YtlhmidecjiihcaaDoorRows
import GoSem.ClaimSeven
namespace Go.Proofs.YtlhmidecjiihcaaDoor
namespace Rows

/-- THE TIED CARD OF 'bolstertop.TopWears'. -/
def topWearsCard : Claim7 := { stood := { row := topWearsRow, standIns := [], harness := (true, "62834bdad77a125bbcf76119586a53cd46939d6807bbe63729af40b57981bc8e"), looks := false }, kinds := [], alts := [], laidByText := true, laidKinds := [.data, .pinned], laidTests := true, laidLooks := .later }
def TopWearsCardSaid : Prop := Claim7.holds Tryd.pinned (.plain (OpenSpec.ofChange topWearsSpec)) topWearsCard

/-- THE SECOND FORM's CARD OF 'bolstertop.TopWears'. -/
def topWearsUptoCard : Claim7 := { stood := { row := topWearsUptoRow, standIns := [], harness := (true, "62834bdad77a125bbcf76119586a53cd46939d6807bbe63729af40b57981bc8e"), looks := false }, kinds := [], alts := [], laidByText := true, laidKinds := [.data, .pinned], laidTests := true, laidLooks := .later }
def TopWearsUptoCardSaid : Prop := Claim7.holds Tryd.pinned (.plain (OpenSpec.upto topWearsSpec)) topWearsUptoCard
end Rows
end Go.Proofs.YtlhmidecjiihcaaDoor
