/-
  DERIVED. GIVEN WITH THE SEED: THE CARDS: each row of YtjonbhimbhidpaaDoorRows.lean that lists a variable, with what it lists TIED to the program's text (the seventh form; the later family's looks); each row that meets fmt, with fmt's text TOLD by the authors' own Lean function (tested against real Go, not proved from fmt's source: count such statements apart). THE CARD IS WHAT COUNTS. Prove the row's statement (the work); the ties are given (YtjonbhimbhidpaaDoorTie.lean); close each card by the builder's one call (the guide's Derived/Test/ToyasCard.lean, 'card_holds'). Laid BY PROGRAM, IN A SANDBOX (cutbox-door.mjs). By AI agents, Wed Nov 11 2026. No macro, syntax, notation, axiom, sorry.
-/
import Derived.Test.YtjonbhimbhidpaaDoorRows
import GoSem.ClaimSeven
namespace Go.Proofs.YtjonbhimbhidpaaDoor
namespace Rows

/-- THE TIED CARD OF 'bolsterlaw06.TemperChooses'. -/
def temperChoosesCard : Claim7 := { stood := { row := temperChoosesRow, standIns := [], harness := (true, "b0f13d53ea70804788c8eb0e400d864a679d730331069021361226d1228c26db"), looks := false }, kinds := [], alts := [], laidByText := true, laidKinds := [.data, .pinned], laidTests := true, laidLooks := .later }
def TemperChoosesCardSaid : Prop := Claim7.holds Tryd.pinned (.plain (OpenSpec.ofChange temperChoosesSpec)) temperChoosesCard

/-- THE TIED CARD OF 'bolsterlaw06.TemperMore'. -/
def temperMoreCard : Claim7 := { stood := { row := temperMoreRow, standIns := [], harness := (true, "b0f13d53ea70804788c8eb0e400d864a679d730331069021361226d1228c26db"), looks := false }, kinds := [], alts := [], laidByText := true, laidKinds := [.data, .pinned], laidTests := true, laidLooks := .later }
def TemperMoreCardSaid : Prop := Claim7.holds Tryd.pinned (.plain (OpenSpec.ofChange temperMoreSpec)) temperMoreCard

/-- THE TIED CARD OF 'bolsterlaw06.TemperLosses'. -/
def temperLossesCard : Claim7 := { stood := { row := temperLossesRow, standIns := [], harness := (true, "b0f13d53ea70804788c8eb0e400d864a679d730331069021361226d1228c26db"), looks := false }, kinds := [], alts := [], laidByText := true, laidKinds := [.data, .pinned], laidTests := true, laidLooks := .later }
def TemperLossesCardSaid : Prop := Claim7.holds Tryd.pinned (.plain (OpenSpec.ofChange temperLossesSpec)) temperLossesCard

/-- THE TIED CARD OF 'bolsterlaw06.TemperAgain'. -/
def temperAgainCard : Claim7 := { stood := { row := temperAgainRow, standIns := [], harness := (true, "b0f13d53ea70804788c8eb0e400d864a679d730331069021361226d1228c26db"), looks := false }, kinds := [], alts := [], laidByText := true, laidKinds := [.data, .pinned], laidTests := true, laidLooks := .later }
def TemperAgainCardSaid : Prop := Claim7.holds Tryd.pinned (.plain (OpenSpec.ofChange temperAgainSpec)) temperAgainCard

/-- THE TIED CARD OF 'bolsterlaw06.TemperKernels'. -/
def temperKernelsCard : Claim7 := { stood := { row := temperKernelsRow, standIns := [], harness := (true, "b0f13d53ea70804788c8eb0e400d864a679d730331069021361226d1228c26db"), looks := false }, kinds := [], alts := [], laidByText := true, laidKinds := [.data, .pinned], laidTests := true, laidLooks := .later }
def TemperKernelsCardSaid : Prop := Claim7.holds Tryd.pinned (.plain (OpenSpec.ofChange temperKernelsSpec)) temperKernelsCard

/-- THE TIED CARD OF 'bolsterlaw06.TemperHolds'. -/
def temperHoldsCard : Claim7 := { stood := { row := temperHoldsRow, standIns := [], harness := (true, "b0f13d53ea70804788c8eb0e400d864a679d730331069021361226d1228c26db"), looks := false }, kinds := [], alts := [], laidByText := true, laidKinds := [.data, .pinned], laidTests := true, laidLooks := .later }
def TemperHoldsCardSaid : Prop := Claim7.holds Tryd.pinned (.plain (OpenSpec.ofChange temperHoldsSpec)) temperHoldsCard

/-- THE TIED CARD OF 'bolsterlaw06.TemperGreatest'. -/
def temperGreatestCard : Claim7 := { stood := { row := temperGreatestRow, standIns := [], harness := (true, "b0f13d53ea70804788c8eb0e400d864a679d730331069021361226d1228c26db"), looks := false }, kinds := [], alts := [], laidByText := true, laidKinds := [.data, .pinned], laidTests := true, laidLooks := .later }
def TemperGreatestCardSaid : Prop := Claim7.holds Tryd.pinned (.plain (OpenSpec.ofChange temperGreatestSpec)) temperGreatestCard

/-- THE TIED CARD OF 'bolsterlaw06.TemperPlays'. -/
def temperPlaysCard : Claim7 := { stood := { row := temperPlaysRow, standIns := [], harness := (true, "b0f13d53ea70804788c8eb0e400d864a679d730331069021361226d1228c26db"), looks := false }, kinds := [], alts := [], laidByText := true, laidKinds := [.data, .pinned], laidTests := true, laidLooks := .later }
def TemperPlaysCardSaid : Prop := Claim7.holds Tryd.pinned (.plain (OpenSpec.ofChange temperPlaysSpec)) temperPlaysCard

/-- THE TIED CARD OF 'bolsterlaw06.TemperSafe'. -/
def temperSafeCard : Claim7 := { stood := { row := temperSafeRow, standIns := [], harness := (true, "b0f13d53ea70804788c8eb0e400d864a679d730331069021361226d1228c26db"), looks := false }, kinds := [], alts := [], laidByText := true, laidKinds := [.data, .pinned], laidTests := true, laidLooks := .later }
def TemperSafeCardSaid : Prop := Claim7.holds Tryd.pinned (.plain (OpenSpec.ofChange temperSafeSpec)) temperSafeCard

/-- THE TIED CARD OF 'bolsterlaw06.TemperReaches'. -/
def temperReachesCard : Claim7 := { stood := { row := temperReachesRow, standIns := [], harness := (true, "b0f13d53ea70804788c8eb0e400d864a679d730331069021361226d1228c26db"), looks := false }, kinds := [], alts := [], laidByText := true, laidKinds := [.data, .pinned], laidTests := true, laidLooks := .later }
def TemperReachesCardSaid : Prop := Claim7.holds Tryd.pinned (.plain (OpenSpec.ofChange temperReachesSpec)) temperReachesCard

/-- THE TIED CARD OF 'bolsterlaw06.TemperArrives'. -/
def temperArrivesCard : Claim7 := { stood := { row := temperArrivesRow, standIns := [], harness := (true, "b0f13d53ea70804788c8eb0e400d864a679d730331069021361226d1228c26db"), looks := false }, kinds := [], alts := [], laidByText := true, laidKinds := [.data, .pinned], laidTests := true, laidLooks := .later }
def TemperArrivesCardSaid : Prop := Claim7.holds Tryd.pinned (.plain (OpenSpec.ofChange temperArrivesSpec)) temperArrivesCard

/-- THE SECOND FORM's CARD OF 'bolsterlaw06.TemperChooses'. -/
def temperChoosesUptoCard : Claim7 := { stood := { row := temperChoosesUptoRow, standIns := [], harness := (true, "b0f13d53ea70804788c8eb0e400d864a679d730331069021361226d1228c26db"), looks := false }, kinds := [], alts := [], laidByText := true, laidKinds := [.data, .pinned], laidTests := true, laidLooks := .later }
def TemperChoosesUptoCardSaid : Prop := Claim7.holds Tryd.pinned (.plain (OpenSpec.upto temperChoosesSpec)) temperChoosesUptoCard

/-- THE SECOND FORM's CARD OF 'bolsterlaw06.TemperMore'. -/
def temperMoreUptoCard : Claim7 := { stood := { row := temperMoreUptoRow, standIns := [], harness := (true, "b0f13d53ea70804788c8eb0e400d864a679d730331069021361226d1228c26db"), looks := false }, kinds := [], alts := [], laidByText := true, laidKinds := [.data, .pinned], laidTests := true, laidLooks := .later }
def TemperMoreUptoCardSaid : Prop := Claim7.holds Tryd.pinned (.plain (OpenSpec.upto temperMoreSpec)) temperMoreUptoCard

/-- THE SECOND FORM's CARD OF 'bolsterlaw06.TemperLosses'. -/
def temperLossesUptoCard : Claim7 := { stood := { row := temperLossesUptoRow, standIns := [], harness := (true, "b0f13d53ea70804788c8eb0e400d864a679d730331069021361226d1228c26db"), looks := false }, kinds := [], alts := [], laidByText := true, laidKinds := [.data, .pinned], laidTests := true, laidLooks := .later }
def TemperLossesUptoCardSaid : Prop := Claim7.holds Tryd.pinned (.plain (OpenSpec.upto temperLossesSpec)) temperLossesUptoCard

/-- THE SECOND FORM's CARD OF 'bolsterlaw06.TemperAgain'. -/
def temperAgainUptoCard : Claim7 := { stood := { row := temperAgainUptoRow, standIns := [], harness := (true, "b0f13d53ea70804788c8eb0e400d864a679d730331069021361226d1228c26db"), looks := false }, kinds := [], alts := [], laidByText := true, laidKinds := [.data, .pinned], laidTests := true, laidLooks := .later }
def TemperAgainUptoCardSaid : Prop := Claim7.holds Tryd.pinned (.plain (OpenSpec.upto temperAgainSpec)) temperAgainUptoCard

/-- THE SECOND FORM's CARD OF 'bolsterlaw06.TemperKernels'. -/
def temperKernelsUptoCard : Claim7 := { stood := { row := temperKernelsUptoRow, standIns := [], harness := (true, "b0f13d53ea70804788c8eb0e400d864a679d730331069021361226d1228c26db"), looks := false }, kinds := [], alts := [], laidByText := true, laidKinds := [.data, .pinned], laidTests := true, laidLooks := .later }
def TemperKernelsUptoCardSaid : Prop := Claim7.holds Tryd.pinned (.plain (OpenSpec.upto temperKernelsSpec)) temperKernelsUptoCard

/-- THE SECOND FORM's CARD OF 'bolsterlaw06.TemperHolds'. -/
def temperHoldsUptoCard : Claim7 := { stood := { row := temperHoldsUptoRow, standIns := [], harness := (true, "b0f13d53ea70804788c8eb0e400d864a679d730331069021361226d1228c26db"), looks := false }, kinds := [], alts := [], laidByText := true, laidKinds := [.data, .pinned], laidTests := true, laidLooks := .later }
def TemperHoldsUptoCardSaid : Prop := Claim7.holds Tryd.pinned (.plain (OpenSpec.upto temperHoldsSpec)) temperHoldsUptoCard

/-- THE SECOND FORM's CARD OF 'bolsterlaw06.TemperGreatest'. -/
def temperGreatestUptoCard : Claim7 := { stood := { row := temperGreatestUptoRow, standIns := [], harness := (true, "b0f13d53ea70804788c8eb0e400d864a679d730331069021361226d1228c26db"), looks := false }, kinds := [], alts := [], laidByText := true, laidKinds := [.data, .pinned], laidTests := true, laidLooks := .later }
def TemperGreatestUptoCardSaid : Prop := Claim7.holds Tryd.pinned (.plain (OpenSpec.upto temperGreatestSpec)) temperGreatestUptoCard

/-- THE SECOND FORM's CARD OF 'bolsterlaw06.TemperPlays'. -/
def temperPlaysUptoCard : Claim7 := { stood := { row := temperPlaysUptoRow, standIns := [], harness := (true, "b0f13d53ea70804788c8eb0e400d864a679d730331069021361226d1228c26db"), looks := false }, kinds := [], alts := [], laidByText := true, laidKinds := [.data, .pinned], laidTests := true, laidLooks := .later }
def TemperPlaysUptoCardSaid : Prop := Claim7.holds Tryd.pinned (.plain (OpenSpec.upto temperPlaysSpec)) temperPlaysUptoCard

/-- THE SECOND FORM's CARD OF 'bolsterlaw06.TemperSafe'. -/
def temperSafeUptoCard : Claim7 := { stood := { row := temperSafeUptoRow, standIns := [], harness := (true, "b0f13d53ea70804788c8eb0e400d864a679d730331069021361226d1228c26db"), looks := false }, kinds := [], alts := [], laidByText := true, laidKinds := [.data, .pinned], laidTests := true, laidLooks := .later }
def TemperSafeUptoCardSaid : Prop := Claim7.holds Tryd.pinned (.plain (OpenSpec.upto temperSafeSpec)) temperSafeUptoCard

/-- THE SECOND FORM's CARD OF 'bolsterlaw06.TemperReaches'. -/
def temperReachesUptoCard : Claim7 := { stood := { row := temperReachesUptoRow, standIns := [], harness := (true, "b0f13d53ea70804788c8eb0e400d864a679d730331069021361226d1228c26db"), looks := false }, kinds := [], alts := [], laidByText := true, laidKinds := [.data, .pinned], laidTests := true, laidLooks := .later }
def TemperReachesUptoCardSaid : Prop := Claim7.holds Tryd.pinned (.plain (OpenSpec.upto temperReachesSpec)) temperReachesUptoCard

/-- THE SECOND FORM's CARD OF 'bolsterlaw06.TemperArrives'. -/
def temperArrivesUptoCard : Claim7 := { stood := { row := temperArrivesUptoRow, standIns := [], harness := (true, "b0f13d53ea70804788c8eb0e400d864a679d730331069021361226d1228c26db"), looks := false }, kinds := [], alts := [], laidByText := true, laidKinds := [.data, .pinned], laidTests := true, laidLooks := .later }
def TemperArrivesUptoCardSaid : Prop := Claim7.holds Tryd.pinned (.plain (OpenSpec.upto temperArrivesSpec)) temperArrivesUptoCard
end Rows
end Go.Proofs.YtjonbhimbhidpaaDoor
