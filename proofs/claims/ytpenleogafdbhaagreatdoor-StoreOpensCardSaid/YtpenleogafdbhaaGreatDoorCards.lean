/-
  DERIVED. GIVEN WITH THE SEED: THE CARDS: each row of YtpenleogafdbhaaGreatDoorRows.lean that lists a variable, with what it lists TIED to the program's text (the seventh form; the later family's looks); each row that meets fmt, with fmt's text TOLD by the authors' own Lean function (tested against real Go, not proved from fmt's source: count such statements apart). THE CARD IS WHAT COUNTS. Prove the row's statement (the work); the ties are given (YtpenleogafdbhaaGreatDoorTie.lean); close each card by the builder's one call (the guide's Derived/Test/ToyasCard.lean, 'card_holds'). Laid BY PROGRAM, IN A SANDBOX (cutbox-door.mjs). By AI agents, Wed Nov 11 2026. No macro, syntax, notation, axiom, sorry.
-/
import Derived.Test.YtpenleogafdbhaaGreatDoorRows
import GoSem.ClaimSeven
namespace Go.Proofs.YtpenleogafdbhaaGreatDoor
namespace Rows

/-- THE TIED CARD OF 'bolstertop.TopFaces'. -/
def topFacesCard : Claim7 := { stood := { row := topFacesRow, standIns := [], harness := (true, "36604ed75c026752fb1078e45b2b9de0bc36de2e353e9168d00c8eb01792d4ca"), looks := true }, kinds := [], alts := [], laidByText := true, laidKinds := [.data, .data, .data, .data, .sentinel, .sentinel, .pinned], laidTests := true, laidLooks := .later }
def TopFacesCardSaid : Prop := Claim7.holds Tryz.pinned (.plain (OpenSpec.ofChange topFacesSpec)) topFacesCard

/-- THE TIED CARD OF 'bolsterlaw10.StoreOpens'. -/
def storeOpensCard : Claim7 := { stood := { row := storeOpensRow, standIns := [], harness := (true, "36604ed75c026752fb1078e45b2b9de0bc36de2e353e9168d00c8eb01792d4ca"), looks := true }, kinds := [], alts := [], laidByText := true, laidKinds := [.data, .data, .data, .data, .sentinel, .sentinel, .pinned], laidTests := true, laidLooks := .later }
def StoreOpensCardSaid : Prop := Claim7.holds Tryz.pinned (.plain (OpenSpec.ofChange storeOpensSpec)) storeOpensCard

/-- THE TIED CARD OF 'bolsterlaw10.StoreDisks'. -/
def storeDisksCard : Claim7 := { stood := { row := storeDisksRow, standIns := [], harness := (true, "36604ed75c026752fb1078e45b2b9de0bc36de2e353e9168d00c8eb01792d4ca"), looks := true }, kinds := [], alts := [], laidByText := true, laidKinds := [.data, .data, .data, .data, .sentinel, .sentinel, .pinned], laidTests := true, laidLooks := .later }
def StoreDisksCardSaid : Prop := Claim7.holds Tryz.pinned (.plain (OpenSpec.ofChange storeDisksSpec)) storeDisksCard

/-- THE TIED CARD OF 'bolsterlaw10.StorePlays'. -/
def storePlaysCard : Claim7 := { stood := { row := storePlaysRow, standIns := [], harness := (true, "36604ed75c026752fb1078e45b2b9de0bc36de2e353e9168d00c8eb01792d4ca"), looks := true }, kinds := [], alts := [], laidByText := true, laidKinds := [.data, .data, .data, .data, .sentinel, .sentinel, .pinned], laidTests := true, laidLooks := .later }
def StorePlaysCardSaid : Prop := Claim7.holds Tryz.pinned (.plain (OpenSpec.ofChange storePlaysSpec)) storePlaysCard

/-- THE TIED CARD OF 'bolsterlaw10.StoreCut'. -/
def storeCutCard : Claim7 := { stood := { row := storeCutRow, standIns := [], harness := (true, "36604ed75c026752fb1078e45b2b9de0bc36de2e353e9168d00c8eb01792d4ca"), looks := true }, kinds := [], alts := [], laidByText := true, laidKinds := [.data, .data, .data, .data, .sentinel, .sentinel, .pinned], laidTests := true, laidLooks := .later }
def StoreCutCardSaid : Prop := Claim7.holds Tryz.pinned (.plain (OpenSpec.ofChange storeCutSpec)) storeCutCard

/-- THE TIED CARD OF 'bolsterlaw10.StoreViews'. -/
def storeViewsCard : Claim7 := { stood := { row := storeViewsRow, standIns := [], harness := (true, "36604ed75c026752fb1078e45b2b9de0bc36de2e353e9168d00c8eb01792d4ca"), looks := true }, kinds := [], alts := [], laidByText := true, laidKinds := [.data, .data, .data, .data, .sentinel, .sentinel, .pinned], laidTests := true, laidLooks := .later }
def StoreViewsCardSaid : Prop := Claim7.holds Tryz.pinned (.plain (OpenSpec.ofChange storeViewsSpec)) storeViewsCard

/-- THE TIED CARD OF 'bolsterlaw10.StoreSame'. -/
def storeSameCard : Claim7 := { stood := { row := storeSameRow, standIns := [], harness := (true, "36604ed75c026752fb1078e45b2b9de0bc36de2e353e9168d00c8eb01792d4ca"), looks := true }, kinds := [], alts := [], laidByText := true, laidKinds := [.data, .data, .data, .data, .sentinel, .sentinel, .pinned], laidTests := true, laidLooks := .later }
def StoreSameCardSaid : Prop := Claim7.holds Tryz.pinned (.plain (OpenSpec.ofChange storeSameSpec)) storeSameCard

/-- THE TIED CARD OF 'bolsterlaw10.StoreRefused'. -/
def storeRefusedCard : Claim7 := { stood := { row := storeRefusedRow, standIns := [], harness := (true, "36604ed75c026752fb1078e45b2b9de0bc36de2e353e9168d00c8eb01792d4ca"), looks := true }, kinds := [], alts := [], laidByText := true, laidKinds := [.data, .data, .data, .data, .sentinel, .sentinel, .pinned], laidTests := true, laidLooks := .later }
def StoreRefusedCardSaid : Prop := Claim7.holds Tryz.pinned (.plain (OpenSpec.ofChange storeRefusedSpec)) storeRefusedCard

/-- THE TIED CARD OF 'bolsterlaw10.StoreRoom'. -/
def storeRoomCard : Claim7 := { stood := { row := storeRoomRow, standIns := [], harness := (true, "36604ed75c026752fb1078e45b2b9de0bc36de2e353e9168d00c8eb01792d4ca"), looks := true }, kinds := [], alts := [], laidByText := true, laidKinds := [.data, .data, .data, .data, .sentinel, .sentinel, .pinned], laidTests := true, laidLooks := .later }
def StoreRoomCardSaid : Prop := Claim7.holds Tryz.pinned (.plain (OpenSpec.ofChange storeRoomSpec)) storeRoomCard

/-- THE TIED CARD OF 'bolsterlaw10.StoreCloned'. -/
def storeClonedCard : Claim7 := { stood := { row := storeClonedRow, standIns := [], harness := (true, "36604ed75c026752fb1078e45b2b9de0bc36de2e353e9168d00c8eb01792d4ca"), looks := true }, kinds := [], alts := [], laidByText := true, laidKinds := [.data, .data, .data, .data, .sentinel, .sentinel, .pinned], laidTests := true, laidLooks := .later }
def StoreClonedCardSaid : Prop := Claim7.holds Tryz.pinned (.plain (OpenSpec.ofChange storeClonedSpec)) storeClonedCard

/-- THE TIED CARD OF 'bolsterlaw10.StoreNobody'. -/
def storeNobodyCard : Claim7 := { stood := { row := storeNobodyRow, standIns := [], harness := (true, "36604ed75c026752fb1078e45b2b9de0bc36de2e353e9168d00c8eb01792d4ca"), looks := true }, kinds := [], alts := [], laidByText := true, laidKinds := [.data, .data, .data, .data, .sentinel, .sentinel, .pinned], laidTests := true, laidLooks := .later }
def StoreNobodyCardSaid : Prop := Claim7.holds Tryz.pinned (.plain (OpenSpec.ofChange storeNobodySpec)) storeNobodyCard

/-- THE SECOND FORM's CARD OF 'bolstertop.TopFaces'. -/
def topFacesUptoCard : Claim7 := { stood := { row := topFacesUptoRow, standIns := [], harness := (true, "36604ed75c026752fb1078e45b2b9de0bc36de2e353e9168d00c8eb01792d4ca"), looks := true }, kinds := [], alts := [], laidByText := true, laidKinds := [.data, .data, .data, .data, .sentinel, .sentinel, .pinned], laidTests := true, laidLooks := .later }
def TopFacesUptoCardSaid : Prop := Claim7.holds Tryz.pinned (.plain (OpenSpec.upto topFacesSpec)) topFacesUptoCard

/-- THE SECOND FORM's CARD OF 'bolsterlaw10.StoreOpens'. -/
def storeOpensUptoCard : Claim7 := { stood := { row := storeOpensUptoRow, standIns := [], harness := (true, "36604ed75c026752fb1078e45b2b9de0bc36de2e353e9168d00c8eb01792d4ca"), looks := true }, kinds := [], alts := [], laidByText := true, laidKinds := [.data, .data, .data, .data, .sentinel, .sentinel, .pinned], laidTests := true, laidLooks := .later }
def StoreOpensUptoCardSaid : Prop := Claim7.holds Tryz.pinned (.plain (OpenSpec.upto storeOpensSpec)) storeOpensUptoCard

/-- THE SECOND FORM's CARD OF 'bolsterlaw10.StoreDisks'. -/
def storeDisksUptoCard : Claim7 := { stood := { row := storeDisksUptoRow, standIns := [], harness := (true, "36604ed75c026752fb1078e45b2b9de0bc36de2e353e9168d00c8eb01792d4ca"), looks := true }, kinds := [], alts := [], laidByText := true, laidKinds := [.data, .data, .data, .data, .sentinel, .sentinel, .pinned], laidTests := true, laidLooks := .later }
def StoreDisksUptoCardSaid : Prop := Claim7.holds Tryz.pinned (.plain (OpenSpec.upto storeDisksSpec)) storeDisksUptoCard

/-- THE SECOND FORM's CARD OF 'bolsterlaw10.StorePlays'. -/
def storePlaysUptoCard : Claim7 := { stood := { row := storePlaysUptoRow, standIns := [], harness := (true, "36604ed75c026752fb1078e45b2b9de0bc36de2e353e9168d00c8eb01792d4ca"), looks := true }, kinds := [], alts := [], laidByText := true, laidKinds := [.data, .data, .data, .data, .sentinel, .sentinel, .pinned], laidTests := true, laidLooks := .later }
def StorePlaysUptoCardSaid : Prop := Claim7.holds Tryz.pinned (.plain (OpenSpec.upto storePlaysSpec)) storePlaysUptoCard

/-- THE SECOND FORM's CARD OF 'bolsterlaw10.StoreCut'. -/
def storeCutUptoCard : Claim7 := { stood := { row := storeCutUptoRow, standIns := [], harness := (true, "36604ed75c026752fb1078e45b2b9de0bc36de2e353e9168d00c8eb01792d4ca"), looks := true }, kinds := [], alts := [], laidByText := true, laidKinds := [.data, .data, .data, .data, .sentinel, .sentinel, .pinned], laidTests := true, laidLooks := .later }
def StoreCutUptoCardSaid : Prop := Claim7.holds Tryz.pinned (.plain (OpenSpec.upto storeCutSpec)) storeCutUptoCard

/-- THE SECOND FORM's CARD OF 'bolsterlaw10.StoreViews'. -/
def storeViewsUptoCard : Claim7 := { stood := { row := storeViewsUptoRow, standIns := [], harness := (true, "36604ed75c026752fb1078e45b2b9de0bc36de2e353e9168d00c8eb01792d4ca"), looks := true }, kinds := [], alts := [], laidByText := true, laidKinds := [.data, .data, .data, .data, .sentinel, .sentinel, .pinned], laidTests := true, laidLooks := .later }
def StoreViewsUptoCardSaid : Prop := Claim7.holds Tryz.pinned (.plain (OpenSpec.upto storeViewsSpec)) storeViewsUptoCard

/-- THE SECOND FORM's CARD OF 'bolsterlaw10.StoreSame'. -/
def storeSameUptoCard : Claim7 := { stood := { row := storeSameUptoRow, standIns := [], harness := (true, "36604ed75c026752fb1078e45b2b9de0bc36de2e353e9168d00c8eb01792d4ca"), looks := true }, kinds := [], alts := [], laidByText := true, laidKinds := [.data, .data, .data, .data, .sentinel, .sentinel, .pinned], laidTests := true, laidLooks := .later }
def StoreSameUptoCardSaid : Prop := Claim7.holds Tryz.pinned (.plain (OpenSpec.upto storeSameSpec)) storeSameUptoCard

/-- THE SECOND FORM's CARD OF 'bolsterlaw10.StoreRefused'. -/
def storeRefusedUptoCard : Claim7 := { stood := { row := storeRefusedUptoRow, standIns := [], harness := (true, "36604ed75c026752fb1078e45b2b9de0bc36de2e353e9168d00c8eb01792d4ca"), looks := true }, kinds := [], alts := [], laidByText := true, laidKinds := [.data, .data, .data, .data, .sentinel, .sentinel, .pinned], laidTests := true, laidLooks := .later }
def StoreRefusedUptoCardSaid : Prop := Claim7.holds Tryz.pinned (.plain (OpenSpec.upto storeRefusedSpec)) storeRefusedUptoCard

/-- THE SECOND FORM's CARD OF 'bolsterlaw10.StoreRoom'. -/
def storeRoomUptoCard : Claim7 := { stood := { row := storeRoomUptoRow, standIns := [], harness := (true, "36604ed75c026752fb1078e45b2b9de0bc36de2e353e9168d00c8eb01792d4ca"), looks := true }, kinds := [], alts := [], laidByText := true, laidKinds := [.data, .data, .data, .data, .sentinel, .sentinel, .pinned], laidTests := true, laidLooks := .later }
def StoreRoomUptoCardSaid : Prop := Claim7.holds Tryz.pinned (.plain (OpenSpec.upto storeRoomSpec)) storeRoomUptoCard

/-- THE SECOND FORM's CARD OF 'bolsterlaw10.StoreCloned'. -/
def storeClonedUptoCard : Claim7 := { stood := { row := storeClonedUptoRow, standIns := [], harness := (true, "36604ed75c026752fb1078e45b2b9de0bc36de2e353e9168d00c8eb01792d4ca"), looks := true }, kinds := [], alts := [], laidByText := true, laidKinds := [.data, .data, .data, .data, .sentinel, .sentinel, .pinned], laidTests := true, laidLooks := .later }
def StoreClonedUptoCardSaid : Prop := Claim7.holds Tryz.pinned (.plain (OpenSpec.upto storeClonedSpec)) storeClonedUptoCard

/-- THE SECOND FORM's CARD OF 'bolsterlaw10.StoreNobody'. -/
def storeNobodyUptoCard : Claim7 := { stood := { row := storeNobodyUptoRow, standIns := [], harness := (true, "36604ed75c026752fb1078e45b2b9de0bc36de2e353e9168d00c8eb01792d4ca"), looks := true }, kinds := [], alts := [], laidByText := true, laidKinds := [.data, .data, .data, .data, .sentinel, .sentinel, .pinned], laidTests := true, laidLooks := .later }
def StoreNobodyUptoCardSaid : Prop := Claim7.holds Tryz.pinned (.plain (OpenSpec.upto storeNobodySpec)) storeNobodyUptoCard
end Rows
end Go.Proofs.YtpenleogafdbhaaGreatDoor
