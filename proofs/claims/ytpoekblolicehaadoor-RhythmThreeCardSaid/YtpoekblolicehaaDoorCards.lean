/-
  DERIVED. GIVEN WITH THE SEED: THE CARDS: each row of YtpoekblolicehaaDoorRows.lean that lists a variable, with what it lists TIED to the program's text (the seventh form; the later family's looks); each row that meets fmt, with fmt's text TOLD by the authors' own Lean function (tested against real Go, not proved from fmt's source: count such statements apart). THE CARD IS WHAT COUNTS. Prove the row's statement (the work); the ties are given (YtpoekblolicehaaDoorTie.lean); close each card by the builder's one call (the guide's Derived/Test/ToyasCard.lean, 'card_holds'). Laid BY PROGRAM, IN A SANDBOX (cutbox-door.mjs). By AI agents, Wed Nov 11 2026. No macro, syntax, notation, axiom, sorry.
-/
import Derived.Test.YtpoekblolicehaaDoorRows
import GoSem.ClaimSeven
namespace Go.Proofs.YtpoekblolicehaaDoor
namespace Rows

/-- THE TIED CARD OF 'bolsterlaw01.RhythmPeriods'. -/
def rhythmPeriodsCard : Claim7 := { stood := { row := rhythmPeriodsRow, standIns := [], harness := (true, "0bd3f18abedd4c03dbbad2bb7e43195bc57bbd563661fc926d5682fdce6ed158"), looks := false }, kinds := [], alts := [], laidByText := true, laidKinds := [.data, .pinned], laidTests := true, laidLooks := .later }
def RhythmPeriodsCardSaid : Prop := Claim7.holds Tryd.pinned (.plain (OpenSpec.ofChange rhythmPeriodsSpec)) rhythmPeriodsCard

/-- THE TIED CARD OF 'bolsterlaw01.RhythmLocals'. -/
def rhythmLocalsCard : Claim7 := { stood := { row := rhythmLocalsRow, standIns := [], harness := (true, "0bd3f18abedd4c03dbbad2bb7e43195bc57bbd563661fc926d5682fdce6ed158"), looks := false }, kinds := [], alts := [], laidByText := true, laidKinds := [.data, .pinned], laidTests := true, laidLooks := .later }
def RhythmLocalsCardSaid : Prop := Claim7.holds Tryd.pinned (.plain (OpenSpec.ofChange rhythmLocalsSpec)) rhythmLocalsCard

/-- THE TIED CARD OF 'bolsterlaw01.RhythmRuns'. -/
def rhythmRunsCard : Claim7 := { stood := { row := rhythmRunsRow, standIns := [], harness := (true, "0bd3f18abedd4c03dbbad2bb7e43195bc57bbd563661fc926d5682fdce6ed158"), looks := false }, kinds := [], alts := [], laidByText := true, laidKinds := [.data, .pinned], laidTests := true, laidLooks := .later }
def RhythmRunsCardSaid : Prop := Claim7.holds Tryd.pinned (.plain (OpenSpec.ofChange rhythmRunsSpec)) rhythmRunsCard

/-- THE TIED CARD OF 'bolsterlaw01.RhythmEvens'. -/
def rhythmEvensCard : Claim7 := { stood := { row := rhythmEvensRow, standIns := [], harness := (true, "0bd3f18abedd4c03dbbad2bb7e43195bc57bbd563661fc926d5682fdce6ed158"), looks := false }, kinds := [], alts := [], laidByText := true, laidKinds := [.data, .pinned], laidTests := true, laidLooks := .later }
def RhythmEvensCardSaid : Prop := Claim7.holds Tryd.pinned (.plain (OpenSpec.ofChange rhythmEvensSpec)) rhythmEvensCard

/-- THE TIED CARD OF 'bolsterlaw01.RhythmTwo'. -/
def rhythmTwoCard : Claim7 := { stood := { row := rhythmTwoRow, standIns := [], harness := (true, "0bd3f18abedd4c03dbbad2bb7e43195bc57bbd563661fc926d5682fdce6ed158"), looks := false }, kinds := [], alts := [], laidByText := true, laidKinds := [.data, .pinned], laidTests := true, laidLooks := .later }
def RhythmTwoCardSaid : Prop := Claim7.holds Tryd.pinned (.plain (OpenSpec.ofChange rhythmTwoSpec)) rhythmTwoCard

/-- THE TIED CARD OF 'bolsterlaw01.RhythmCritical'. -/
def rhythmCriticalCard : Claim7 := { stood := { row := rhythmCriticalRow, standIns := [], harness := (true, "0bd3f18abedd4c03dbbad2bb7e43195bc57bbd563661fc926d5682fdce6ed158"), looks := false }, kinds := [], alts := [], laidByText := true, laidKinds := [.data, .pinned], laidTests := true, laidLooks := .later }
def RhythmCriticalCardSaid : Prop := Claim7.holds Tryd.pinned (.plain (OpenSpec.ofChange rhythmCriticalSpec)) rhythmCriticalCard

/-- THE TIED CARD OF 'bolsterlaw01.RhythmTurns'. -/
def rhythmTurnsCard : Claim7 := { stood := { row := rhythmTurnsRow, standIns := [], harness := (true, "0bd3f18abedd4c03dbbad2bb7e43195bc57bbd563661fc926d5682fdce6ed158"), looks := false }, kinds := [], alts := [], laidByText := true, laidKinds := [.data, .pinned], laidTests := true, laidLooks := .later }
def RhythmTurnsCardSaid : Prop := Claim7.holds Tryd.pinned (.plain (OpenSpec.ofChange rhythmTurnsSpec)) rhythmTurnsCard

/-- THE TIED CARD OF 'bolsterlaw01.RhythmGaps'. -/
def rhythmGapsCard : Claim7 := { stood := { row := rhythmGapsRow, standIns := [], harness := (true, "0bd3f18abedd4c03dbbad2bb7e43195bc57bbd563661fc926d5682fdce6ed158"), looks := false }, kinds := [], alts := [], laidByText := true, laidKinds := [.data, .pinned], laidTests := true, laidLooks := .later }
def RhythmGapsCardSaid : Prop := Claim7.holds Tryd.pinned (.plain (OpenSpec.ofChange rhythmGapsSpec)) rhythmGapsCard

/-- THE TIED CARD OF 'bolsterlaw01.RhythmThree'. -/
def rhythmThreeCard : Claim7 := { stood := { row := rhythmThreeRow, standIns := [], harness := (true, "0bd3f18abedd4c03dbbad2bb7e43195bc57bbd563661fc926d5682fdce6ed158"), looks := false }, kinds := [], alts := [], laidByText := true, laidKinds := [.data, .pinned], laidTests := true, laidLooks := .later }
def RhythmThreeCardSaid : Prop := Claim7.holds Tryd.pinned (.plain (OpenSpec.ofChange rhythmThreeSpec)) rhythmThreeCard

/-- THE TIED CARD OF 'bolsterlaw01.RhythmLyndons'. -/
def rhythmLyndonsCard : Claim7 := { stood := { row := rhythmLyndonsRow, standIns := [], harness := (true, "0bd3f18abedd4c03dbbad2bb7e43195bc57bbd563661fc926d5682fdce6ed158"), looks := false }, kinds := [], alts := [], laidByText := true, laidKinds := [.data, .pinned], laidTests := true, laidLooks := .later }
def RhythmLyndonsCardSaid : Prop := Claim7.holds Tryd.pinned (.plain (OpenSpec.ofChange rhythmLyndonsSpec)) rhythmLyndonsCard

/-- THE TIED CARD OF 'bolsterlaw01.RhythmWords'. -/
def rhythmWordsCard : Claim7 := { stood := { row := rhythmWordsRow, standIns := [], harness := (true, "0bd3f18abedd4c03dbbad2bb7e43195bc57bbd563661fc926d5682fdce6ed158"), looks := false }, kinds := [], alts := [], laidByText := true, laidKinds := [.data, .pinned], laidTests := true, laidLooks := .later }
def RhythmWordsCardSaid : Prop := Claim7.holds Tryd.pinned (.plain (OpenSpec.ofChange rhythmWordsSpec)) rhythmWordsCard

/-- THE TIED CARD OF 'bolsterlaw01.RhythmFew'. -/
def rhythmFewCard : Claim7 := { stood := { row := rhythmFewRow, standIns := [], harness := (true, "0bd3f18abedd4c03dbbad2bb7e43195bc57bbd563661fc926d5682fdce6ed158"), looks := false }, kinds := [], alts := [], laidByText := true, laidKinds := [.data, .pinned], laidTests := true, laidLooks := .later }
def RhythmFewCardSaid : Prop := Claim7.holds Tryd.pinned (.plain (OpenSpec.ofChange rhythmFewSpec)) rhythmFewCard

/-- THE TIED CARD OF 'bolsterlaw01.RhythmRotations'. -/
def rhythmRotationsCard : Claim7 := { stood := { row := rhythmRotationsRow, standIns := [], harness := (true, "0bd3f18abedd4c03dbbad2bb7e43195bc57bbd563661fc926d5682fdce6ed158"), looks := false }, kinds := [], alts := [], laidByText := true, laidKinds := [.data, .pinned], laidTests := true, laidLooks := .later }
def RhythmRotationsCardSaid : Prop := Claim7.holds Tryd.pinned (.plain (OpenSpec.ofChange rhythmRotationsSpec)) rhythmRotationsCard

/-- THE TIED CARD OF 'bolsterlaw01.RhythmSquares'. -/
def rhythmSquaresCard : Claim7 := { stood := { row := rhythmSquaresRow, standIns := [], harness := (true, "0bd3f18abedd4c03dbbad2bb7e43195bc57bbd563661fc926d5682fdce6ed158"), looks := false }, kinds := [], alts := [], laidByText := true, laidKinds := [.data, .pinned], laidTests := true, laidLooks := .later }
def RhythmSquaresCardSaid : Prop := Claim7.holds Tryd.pinned (.plain (OpenSpec.ofChange rhythmSquaresSpec)) rhythmSquaresCard

/-- THE TIED CARD OF 'bolsterlaw01.RhythmBalances'. -/
def rhythmBalancesCard : Claim7 := { stood := { row := rhythmBalancesRow, standIns := [], harness := (true, "0bd3f18abedd4c03dbbad2bb7e43195bc57bbd563661fc926d5682fdce6ed158"), looks := false }, kinds := [], alts := [], laidByText := true, laidKinds := [.data, .pinned], laidTests := true, laidLooks := .later }
def RhythmBalancesCardSaid : Prop := Claim7.holds Tryd.pinned (.plain (OpenSpec.ofChange rhythmBalancesSpec)) rhythmBalancesCard

/-- THE TIED CARD OF 'bolsterlaw01.RhythmChristoffel'. -/
def rhythmChristoffelCard : Claim7 := { stood := { row := rhythmChristoffelRow, standIns := [], harness := (true, "0bd3f18abedd4c03dbbad2bb7e43195bc57bbd563661fc926d5682fdce6ed158"), looks := false }, kinds := [], alts := [], laidByText := true, laidKinds := [.data, .pinned], laidTests := true, laidLooks := .later }
def RhythmChristoffelCardSaid : Prop := Claim7.holds Tryd.pinned (.plain (OpenSpec.ofChange rhythmChristoffelSpec)) rhythmChristoffelCard

/-- THE TIED CARD OF 'bolsterlaw01.RhythmEven'. -/
def rhythmEvenCard : Claim7 := { stood := { row := rhythmEvenRow, standIns := [], harness := (true, "0bd3f18abedd4c03dbbad2bb7e43195bc57bbd563661fc926d5682fdce6ed158"), looks := false }, kinds := [], alts := [], laidByText := true, laidKinds := [.data, .pinned], laidTests := true, laidLooks := .later }
def RhythmEvenCardSaid : Prop := Claim7.holds Tryd.pinned (.plain (OpenSpec.ofChange rhythmEvenSpec)) rhythmEvenCard

/-- THE TIED CARD OF 'bolsterlaw01.RhythmReversed'. -/
def rhythmReversedCard : Claim7 := { stood := { row := rhythmReversedRow, standIns := [], harness := (true, "0bd3f18abedd4c03dbbad2bb7e43195bc57bbd563661fc926d5682fdce6ed158"), looks := false }, kinds := [], alts := [], laidByText := true, laidKinds := [.data, .pinned], laidTests := true, laidLooks := .later }
def RhythmReversedCardSaid : Prop := Claim7.holds Tryd.pinned (.plain (OpenSpec.ofChange rhythmReversedSpec)) rhythmReversedCard

/-- THE SECOND FORM's CARD OF 'bolsterlaw01.RhythmPeriods'. -/
def rhythmPeriodsUptoCard : Claim7 := { stood := { row := rhythmPeriodsUptoRow, standIns := [], harness := (true, "0bd3f18abedd4c03dbbad2bb7e43195bc57bbd563661fc926d5682fdce6ed158"), looks := false }, kinds := [], alts := [], laidByText := true, laidKinds := [.data, .pinned], laidTests := true, laidLooks := .later }
def RhythmPeriodsUptoCardSaid : Prop := Claim7.holds Tryd.pinned (.plain (OpenSpec.upto rhythmPeriodsSpec)) rhythmPeriodsUptoCard

/-- THE SECOND FORM's CARD OF 'bolsterlaw01.RhythmLocals'. -/
def rhythmLocalsUptoCard : Claim7 := { stood := { row := rhythmLocalsUptoRow, standIns := [], harness := (true, "0bd3f18abedd4c03dbbad2bb7e43195bc57bbd563661fc926d5682fdce6ed158"), looks := false }, kinds := [], alts := [], laidByText := true, laidKinds := [.data, .pinned], laidTests := true, laidLooks := .later }
def RhythmLocalsUptoCardSaid : Prop := Claim7.holds Tryd.pinned (.plain (OpenSpec.upto rhythmLocalsSpec)) rhythmLocalsUptoCard

/-- THE SECOND FORM's CARD OF 'bolsterlaw01.RhythmRuns'. -/
def rhythmRunsUptoCard : Claim7 := { stood := { row := rhythmRunsUptoRow, standIns := [], harness := (true, "0bd3f18abedd4c03dbbad2bb7e43195bc57bbd563661fc926d5682fdce6ed158"), looks := false }, kinds := [], alts := [], laidByText := true, laidKinds := [.data, .pinned], laidTests := true, laidLooks := .later }
def RhythmRunsUptoCardSaid : Prop := Claim7.holds Tryd.pinned (.plain (OpenSpec.upto rhythmRunsSpec)) rhythmRunsUptoCard

/-- THE SECOND FORM's CARD OF 'bolsterlaw01.RhythmEvens'. -/
def rhythmEvensUptoCard : Claim7 := { stood := { row := rhythmEvensUptoRow, standIns := [], harness := (true, "0bd3f18abedd4c03dbbad2bb7e43195bc57bbd563661fc926d5682fdce6ed158"), looks := false }, kinds := [], alts := [], laidByText := true, laidKinds := [.data, .pinned], laidTests := true, laidLooks := .later }
def RhythmEvensUptoCardSaid : Prop := Claim7.holds Tryd.pinned (.plain (OpenSpec.upto rhythmEvensSpec)) rhythmEvensUptoCard

/-- THE SECOND FORM's CARD OF 'bolsterlaw01.RhythmTwo'. -/
def rhythmTwoUptoCard : Claim7 := { stood := { row := rhythmTwoUptoRow, standIns := [], harness := (true, "0bd3f18abedd4c03dbbad2bb7e43195bc57bbd563661fc926d5682fdce6ed158"), looks := false }, kinds := [], alts := [], laidByText := true, laidKinds := [.data, .pinned], laidTests := true, laidLooks := .later }
def RhythmTwoUptoCardSaid : Prop := Claim7.holds Tryd.pinned (.plain (OpenSpec.upto rhythmTwoSpec)) rhythmTwoUptoCard

/-- THE SECOND FORM's CARD OF 'bolsterlaw01.RhythmCritical'. -/
def rhythmCriticalUptoCard : Claim7 := { stood := { row := rhythmCriticalUptoRow, standIns := [], harness := (true, "0bd3f18abedd4c03dbbad2bb7e43195bc57bbd563661fc926d5682fdce6ed158"), looks := false }, kinds := [], alts := [], laidByText := true, laidKinds := [.data, .pinned], laidTests := true, laidLooks := .later }
def RhythmCriticalUptoCardSaid : Prop := Claim7.holds Tryd.pinned (.plain (OpenSpec.upto rhythmCriticalSpec)) rhythmCriticalUptoCard

/-- THE SECOND FORM's CARD OF 'bolsterlaw01.RhythmTurns'. -/
def rhythmTurnsUptoCard : Claim7 := { stood := { row := rhythmTurnsUptoRow, standIns := [], harness := (true, "0bd3f18abedd4c03dbbad2bb7e43195bc57bbd563661fc926d5682fdce6ed158"), looks := false }, kinds := [], alts := [], laidByText := true, laidKinds := [.data, .pinned], laidTests := true, laidLooks := .later }
def RhythmTurnsUptoCardSaid : Prop := Claim7.holds Tryd.pinned (.plain (OpenSpec.upto rhythmTurnsSpec)) rhythmTurnsUptoCard

/-- THE SECOND FORM's CARD OF 'bolsterlaw01.RhythmGaps'. -/
def rhythmGapsUptoCard : Claim7 := { stood := { row := rhythmGapsUptoRow, standIns := [], harness := (true, "0bd3f18abedd4c03dbbad2bb7e43195bc57bbd563661fc926d5682fdce6ed158"), looks := false }, kinds := [], alts := [], laidByText := true, laidKinds := [.data, .pinned], laidTests := true, laidLooks := .later }
def RhythmGapsUptoCardSaid : Prop := Claim7.holds Tryd.pinned (.plain (OpenSpec.upto rhythmGapsSpec)) rhythmGapsUptoCard

/-- THE SECOND FORM's CARD OF 'bolsterlaw01.RhythmThree'. -/
def rhythmThreeUptoCard : Claim7 := { stood := { row := rhythmThreeUptoRow, standIns := [], harness := (true, "0bd3f18abedd4c03dbbad2bb7e43195bc57bbd563661fc926d5682fdce6ed158"), looks := false }, kinds := [], alts := [], laidByText := true, laidKinds := [.data, .pinned], laidTests := true, laidLooks := .later }
def RhythmThreeUptoCardSaid : Prop := Claim7.holds Tryd.pinned (.plain (OpenSpec.upto rhythmThreeSpec)) rhythmThreeUptoCard

/-- THE SECOND FORM's CARD OF 'bolsterlaw01.RhythmLyndons'. -/
def rhythmLyndonsUptoCard : Claim7 := { stood := { row := rhythmLyndonsUptoRow, standIns := [], harness := (true, "0bd3f18abedd4c03dbbad2bb7e43195bc57bbd563661fc926d5682fdce6ed158"), looks := false }, kinds := [], alts := [], laidByText := true, laidKinds := [.data, .pinned], laidTests := true, laidLooks := .later }
def RhythmLyndonsUptoCardSaid : Prop := Claim7.holds Tryd.pinned (.plain (OpenSpec.upto rhythmLyndonsSpec)) rhythmLyndonsUptoCard

/-- THE SECOND FORM's CARD OF 'bolsterlaw01.RhythmWords'. -/
def rhythmWordsUptoCard : Claim7 := { stood := { row := rhythmWordsUptoRow, standIns := [], harness := (true, "0bd3f18abedd4c03dbbad2bb7e43195bc57bbd563661fc926d5682fdce6ed158"), looks := false }, kinds := [], alts := [], laidByText := true, laidKinds := [.data, .pinned], laidTests := true, laidLooks := .later }
def RhythmWordsUptoCardSaid : Prop := Claim7.holds Tryd.pinned (.plain (OpenSpec.upto rhythmWordsSpec)) rhythmWordsUptoCard

/-- THE SECOND FORM's CARD OF 'bolsterlaw01.RhythmFew'. -/
def rhythmFewUptoCard : Claim7 := { stood := { row := rhythmFewUptoRow, standIns := [], harness := (true, "0bd3f18abedd4c03dbbad2bb7e43195bc57bbd563661fc926d5682fdce6ed158"), looks := false }, kinds := [], alts := [], laidByText := true, laidKinds := [.data, .pinned], laidTests := true, laidLooks := .later }
def RhythmFewUptoCardSaid : Prop := Claim7.holds Tryd.pinned (.plain (OpenSpec.upto rhythmFewSpec)) rhythmFewUptoCard

/-- THE SECOND FORM's CARD OF 'bolsterlaw01.RhythmRotations'. -/
def rhythmRotationsUptoCard : Claim7 := { stood := { row := rhythmRotationsUptoRow, standIns := [], harness := (true, "0bd3f18abedd4c03dbbad2bb7e43195bc57bbd563661fc926d5682fdce6ed158"), looks := false }, kinds := [], alts := [], laidByText := true, laidKinds := [.data, .pinned], laidTests := true, laidLooks := .later }
def RhythmRotationsUptoCardSaid : Prop := Claim7.holds Tryd.pinned (.plain (OpenSpec.upto rhythmRotationsSpec)) rhythmRotationsUptoCard

/-- THE SECOND FORM's CARD OF 'bolsterlaw01.RhythmSquares'. -/
def rhythmSquaresUptoCard : Claim7 := { stood := { row := rhythmSquaresUptoRow, standIns := [], harness := (true, "0bd3f18abedd4c03dbbad2bb7e43195bc57bbd563661fc926d5682fdce6ed158"), looks := false }, kinds := [], alts := [], laidByText := true, laidKinds := [.data, .pinned], laidTests := true, laidLooks := .later }
def RhythmSquaresUptoCardSaid : Prop := Claim7.holds Tryd.pinned (.plain (OpenSpec.upto rhythmSquaresSpec)) rhythmSquaresUptoCard

/-- THE SECOND FORM's CARD OF 'bolsterlaw01.RhythmBalances'. -/
def rhythmBalancesUptoCard : Claim7 := { stood := { row := rhythmBalancesUptoRow, standIns := [], harness := (true, "0bd3f18abedd4c03dbbad2bb7e43195bc57bbd563661fc926d5682fdce6ed158"), looks := false }, kinds := [], alts := [], laidByText := true, laidKinds := [.data, .pinned], laidTests := true, laidLooks := .later }
def RhythmBalancesUptoCardSaid : Prop := Claim7.holds Tryd.pinned (.plain (OpenSpec.upto rhythmBalancesSpec)) rhythmBalancesUptoCard

/-- THE SECOND FORM's CARD OF 'bolsterlaw01.RhythmChristoffel'. -/
def rhythmChristoffelUptoCard : Claim7 := { stood := { row := rhythmChristoffelUptoRow, standIns := [], harness := (true, "0bd3f18abedd4c03dbbad2bb7e43195bc57bbd563661fc926d5682fdce6ed158"), looks := false }, kinds := [], alts := [], laidByText := true, laidKinds := [.data, .pinned], laidTests := true, laidLooks := .later }
def RhythmChristoffelUptoCardSaid : Prop := Claim7.holds Tryd.pinned (.plain (OpenSpec.upto rhythmChristoffelSpec)) rhythmChristoffelUptoCard

/-- THE SECOND FORM's CARD OF 'bolsterlaw01.RhythmEven'. -/
def rhythmEvenUptoCard : Claim7 := { stood := { row := rhythmEvenUptoRow, standIns := [], harness := (true, "0bd3f18abedd4c03dbbad2bb7e43195bc57bbd563661fc926d5682fdce6ed158"), looks := false }, kinds := [], alts := [], laidByText := true, laidKinds := [.data, .pinned], laidTests := true, laidLooks := .later }
def RhythmEvenUptoCardSaid : Prop := Claim7.holds Tryd.pinned (.plain (OpenSpec.upto rhythmEvenSpec)) rhythmEvenUptoCard

/-- THE SECOND FORM's CARD OF 'bolsterlaw01.RhythmReversed'. -/
def rhythmReversedUptoCard : Claim7 := { stood := { row := rhythmReversedUptoRow, standIns := [], harness := (true, "0bd3f18abedd4c03dbbad2bb7e43195bc57bbd563661fc926d5682fdce6ed158"), looks := false }, kinds := [], alts := [], laidByText := true, laidKinds := [.data, .pinned], laidTests := true, laidLooks := .later }
def RhythmReversedUptoCardSaid : Prop := Claim7.holds Tryd.pinned (.plain (OpenSpec.upto rhythmReversedSpec)) rhythmReversedUptoCard
end Rows
end Go.Proofs.YtpoekblolicehaaDoor
