/-
  DERIVED. GIVEN WITH THE SEED: THE CARDS: each row of YtgkndhpolcnjbaaGreatDoorRows.lean that lists a variable, with what it lists TIED to the program's text (the seventh form; the later family's looks); each row that meets fmt, with fmt's text TOLD by the authors' own Lean function (tested against real Go, not proved from fmt's source: count such statements apart). THE CARD IS WHAT COUNTS. Prove the row's statement (the work); the ties are given (YtgkndhpolcnjbaaGreatDoorTie.lean); close each card by the builder's one call (the guide's Derived/Test/ToyasCard.lean, 'card_holds'). Laid BY PROGRAM, IN A SANDBOX (cutbox-door.mjs). By AI agents, Wed Nov 11 2026. No macro, syntax, notation, axiom, sorry.
-/
import Derived.Test.YtgkndhpolcnjbaaGreatDoorRows
import GoSem.ClaimSeven
namespace Go.Proofs.YtgkndhpolcnjbaaGreatDoor
namespace Rows

/-- THE TIED CARD OF 'kibitzerlaw16.AfterAll'. -/
def afterAllCard : Claim7 := { stood := { row := afterAllRow, standIns := [], harness := (true, "2bc53039530afb0ea8668e127758bd857c648803278047300ab4ebd287815233"), looks := false }, kinds := [], alts := [], laidByText := true, laidKinds := [.data], laidTests := true, laidLooks := .later }
def AfterAllCardSaid : Prop := Claim7.holds Tryz.pinned (.plain (OpenSpec.ofChange afterAllSpec)) afterAllCard

/-- THE TIED CARD OF 'kibitzerlaw16.AfterBlown'. -/
def afterBlownCard : Claim7 := { stood := { row := afterBlownRow, standIns := [], harness := (true, "2bc53039530afb0ea8668e127758bd857c648803278047300ab4ebd287815233"), looks := false }, kinds := [], alts := [], laidByText := true, laidKinds := [.data], laidTests := true, laidLooks := .later }
def AfterBlownCardSaid : Prop := Claim7.holds Tryz.pinned (.plain (OpenSpec.ofChange afterBlownSpec)) afterBlownCard

/-- THE TIED CARD OF 'kibitzerlaw16.AfterSquares'. -/
def afterSquaresCard : Claim7 := { stood := { row := afterSquaresRow, standIns := [], harness := (true, "2bc53039530afb0ea8668e127758bd857c648803278047300ab4ebd287815233"), looks := false }, kinds := [], alts := [], laidByText := true, laidKinds := [.data], laidTests := true, laidLooks := .later }
def AfterSquaresCardSaid : Prop := Claim7.holds Tryz.pinned (.plain (OpenSpec.ofChange afterSquaresSpec)) afterSquaresCard

/-- THE TIED CARD OF 'kibitzerlaw18.PinsMoves'. -/
def pinsMovesCard : Claim7 := { stood := { row := pinsMovesRow, standIns := [], harness := (true, "2bc53039530afb0ea8668e127758bd857c648803278047300ab4ebd287815233"), looks := false }, kinds := [], alts := [], laidByText := true, laidKinds := [.data], laidTests := true, laidLooks := .later }
def PinsMovesCardSaid : Prop := Claim7.holds Tryz.pinned (.plain (OpenSpec.ofChange pinsMovesSpec)) pinsMovesCard

/-- THE TIED CARD OF 'kibitzerlaw20.StackPlays'. -/
def stackPlaysCard : Claim7 := { stood := { row := stackPlaysRow, standIns := [], harness := (true, "2bc53039530afb0ea8668e127758bd857c648803278047300ab4ebd287815233"), looks := false }, kinds := [], alts := [], laidByText := true, laidKinds := [.data], laidTests := true, laidLooks := .later }
def StackPlaysCardSaid : Prop := Claim7.holds Tryz.pinned (.plain (OpenSpec.ofChange stackPlaysSpec)) stackPlaysCard

/-- THE TIED CARD OF 'kibitzerlaw20.StackRefused'. -/
def stackRefusedCard : Claim7 := { stood := { row := stackRefusedRow, standIns := [], harness := (true, "2bc53039530afb0ea8668e127758bd857c648803278047300ab4ebd287815233"), looks := false }, kinds := [], alts := [], laidByText := true, laidKinds := [.data], laidTests := true, laidLooks := .later }
def StackRefusedCardSaid : Prop := Claim7.holds Tryz.pinned (.plain (OpenSpec.ofChange stackRefusedSpec)) stackRefusedCard

/-- THE TIED CARD OF 'kibitzerlaw20.StackRound'. -/
def stackRoundCard : Claim7 := { stood := { row := stackRoundRow, standIns := [], harness := (true, "2bc53039530afb0ea8668e127758bd857c648803278047300ab4ebd287815233"), looks := false }, kinds := [], alts := [], laidByText := true, laidKinds := [.data], laidTests := true, laidLooks := .later }
def StackRoundCardSaid : Prop := Claim7.holds Tryz.pinned (.plain (OpenSpec.ofChange stackRoundSpec)) stackRoundCard

/-- THE TIED CARD OF 'kibitzerlaw20.StackBack'. -/
def stackBackCard : Claim7 := { stood := { row := stackBackRow, standIns := [], harness := (true, "2bc53039530afb0ea8668e127758bd857c648803278047300ab4ebd287815233"), looks := false }, kinds := [], alts := [], laidByText := true, laidKinds := [.data], laidTests := true, laidLooks := .later }
def StackBackCardSaid : Prop := Claim7.holds Tryz.pinned (.plain (OpenSpec.ofChange stackBackSpec)) stackBackCard

/-- THE TIED CARD OF 'kibitzerlaw20.StackKeys'. -/
def stackKeysCard : Claim7 := { stood := { row := stackKeysRow, standIns := [], harness := (true, "2bc53039530afb0ea8668e127758bd857c648803278047300ab4ebd287815233"), looks := false }, kinds := [], alts := [], laidByText := true, laidKinds := [.data], laidTests := true, laidLooks := .later }
def StackKeysCardSaid : Prop := Claim7.holds Tryz.pinned (.plain (OpenSpec.ofChange stackKeysSpec)) stackKeysCard

/-- THE SECOND FORM's CARD OF 'kibitzerlaw16.AfterAll'. -/
def afterAllUptoCard : Claim7 := { stood := { row := afterAllUptoRow, standIns := [], harness := (true, "2bc53039530afb0ea8668e127758bd857c648803278047300ab4ebd287815233"), looks := false }, kinds := [], alts := [], laidByText := true, laidKinds := [.data], laidTests := true, laidLooks := .later }
def AfterAllUptoCardSaid : Prop := Claim7.holds Tryz.pinned (.plain (OpenSpec.upto afterAllSpec)) afterAllUptoCard

/-- THE SECOND FORM's CARD OF 'kibitzerlaw16.AfterBlown'. -/
def afterBlownUptoCard : Claim7 := { stood := { row := afterBlownUptoRow, standIns := [], harness := (true, "2bc53039530afb0ea8668e127758bd857c648803278047300ab4ebd287815233"), looks := false }, kinds := [], alts := [], laidByText := true, laidKinds := [.data], laidTests := true, laidLooks := .later }
def AfterBlownUptoCardSaid : Prop := Claim7.holds Tryz.pinned (.plain (OpenSpec.upto afterBlownSpec)) afterBlownUptoCard

/-- THE SECOND FORM's CARD OF 'kibitzerlaw16.AfterSquares'. -/
def afterSquaresUptoCard : Claim7 := { stood := { row := afterSquaresUptoRow, standIns := [], harness := (true, "2bc53039530afb0ea8668e127758bd857c648803278047300ab4ebd287815233"), looks := false }, kinds := [], alts := [], laidByText := true, laidKinds := [.data], laidTests := true, laidLooks := .later }
def AfterSquaresUptoCardSaid : Prop := Claim7.holds Tryz.pinned (.plain (OpenSpec.upto afterSquaresSpec)) afterSquaresUptoCard

/-- THE SECOND FORM's CARD OF 'kibitzerlaw18.PinsMoves'. -/
def pinsMovesUptoCard : Claim7 := { stood := { row := pinsMovesUptoRow, standIns := [], harness := (true, "2bc53039530afb0ea8668e127758bd857c648803278047300ab4ebd287815233"), looks := false }, kinds := [], alts := [], laidByText := true, laidKinds := [.data], laidTests := true, laidLooks := .later }
def PinsMovesUptoCardSaid : Prop := Claim7.holds Tryz.pinned (.plain (OpenSpec.upto pinsMovesSpec)) pinsMovesUptoCard

/-- THE SECOND FORM's CARD OF 'kibitzerlaw20.StackPlays'. -/
def stackPlaysUptoCard : Claim7 := { stood := { row := stackPlaysUptoRow, standIns := [], harness := (true, "2bc53039530afb0ea8668e127758bd857c648803278047300ab4ebd287815233"), looks := false }, kinds := [], alts := [], laidByText := true, laidKinds := [.data], laidTests := true, laidLooks := .later }
def StackPlaysUptoCardSaid : Prop := Claim7.holds Tryz.pinned (.plain (OpenSpec.upto stackPlaysSpec)) stackPlaysUptoCard

/-- THE SECOND FORM's CARD OF 'kibitzerlaw20.StackRefused'. -/
def stackRefusedUptoCard : Claim7 := { stood := { row := stackRefusedUptoRow, standIns := [], harness := (true, "2bc53039530afb0ea8668e127758bd857c648803278047300ab4ebd287815233"), looks := false }, kinds := [], alts := [], laidByText := true, laidKinds := [.data], laidTests := true, laidLooks := .later }
def StackRefusedUptoCardSaid : Prop := Claim7.holds Tryz.pinned (.plain (OpenSpec.upto stackRefusedSpec)) stackRefusedUptoCard

/-- THE SECOND FORM's CARD OF 'kibitzerlaw20.StackRound'. -/
def stackRoundUptoCard : Claim7 := { stood := { row := stackRoundUptoRow, standIns := [], harness := (true, "2bc53039530afb0ea8668e127758bd857c648803278047300ab4ebd287815233"), looks := false }, kinds := [], alts := [], laidByText := true, laidKinds := [.data], laidTests := true, laidLooks := .later }
def StackRoundUptoCardSaid : Prop := Claim7.holds Tryz.pinned (.plain (OpenSpec.upto stackRoundSpec)) stackRoundUptoCard

/-- THE SECOND FORM's CARD OF 'kibitzerlaw20.StackBack'. -/
def stackBackUptoCard : Claim7 := { stood := { row := stackBackUptoRow, standIns := [], harness := (true, "2bc53039530afb0ea8668e127758bd857c648803278047300ab4ebd287815233"), looks := false }, kinds := [], alts := [], laidByText := true, laidKinds := [.data], laidTests := true, laidLooks := .later }
def StackBackUptoCardSaid : Prop := Claim7.holds Tryz.pinned (.plain (OpenSpec.upto stackBackSpec)) stackBackUptoCard

/-- THE SECOND FORM's CARD OF 'kibitzerlaw20.StackKeys'. -/
def stackKeysUptoCard : Claim7 := { stood := { row := stackKeysUptoRow, standIns := [], harness := (true, "2bc53039530afb0ea8668e127758bd857c648803278047300ab4ebd287815233"), looks := false }, kinds := [], alts := [], laidByText := true, laidKinds := [.data], laidTests := true, laidLooks := .later }
def StackKeysUptoCardSaid : Prop := Claim7.holds Tryz.pinned (.plain (OpenSpec.upto stackKeysSpec)) stackKeysUptoCard
end Rows
end Go.Proofs.YtgkndhpolcnjbaaGreatDoor
