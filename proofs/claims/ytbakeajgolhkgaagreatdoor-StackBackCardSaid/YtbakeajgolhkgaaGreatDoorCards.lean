/-
  DERIVED. GIVEN WITH THE SEED: THE CARDS: each row of YtbakeajgolhkgaaGreatDoorRows.lean that lists a variable, with what it lists TIED to the program's text (the seventh form; the later family's looks); each row that meets fmt, with fmt's text TOLD by the authors' own Lean function (tested against real Go, not proved from fmt's source: count such statements apart). THE CARD IS WHAT COUNTS. Prove the row's statement (the work); the ties are given (YtbakeajgolhkgaaGreatDoorTie.lean); close each card by the builder's one call (the guide's Derived/Test/ToyasCard.lean, 'card_holds'). Laid BY PROGRAM, IN A SANDBOX (cutbox-door.mjs). By AI agents, Wed Nov 11 2026. No macro, syntax, notation, axiom, sorry.
-/
import Derived.Test.YtbakeajgolhkgaaGreatDoorRows
import GoSem.ClaimSeven
namespace Go.Proofs.YtbakeajgolhkgaaGreatDoor
namespace Rows

/-- THE TIED CARD OF 'kibitzertop.TopBack'. -/
def topBackCard : Claim7 := { stood := { row := topBackRow, standIns := [], harness := (true, "229ddeef9b05e6e9f38e4562323b10cf52e1a21da2d80309d48cdae820c6d416"), looks := true }, kinds := [], alts := [], laidByText := true, laidKinds := [.data], laidTests := true, laidLooks := .later }
def TopBackCardSaid : Prop := Claim7.holds Tryz.pinned (.plain (OpenSpec.ofChange topBackSpec)) topBackCard

/-- THE TIED CARD OF 'kibitzertop.TopSearch'. -/
def topSearchCard : Claim7 := { stood := { row := topSearchRow, standIns := [], harness := (true, "229ddeef9b05e6e9f38e4562323b10cf52e1a21da2d80309d48cdae820c6d416"), looks := true }, kinds := [], alts := [], laidByText := true, laidKinds := [.data], laidTests := true, laidLooks := .later }
def TopSearchCardSaid : Prop := Claim7.holds Tryz.pinned (.plain (OpenSpec.ofChange topSearchSpec)) topSearchCard

/-- THE TIED CARD OF 'kibitzerlaw20.StackPlays'. -/
def stackPlaysCard : Claim7 := { stood := { row := stackPlaysRow, standIns := [], harness := (true, "229ddeef9b05e6e9f38e4562323b10cf52e1a21da2d80309d48cdae820c6d416"), looks := true }, kinds := [], alts := [], laidByText := true, laidKinds := [.data], laidTests := true, laidLooks := .later }
def StackPlaysCardSaid : Prop := Claim7.holds Tryz.pinned (.plain (OpenSpec.ofChange stackPlaysSpec)) stackPlaysCard

/-- THE TIED CARD OF 'kibitzerlaw20.StackRefused'. -/
def stackRefusedCard : Claim7 := { stood := { row := stackRefusedRow, standIns := [], harness := (true, "229ddeef9b05e6e9f38e4562323b10cf52e1a21da2d80309d48cdae820c6d416"), looks := true }, kinds := [], alts := [], laidByText := true, laidKinds := [.data], laidTests := true, laidLooks := .later }
def StackRefusedCardSaid : Prop := Claim7.holds Tryz.pinned (.plain (OpenSpec.ofChange stackRefusedSpec)) stackRefusedCard

/-- THE TIED CARD OF 'kibitzerlaw20.StackRound'. -/
def stackRoundCard : Claim7 := { stood := { row := stackRoundRow, standIns := [], harness := (true, "229ddeef9b05e6e9f38e4562323b10cf52e1a21da2d80309d48cdae820c6d416"), looks := true }, kinds := [], alts := [], laidByText := true, laidKinds := [.data], laidTests := true, laidLooks := .later }
def StackRoundCardSaid : Prop := Claim7.holds Tryz.pinned (.plain (OpenSpec.ofChange stackRoundSpec)) stackRoundCard

/-- THE TIED CARD OF 'kibitzerlaw20.StackBack'. -/
def stackBackCard : Claim7 := { stood := { row := stackBackRow, standIns := [], harness := (true, "229ddeef9b05e6e9f38e4562323b10cf52e1a21da2d80309d48cdae820c6d416"), looks := true }, kinds := [], alts := [], laidByText := true, laidKinds := [.data], laidTests := true, laidLooks := .later }
def StackBackCardSaid : Prop := Claim7.holds Tryz.pinned (.plain (OpenSpec.ofChange stackBackSpec)) stackBackCard

/-- THE TIED CARD OF 'kibitzerlaw20.StackKeys'. -/
def stackKeysCard : Claim7 := { stood := { row := stackKeysRow, standIns := [], harness := (true, "229ddeef9b05e6e9f38e4562323b10cf52e1a21da2d80309d48cdae820c6d416"), looks := true }, kinds := [], alts := [], laidByText := true, laidKinds := [.data], laidTests := true, laidLooks := .later }
def StackKeysCardSaid : Prop := Claim7.holds Tryz.pinned (.plain (OpenSpec.ofChange stackKeysSpec)) stackKeysCard

/-- THE SECOND FORM's CARD OF 'kibitzertop.TopBack'. -/
def topBackUptoCard : Claim7 := { stood := { row := topBackUptoRow, standIns := [], harness := (true, "229ddeef9b05e6e9f38e4562323b10cf52e1a21da2d80309d48cdae820c6d416"), looks := true }, kinds := [], alts := [], laidByText := true, laidKinds := [.data], laidTests := true, laidLooks := .later }
def TopBackUptoCardSaid : Prop := Claim7.holds Tryz.pinned (.plain (OpenSpec.upto topBackSpec)) topBackUptoCard

/-- THE SECOND FORM's CARD OF 'kibitzertop.TopSearch'. -/
def topSearchUptoCard : Claim7 := { stood := { row := topSearchUptoRow, standIns := [], harness := (true, "229ddeef9b05e6e9f38e4562323b10cf52e1a21da2d80309d48cdae820c6d416"), looks := true }, kinds := [], alts := [], laidByText := true, laidKinds := [.data], laidTests := true, laidLooks := .later }
def TopSearchUptoCardSaid : Prop := Claim7.holds Tryz.pinned (.plain (OpenSpec.upto topSearchSpec)) topSearchUptoCard

/-- THE SECOND FORM's CARD OF 'kibitzerlaw20.StackPlays'. -/
def stackPlaysUptoCard : Claim7 := { stood := { row := stackPlaysUptoRow, standIns := [], harness := (true, "229ddeef9b05e6e9f38e4562323b10cf52e1a21da2d80309d48cdae820c6d416"), looks := true }, kinds := [], alts := [], laidByText := true, laidKinds := [.data], laidTests := true, laidLooks := .later }
def StackPlaysUptoCardSaid : Prop := Claim7.holds Tryz.pinned (.plain (OpenSpec.upto stackPlaysSpec)) stackPlaysUptoCard

/-- THE SECOND FORM's CARD OF 'kibitzerlaw20.StackRefused'. -/
def stackRefusedUptoCard : Claim7 := { stood := { row := stackRefusedUptoRow, standIns := [], harness := (true, "229ddeef9b05e6e9f38e4562323b10cf52e1a21da2d80309d48cdae820c6d416"), looks := true }, kinds := [], alts := [], laidByText := true, laidKinds := [.data], laidTests := true, laidLooks := .later }
def StackRefusedUptoCardSaid : Prop := Claim7.holds Tryz.pinned (.plain (OpenSpec.upto stackRefusedSpec)) stackRefusedUptoCard

/-- THE SECOND FORM's CARD OF 'kibitzerlaw20.StackRound'. -/
def stackRoundUptoCard : Claim7 := { stood := { row := stackRoundUptoRow, standIns := [], harness := (true, "229ddeef9b05e6e9f38e4562323b10cf52e1a21da2d80309d48cdae820c6d416"), looks := true }, kinds := [], alts := [], laidByText := true, laidKinds := [.data], laidTests := true, laidLooks := .later }
def StackRoundUptoCardSaid : Prop := Claim7.holds Tryz.pinned (.plain (OpenSpec.upto stackRoundSpec)) stackRoundUptoCard

/-- THE SECOND FORM's CARD OF 'kibitzerlaw20.StackBack'. -/
def stackBackUptoCard : Claim7 := { stood := { row := stackBackUptoRow, standIns := [], harness := (true, "229ddeef9b05e6e9f38e4562323b10cf52e1a21da2d80309d48cdae820c6d416"), looks := true }, kinds := [], alts := [], laidByText := true, laidKinds := [.data], laidTests := true, laidLooks := .later }
def StackBackUptoCardSaid : Prop := Claim7.holds Tryz.pinned (.plain (OpenSpec.upto stackBackSpec)) stackBackUptoCard

/-- THE SECOND FORM's CARD OF 'kibitzerlaw20.StackKeys'. -/
def stackKeysUptoCard : Claim7 := { stood := { row := stackKeysUptoRow, standIns := [], harness := (true, "229ddeef9b05e6e9f38e4562323b10cf52e1a21da2d80309d48cdae820c6d416"), looks := true }, kinds := [], alts := [], laidByText := true, laidKinds := [.data], laidTests := true, laidLooks := .later }
def StackKeysUptoCardSaid : Prop := Claim7.holds Tryz.pinned (.plain (OpenSpec.upto stackKeysSpec)) stackKeysUptoCard
end Rows
end Go.Proofs.YtbakeajgolhkgaaGreatDoor
