/-
  DERIVED. GIVEN WITH THE SEED: THE CARDS: each row of YtnkkhdcjbjiimaaDoorRows.lean that lists a variable, with what it lists TIED to the program's text (the seventh form; the later family's looks); each row that meets fmt, with fmt's text TOLD by the authors' own Lean function (tested against real Go, not proved from fmt's source: count such statements apart). THE CARD IS WHAT COUNTS. Prove the row's statement (the work); the ties are given (YtnkkhdcjbjiimaaDoorTie.lean); close each card by the builder's one call (the guide's Derived/Test/ToyasCard.lean, 'card_holds'). Laid BY PROGRAM, IN A SANDBOX (cutbox-door.mjs). By AI agents, Wed Nov 11 2026. No macro, syntax, notation, axiom, sorry.
-/
import Derived.Test.YtnkkhdcjbjiimaaDoorRows
import GoSem.ClaimSeven
namespace Go.Proofs.YtnkkhdcjbjiimaaDoor
namespace Rows

/-- THE TIED CARD OF 'kibitzerlaw14.CastleList'. -/
def castleListCard : Claim7 := { stood := { row := castleListRow, standIns := [], harness := (true, "455298c7388cbef0033c5596935ad894d3619e3849020aa1b7091834ccde9bec"), looks := false }, kinds := [], alts := [], laidByText := true, laidKinds := [.data], laidTests := true, laidLooks := .later }
def CastleListCardSaid : Prop := Claim7.holds Tryd.pinned (.plain (OpenSpec.ofChange castleListSpec)) castleListCard

/-- THE TIED CARD OF 'kibitzerlaw14.CastleRights'. -/
def castleRightsCard : Claim7 := { stood := { row := castleRightsRow, standIns := [], harness := (true, "455298c7388cbef0033c5596935ad894d3619e3849020aa1b7091834ccde9bec"), looks := false }, kinds := [], alts := [], laidByText := true, laidKinds := [.data], laidTests := true, laidLooks := .later }
def CastleRightsCardSaid : Prop := Claim7.holds Tryd.pinned (.plain (OpenSpec.ofChange castleRightsSpec)) castleRightsCard

/-- THE TIED CARD OF 'kibitzerlaw14.CastleChess'. -/
def castleChessCard : Claim7 := { stood := { row := castleChessRow, standIns := [], harness := (true, "455298c7388cbef0033c5596935ad894d3619e3849020aa1b7091834ccde9bec"), looks := false }, kinds := [], alts := [], laidByText := true, laidKinds := [.data], laidTests := true, laidLooks := .later }
def CastleChessCardSaid : Prop := Claim7.holds Tryd.pinned (.plain (OpenSpec.ofChange castleChessSpec)) castleChessCard

/-- THE TIED CARD OF 'kibitzerlaw14.CastleGoals'. -/
def castleGoalsCard : Claim7 := { stood := { row := castleGoalsRow, standIns := [], harness := (true, "455298c7388cbef0033c5596935ad894d3619e3849020aa1b7091834ccde9bec"), looks := false }, kinds := [], alts := [], laidByText := true, laidKinds := [.data], laidTests := true, laidLooks := .later }
def CastleGoalsCardSaid : Prop := Claim7.holds Tryd.pinned (.plain (OpenSpec.ofChange castleGoalsSpec)) castleGoalsCard

/-- THE TIED CARD OF 'kibitzerlaw14.CastleGoes'. -/
def castleGoesCard : Claim7 := { stood := { row := castleGoesRow, standIns := [], harness := (true, "455298c7388cbef0033c5596935ad894d3619e3849020aa1b7091834ccde9bec"), looks := false }, kinds := [], alts := [], laidByText := true, laidKinds := [.data], laidTests := true, laidLooks := .later }
def CastleGoesCardSaid : Prop := Claim7.holds Tryd.pinned (.plain (OpenSpec.ofChange castleGoesSpec)) castleGoesCard

/-- THE TIED CARD OF 'kibitzerlaw18.PinsOf'. -/
def pinsOfCard : Claim7 := { stood := { row := pinsOfRow, standIns := [], harness := (true, "455298c7388cbef0033c5596935ad894d3619e3849020aa1b7091834ccde9bec"), looks := false }, kinds := [], alts := [], laidByText := true, laidKinds := [.data], laidTests := true, laidLooks := .later }
def PinsOfCardSaid : Prop := Claim7.holds Tryd.pinned (.plain (OpenSpec.ofChange pinsOfSpec)) pinsOfCard

/-- THE TIED CARD OF 'kibitzerlaw18.PinsLines'. -/
def pinsLinesCard : Claim7 := { stood := { row := pinsLinesRow, standIns := [], harness := (true, "455298c7388cbef0033c5596935ad894d3619e3849020aa1b7091834ccde9bec"), looks := false }, kinds := [], alts := [], laidByText := true, laidKinds := [.data], laidTests := true, laidLooks := .later }
def PinsLinesCardSaid : Prop := Claim7.holds Tryd.pinned (.plain (OpenSpec.ofChange pinsLinesSpec)) pinsLinesCard

/-- THE TIED CARD OF 'kibitzerlaw18.PinsBlocks'. -/
def pinsBlocksCard : Claim7 := { stood := { row := pinsBlocksRow, standIns := [], harness := (true, "455298c7388cbef0033c5596935ad894d3619e3849020aa1b7091834ccde9bec"), looks := false }, kinds := [], alts := [], laidByText := true, laidKinds := [.data], laidTests := true, laidLooks := .later }
def PinsBlocksCardSaid : Prop := Claim7.holds Tryd.pinned (.plain (OpenSpec.ofChange pinsBlocksSpec)) pinsBlocksCard

/-- THE TIED CARD OF 'kibitzerlaw18.PinsOff'. -/
def pinsOffCard : Claim7 := { stood := { row := pinsOffRow, standIns := [], harness := (true, "455298c7388cbef0033c5596935ad894d3619e3849020aa1b7091834ccde9bec"), looks := false }, kinds := [], alts := [], laidByText := true, laidKinds := [.data], laidTests := true, laidLooks := .later }
def PinsOffCardSaid : Prop := Claim7.holds Tryd.pinned (.plain (OpenSpec.ofChange pinsOffSpec)) pinsOffCard

/-- THE TIED CARD OF 'kibitzerlaw18.PinsFew'. -/
def pinsFewCard : Claim7 := { stood := { row := pinsFewRow, standIns := [], harness := (true, "455298c7388cbef0033c5596935ad894d3619e3849020aa1b7091834ccde9bec"), looks := false }, kinds := [], alts := [], laidByText := true, laidKinds := [.data], laidTests := true, laidLooks := .later }
def PinsFewCardSaid : Prop := Claim7.holds Tryd.pinned (.plain (OpenSpec.ofChange pinsFewSpec)) pinsFewCard

/-- THE SECOND FORM's CARD OF 'kibitzerlaw14.CastleList'. -/
def castleListUptoCard : Claim7 := { stood := { row := castleListUptoRow, standIns := [], harness := (true, "455298c7388cbef0033c5596935ad894d3619e3849020aa1b7091834ccde9bec"), looks := false }, kinds := [], alts := [], laidByText := true, laidKinds := [.data], laidTests := true, laidLooks := .later }
def CastleListUptoCardSaid : Prop := Claim7.holds Tryd.pinned (.plain (OpenSpec.upto castleListSpec)) castleListUptoCard

/-- THE SECOND FORM's CARD OF 'kibitzerlaw14.CastleRights'. -/
def castleRightsUptoCard : Claim7 := { stood := { row := castleRightsUptoRow, standIns := [], harness := (true, "455298c7388cbef0033c5596935ad894d3619e3849020aa1b7091834ccde9bec"), looks := false }, kinds := [], alts := [], laidByText := true, laidKinds := [.data], laidTests := true, laidLooks := .later }
def CastleRightsUptoCardSaid : Prop := Claim7.holds Tryd.pinned (.plain (OpenSpec.upto castleRightsSpec)) castleRightsUptoCard

/-- THE SECOND FORM's CARD OF 'kibitzerlaw14.CastleChess'. -/
def castleChessUptoCard : Claim7 := { stood := { row := castleChessUptoRow, standIns := [], harness := (true, "455298c7388cbef0033c5596935ad894d3619e3849020aa1b7091834ccde9bec"), looks := false }, kinds := [], alts := [], laidByText := true, laidKinds := [.data], laidTests := true, laidLooks := .later }
def CastleChessUptoCardSaid : Prop := Claim7.holds Tryd.pinned (.plain (OpenSpec.upto castleChessSpec)) castleChessUptoCard

/-- THE SECOND FORM's CARD OF 'kibitzerlaw14.CastleGoals'. -/
def castleGoalsUptoCard : Claim7 := { stood := { row := castleGoalsUptoRow, standIns := [], harness := (true, "455298c7388cbef0033c5596935ad894d3619e3849020aa1b7091834ccde9bec"), looks := false }, kinds := [], alts := [], laidByText := true, laidKinds := [.data], laidTests := true, laidLooks := .later }
def CastleGoalsUptoCardSaid : Prop := Claim7.holds Tryd.pinned (.plain (OpenSpec.upto castleGoalsSpec)) castleGoalsUptoCard

/-- THE SECOND FORM's CARD OF 'kibitzerlaw14.CastleGoes'. -/
def castleGoesUptoCard : Claim7 := { stood := { row := castleGoesUptoRow, standIns := [], harness := (true, "455298c7388cbef0033c5596935ad894d3619e3849020aa1b7091834ccde9bec"), looks := false }, kinds := [], alts := [], laidByText := true, laidKinds := [.data], laidTests := true, laidLooks := .later }
def CastleGoesUptoCardSaid : Prop := Claim7.holds Tryd.pinned (.plain (OpenSpec.upto castleGoesSpec)) castleGoesUptoCard

/-- THE SECOND FORM's CARD OF 'kibitzerlaw18.PinsOf'. -/
def pinsOfUptoCard : Claim7 := { stood := { row := pinsOfUptoRow, standIns := [], harness := (true, "455298c7388cbef0033c5596935ad894d3619e3849020aa1b7091834ccde9bec"), looks := false }, kinds := [], alts := [], laidByText := true, laidKinds := [.data], laidTests := true, laidLooks := .later }
def PinsOfUptoCardSaid : Prop := Claim7.holds Tryd.pinned (.plain (OpenSpec.upto pinsOfSpec)) pinsOfUptoCard

/-- THE SECOND FORM's CARD OF 'kibitzerlaw18.PinsLines'. -/
def pinsLinesUptoCard : Claim7 := { stood := { row := pinsLinesUptoRow, standIns := [], harness := (true, "455298c7388cbef0033c5596935ad894d3619e3849020aa1b7091834ccde9bec"), looks := false }, kinds := [], alts := [], laidByText := true, laidKinds := [.data], laidTests := true, laidLooks := .later }
def PinsLinesUptoCardSaid : Prop := Claim7.holds Tryd.pinned (.plain (OpenSpec.upto pinsLinesSpec)) pinsLinesUptoCard

/-- THE SECOND FORM's CARD OF 'kibitzerlaw18.PinsBlocks'. -/
def pinsBlocksUptoCard : Claim7 := { stood := { row := pinsBlocksUptoRow, standIns := [], harness := (true, "455298c7388cbef0033c5596935ad894d3619e3849020aa1b7091834ccde9bec"), looks := false }, kinds := [], alts := [], laidByText := true, laidKinds := [.data], laidTests := true, laidLooks := .later }
def PinsBlocksUptoCardSaid : Prop := Claim7.holds Tryd.pinned (.plain (OpenSpec.upto pinsBlocksSpec)) pinsBlocksUptoCard

/-- THE SECOND FORM's CARD OF 'kibitzerlaw18.PinsOff'. -/
def pinsOffUptoCard : Claim7 := { stood := { row := pinsOffUptoRow, standIns := [], harness := (true, "455298c7388cbef0033c5596935ad894d3619e3849020aa1b7091834ccde9bec"), looks := false }, kinds := [], alts := [], laidByText := true, laidKinds := [.data], laidTests := true, laidLooks := .later }
def PinsOffUptoCardSaid : Prop := Claim7.holds Tryd.pinned (.plain (OpenSpec.upto pinsOffSpec)) pinsOffUptoCard

/-- THE SECOND FORM's CARD OF 'kibitzerlaw18.PinsFew'. -/
def pinsFewUptoCard : Claim7 := { stood := { row := pinsFewUptoRow, standIns := [], harness := (true, "455298c7388cbef0033c5596935ad894d3619e3849020aa1b7091834ccde9bec"), looks := false }, kinds := [], alts := [], laidByText := true, laidKinds := [.data], laidTests := true, laidLooks := .later }
def PinsFewUptoCardSaid : Prop := Claim7.holds Tryd.pinned (.plain (OpenSpec.upto pinsFewSpec)) pinsFewUptoCard
end Rows
end Go.Proofs.YtnkkhdcjbjiimaaDoor
