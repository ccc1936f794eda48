/-
  DERIVED. GIVEN WITH THE SEED: THE CARDS: each row of YtldpejeodhkgdaaDoorRows.lean that lists a variable, with what it lists TIED to the program's text (the seventh form; the later family's looks); each row that meets fmt, with fmt's text TOLD by the authors' own Lean function (tested against real Go, not proved from fmt's source: count such statements apart). THE CARD IS WHAT COUNTS. Prove the row's statement (the work); the ties are given (YtldpejeodhkgdaaDoorTie.lean); close each card by the builder's one call (the guide's Derived/Test/ToyasCard.lean, 'card_holds'). Laid BY PROGRAM, IN A SANDBOX (cutbox-door.mjs). By AI agents, Wed Nov 11 2026. No macro, syntax, notation, axiom, sorry.
-/
import Derived.Test.YtldpejeodhkgdaaDoorRows
import GoSem.ClaimSeven
namespace Go.Proofs.YtldpejeodhkgdaaDoor
namespace Rows

/-- THE TIED CARD OF 'kibitzerlaw11.MovesText'. -/
def movesTextCard : Claim7 := { stood := { row := movesTextRow, standIns := [], harness := (true, "354b9d25c42c645c75785278c9e1e834af7b15e460a3199f88642fe3a60ce4d2"), looks := false }, kinds := [], alts := [], laidByText := true, laidKinds := [.data, .pinned, .pinned], laidTests := true, laidLooks := .later }
def MovesTextCardSaid : Prop := Claim7.holds Tryd.pinned (.plain (OpenSpec.ofChange movesTextSpec)) movesTextCard

/-- THE TIED CARD OF 'kibitzerlaw11.MovesBack'. -/
def movesBackCard : Claim7 := { stood := { row := movesBackRow, standIns := [], harness := (true, "354b9d25c42c645c75785278c9e1e834af7b15e460a3199f88642fe3a60ce4d2"), looks := false }, kinds := [], alts := [], laidByText := true, laidKinds := [.data, .pinned, .pinned], laidTests := true, laidLooks := .later }
def MovesBackCardSaid : Prop := Claim7.holds Tryd.pinned (.plain (OpenSpec.ofChange movesBackSpec)) movesBackCard

/-- THE TIED CARD OF 'kibitzerlaw11.MovesOne'. -/
def movesOneCard : Claim7 := { stood := { row := movesOneRow, standIns := [], harness := (true, "354b9d25c42c645c75785278c9e1e834af7b15e460a3199f88642fe3a60ce4d2"), looks := false }, kinds := [], alts := [], laidByText := true, laidKinds := [.data, .pinned, .pinned], laidTests := true, laidLooks := .later }
def MovesOneCardSaid : Prop := Claim7.holds Tryd.pinned (.plain (OpenSpec.ofChange movesOneSpec)) movesOneCard

/-- THE TIED CARD OF 'kibitzerlaw11.MovesPlain'. -/
def movesPlainCard : Claim7 := { stood := { row := movesPlainRow, standIns := [], harness := (true, "354b9d25c42c645c75785278c9e1e834af7b15e460a3199f88642fe3a60ce4d2"), looks := false }, kinds := [], alts := [], laidByText := true, laidKinds := [.data, .pinned, .pinned], laidTests := true, laidLooks := .later }
def MovesPlainCardSaid : Prop := Claim7.holds Tryd.pinned (.plain (OpenSpec.ofChange movesPlainSpec)) movesPlainCard

/-- THE TIED CARD OF 'kibitzerlaw11.MovesDrops'. -/
def movesDropsCard : Claim7 := { stood := { row := movesDropsRow, standIns := [], harness := (true, "354b9d25c42c645c75785278c9e1e834af7b15e460a3199f88642fe3a60ce4d2"), looks := false }, kinds := [], alts := [], laidByText := true, laidKinds := [.data, .pinned, .pinned], laidTests := true, laidLooks := .later }
def MovesDropsCardSaid : Prop := Claim7.holds Tryd.pinned (.plain (OpenSpec.ofChange movesDropsSpec)) movesDropsCard

/-- THE TIED CARD OF 'kibitzerlaw11.MovesArg'. -/
def movesArgCard : Claim7 := { stood := { row := movesArgRow, standIns := [], harness := (true, "354b9d25c42c645c75785278c9e1e834af7b15e460a3199f88642fe3a60ce4d2"), looks := false }, kinds := [], alts := [], laidByText := true, laidKinds := [.data, .pinned, .pinned], laidTests := true, laidLooks := .later }
def MovesArgCardSaid : Prop := Claim7.holds Tryd.pinned (.plain (OpenSpec.ofChange movesArgSpec)) movesArgCard

/-- THE SECOND FORM's CARD OF 'kibitzerlaw11.MovesText'. -/
def movesTextUptoCard : Claim7 := { stood := { row := movesTextUptoRow, standIns := [], harness := (true, "354b9d25c42c645c75785278c9e1e834af7b15e460a3199f88642fe3a60ce4d2"), looks := false }, kinds := [], alts := [], laidByText := true, laidKinds := [.data, .pinned, .pinned], laidTests := true, laidLooks := .later }
def MovesTextUptoCardSaid : Prop := Claim7.holds Tryd.pinned (.plain (OpenSpec.upto movesTextSpec)) movesTextUptoCard

/-- THE SECOND FORM's CARD OF 'kibitzerlaw11.MovesBack'. -/
def movesBackUptoCard : Claim7 := { stood := { row := movesBackUptoRow, standIns := [], harness := (true, "354b9d25c42c645c75785278c9e1e834af7b15e460a3199f88642fe3a60ce4d2"), looks := false }, kinds := [], alts := [], laidByText := true, laidKinds := [.data, .pinned, .pinned], laidTests := true, laidLooks := .later }
def MovesBackUptoCardSaid : Prop := Claim7.holds Tryd.pinned (.plain (OpenSpec.upto movesBackSpec)) movesBackUptoCard

/-- THE SECOND FORM's CARD OF 'kibitzerlaw11.MovesOne'. -/
def movesOneUptoCard : Claim7 := { stood := { row := movesOneUptoRow, standIns := [], harness := (true, "354b9d25c42c645c75785278c9e1e834af7b15e460a3199f88642fe3a60ce4d2"), looks := false }, kinds := [], alts := [], laidByText := true, laidKinds := [.data, .pinned, .pinned], laidTests := true, laidLooks := .later }
def MovesOneUptoCardSaid : Prop := Claim7.holds Tryd.pinned (.plain (OpenSpec.upto movesOneSpec)) movesOneUptoCard

/-- THE SECOND FORM's CARD OF 'kibitzerlaw11.MovesPlain'. -/
def movesPlainUptoCard : Claim7 := { stood := { row := movesPlainUptoRow, standIns := [], harness := (true, "354b9d25c42c645c75785278c9e1e834af7b15e460a3199f88642fe3a60ce4d2"), looks := false }, kinds := [], alts := [], laidByText := true, laidKinds := [.data, .pinned, .pinned], laidTests := true, laidLooks := .later }
def MovesPlainUptoCardSaid : Prop := Claim7.holds Tryd.pinned (.plain (OpenSpec.upto movesPlainSpec)) movesPlainUptoCard

/-- THE SECOND FORM's CARD OF 'kibitzerlaw11.MovesDrops'. -/
def movesDropsUptoCard : Claim7 := { stood := { row := movesDropsUptoRow, standIns := [], harness := (true, "354b9d25c42c645c75785278c9e1e834af7b15e460a3199f88642fe3a60ce4d2"), looks := false }, kinds := [], alts := [], laidByText := true, laidKinds := [.data, .pinned, .pinned], laidTests := true, laidLooks := .later }
def MovesDropsUptoCardSaid : Prop := Claim7.holds Tryd.pinned (.plain (OpenSpec.upto movesDropsSpec)) movesDropsUptoCard

/-- THE SECOND FORM's CARD OF 'kibitzerlaw11.MovesArg'. -/
def movesArgUptoCard : Claim7 := { stood := { row := movesArgUptoRow, standIns := [], harness := (true, "354b9d25c42c645c75785278c9e1e834af7b15e460a3199f88642fe3a60ce4d2"), looks := false }, kinds := [], alts := [], laidByText := true, laidKinds := [.data, .pinned, .pinned], laidTests := true, laidLooks := .later }
def MovesArgUptoCardSaid : Prop := Claim7.holds Tryd.pinned (.plain (OpenSpec.upto movesArgSpec)) movesArgUptoCard
end Rows
end Go.Proofs.YtldpejeodhkgdaaDoor
