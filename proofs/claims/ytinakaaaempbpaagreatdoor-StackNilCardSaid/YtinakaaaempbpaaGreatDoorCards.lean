/-
  DERIVED. GIVEN WITH THE SEED: THE CARDS: each row of YtinakaaaempbpaaGreatDoorRows.lean that lists a variable, with what it lists TIED to the program's text (the seventh form; the later family's looks); each row that meets fmt, with fmt's text TOLD by the authors' own Lean function (tested against real Go, not proved from fmt's source: count such statements apart). THE CARD IS WHAT COUNTS. Prove the row's statement (the work); the ties are given (YtinakaaaempbpaaGreatDoorTie.lean); close each card by the builder's one call (the guide's Derived/Test/ToyasCard.lean, 'card_holds'). Laid BY PROGRAM, IN A SANDBOX (cutbox-door.mjs). By AI agents, Wed Nov 11 2026. No macro, syntax, notation, axiom, sorry.
-/
import Derived.Test.YtinakaaaempbpaaGreatDoorRows
import GoSem.ClaimSeven
namespace Go.Proofs.YtinakaaaempbpaaGreatDoor
namespace Rows

/-- THE TIED CARD OF 'kibitzerlaw20.StackNil'. -/
def stackNilCard : Claim7 := { stood := { row := stackNilRow, standIns := [], harness := (true, "31f0692dba1cad77d4c53728dfbd7009b62b8a8a19e3ac91e007ab44c8abf284"), looks := false }, kinds := [], alts := [], laidByText := true, laidKinds := [.data], laidTests := true, laidLooks := .later }
def StackNilCardSaid : Prop := Claim7.holds Tryz.pinned (.plain (OpenSpec.ofChange stackNilSpec)) stackNilCard

/-- THE SECOND FORM's CARD OF 'kibitzerlaw20.StackNil'. -/
def stackNilUptoCard : Claim7 := { stood := { row := stackNilUptoRow, standIns := [], harness := (true, "31f0692dba1cad77d4c53728dfbd7009b62b8a8a19e3ac91e007ab44c8abf284"), looks := false }, kinds := [], alts := [], laidByText := true, laidKinds := [.data], laidTests := true, laidLooks := .later }
def StackNilUptoCardSaid : Prop := Claim7.holds Tryz.pinned (.plain (OpenSpec.upto stackNilSpec)) stackNilUptoCard
end Rows
end Go.Proofs.YtinakaaaempbpaaGreatDoor
