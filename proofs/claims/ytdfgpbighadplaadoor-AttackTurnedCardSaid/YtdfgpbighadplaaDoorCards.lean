/-
  DERIVED. GIVEN WITH THE SEED: THE CARDS: each row of YtdfgpbighadplaaDoorRows.lean that lists a variable, with what it lists TIED to the program's text (the seventh form; the later family's looks); each row that meets fmt, with fmt's text TOLD by the authors' own Lean function (tested against real Go, not proved from fmt's source: count such statements apart). THE CARD IS WHAT COUNTS. Prove the row's statement (the work); the ties are given (YtdfgpbighadplaaDoorTie.lean); close each card by the builder's one call (the guide's Derived/Test/ToyasCard.lean, 'card_holds'). Laid BY PROGRAM, IN A SANDBOX (cutbox-door.mjs). By AI agents, Wed Nov 11 2026. No macro, syntax, notation, axiom, sorry.
-/
import Derived.Test.YtdfgpbighadplaaDoorRows
import GoSem.ClaimSeven
namespace Go.Proofs.YtdfgpbighadplaaDoor
namespace Rows

/-- THE TIED CARD OF 'kibitzerlaw08.AttackBy'. -/
def attackByCard : Claim7 := { stood := { row := attackByRow, standIns := [], harness := (true, "142b55c1011b86b67fcfaba8e8b0b87ec31e79d33d28af3073e722855290c096"), looks := false }, kinds := [], alts := [], laidByText := true, laidKinds := [.data], laidTests := true, laidLooks := .later }
def AttackByCardSaid : Prop := Claim7.holds Tryd.pinned (.plain (OpenSpec.ofChange attackBySpec)) attackByCard

/-- THE TIED CARD OF 'kibitzerlaw08.AttackFrom'. -/
def attackFromCard : Claim7 := { stood := { row := attackFromRow, standIns := [], harness := (true, "142b55c1011b86b67fcfaba8e8b0b87ec31e79d33d28af3073e722855290c096"), looks := false }, kinds := [], alts := [], laidByText := true, laidKinds := [.data], laidTests := true, laidLooks := .later }
def AttackFromCardSaid : Prop := Claim7.holds Tryd.pinned (.plain (OpenSpec.ofChange attackFromSpec)) attackFromCard

/-- THE TIED CARD OF 'kibitzerlaw08.AttackCheck'. -/
def attackCheckCard : Claim7 := { stood := { row := attackCheckRow, standIns := [], harness := (true, "142b55c1011b86b67fcfaba8e8b0b87ec31e79d33d28af3073e722855290c096"), looks := false }, kinds := [], alts := [], laidByText := true, laidKinds := [.data], laidTests := true, laidLooks := .later }
def AttackCheckCardSaid : Prop := Claim7.holds Tryd.pinned (.plain (OpenSpec.ofChange attackCheckSpec)) attackCheckCard

/-- THE TIED CARD OF 'kibitzerlaw08.AttackBoth'. -/
def attackBothCard : Claim7 := { stood := { row := attackBothRow, standIns := [], harness := (true, "142b55c1011b86b67fcfaba8e8b0b87ec31e79d33d28af3073e722855290c096"), looks := false }, kinds := [], alts := [], laidByText := true, laidKinds := [.data], laidTests := true, laidLooks := .later }
def AttackBothCardSaid : Prop := Claim7.holds Tryd.pinned (.plain (OpenSpec.ofChange attackBothSpec)) attackBothCard

/-- THE TIED CARD OF 'kibitzerlaw08.AttackLess'. -/
def attackLessCard : Claim7 := { stood := { row := attackLessRow, standIns := [], harness := (true, "142b55c1011b86b67fcfaba8e8b0b87ec31e79d33d28af3073e722855290c096"), looks := false }, kinds := [], alts := [], laidByText := true, laidKinds := [.data], laidTests := true, laidLooks := .later }
def AttackLessCardSaid : Prop := Claim7.holds Tryd.pinned (.plain (OpenSpec.ofChange attackLessSpec)) attackLessCard

/-- THE TIED CARD OF 'kibitzerlaw08.AttackTurned'. -/
def attackTurnedCard : Claim7 := { stood := { row := attackTurnedRow, standIns := [], harness := (true, "142b55c1011b86b67fcfaba8e8b0b87ec31e79d33d28af3073e722855290c096"), looks := false }, kinds := [], alts := [], laidByText := true, laidKinds := [.data], laidTests := true, laidLooks := .later }
def AttackTurnedCardSaid : Prop := Claim7.holds Tryd.pinned (.plain (OpenSpec.ofChange attackTurnedSpec)) attackTurnedCard

/-- THE TIED CARD OF 'kibitzerlaw08.AttackChecks'. -/
def attackChecksCard : Claim7 := { stood := { row := attackChecksRow, standIns := [], harness := (true, "142b55c1011b86b67fcfaba8e8b0b87ec31e79d33d28af3073e722855290c096"), looks := false }, kinds := [], alts := [], laidByText := true, laidKinds := [.data], laidTests := true, laidLooks := .later }
def AttackChecksCardSaid : Prop := Claim7.holds Tryd.pinned (.plain (OpenSpec.ofChange attackChecksSpec)) attackChecksCard

/-- THE SECOND FORM's CARD OF 'kibitzerlaw08.AttackBy'. -/
def attackByUptoCard : Claim7 := { stood := { row := attackByUptoRow, standIns := [], harness := (true, "142b55c1011b86b67fcfaba8e8b0b87ec31e79d33d28af3073e722855290c096"), looks := false }, kinds := [], alts := [], laidByText := true, laidKinds := [.data], laidTests := true, laidLooks := .later }
def AttackByUptoCardSaid : Prop := Claim7.holds Tryd.pinned (.plain (OpenSpec.upto attackBySpec)) attackByUptoCard

/-- THE SECOND FORM's CARD OF 'kibitzerlaw08.AttackFrom'. -/
def attackFromUptoCard : Claim7 := { stood := { row := attackFromUptoRow, standIns := [], harness := (true, "142b55c1011b86b67fcfaba8e8b0b87ec31e79d33d28af3073e722855290c096"), looks := false }, kinds := [], alts := [], laidByText := true, laidKinds := [.data], laidTests := true, laidLooks := .later }
def AttackFromUptoCardSaid : Prop := Claim7.holds Tryd.pinned (.plain (OpenSpec.upto attackFromSpec)) attackFromUptoCard

/-- THE SECOND FORM's CARD OF 'kibitzerlaw08.AttackCheck'. -/
def attackCheckUptoCard : Claim7 := { stood := { row := attackCheckUptoRow, standIns := [], harness := (true, "142b55c1011b86b67fcfaba8e8b0b87ec31e79d33d28af3073e722855290c096"), looks := false }, kinds := [], alts := [], laidByText := true, laidKinds := [.data], laidTests := true, laidLooks := .later }
def AttackCheckUptoCardSaid : Prop := Claim7.holds Tryd.pinned (.plain (OpenSpec.upto attackCheckSpec)) attackCheckUptoCard

/-- THE SECOND FORM's CARD OF 'kibitzerlaw08.AttackBoth'. -/
def attackBothUptoCard : Claim7 := { stood := { row := attackBothUptoRow, standIns := [], harness := (true, "142b55c1011b86b67fcfaba8e8b0b87ec31e79d33d28af3073e722855290c096"), looks := false }, kinds := [], alts := [], laidByText := true, laidKinds := [.data], laidTests := true, laidLooks := .later }
def AttackBothUptoCardSaid : Prop := Claim7.holds Tryd.pinned (.plain (OpenSpec.upto attackBothSpec)) attackBothUptoCard

/-- THE SECOND FORM's CARD OF 'kibitzerlaw08.AttackLess'. -/
def attackLessUptoCard : Claim7 := { stood := { row := attackLessUptoRow, standIns := [], harness := (true, "142b55c1011b86b67fcfaba8e8b0b87ec31e79d33d28af3073e722855290c096"), looks := false }, kinds := [], alts := [], laidByText := true, laidKinds := [.data], laidTests := true, laidLooks := .later }
def AttackLessUptoCardSaid : Prop := Claim7.holds Tryd.pinned (.plain (OpenSpec.upto attackLessSpec)) attackLessUptoCard

/-- THE SECOND FORM's CARD OF 'kibitzerlaw08.AttackTurned'. -/
def attackTurnedUptoCard : Claim7 := { stood := { row := attackTurnedUptoRow, standIns := [], harness := (true, "142b55c1011b86b67fcfaba8e8b0b87ec31e79d33d28af3073e722855290c096"), looks := false }, kinds := [], alts := [], laidByText := true, laidKinds := [.data], laidTests := true, laidLooks := .later }
def AttackTurnedUptoCardSaid : Prop := Claim7.holds Tryd.pinned (.plain (OpenSpec.upto attackTurnedSpec)) attackTurnedUptoCard

/-- THE SECOND FORM's CARD OF 'kibitzerlaw08.AttackChecks'. -/
def attackChecksUptoCard : Claim7 := { stood := { row := attackChecksUptoRow, standIns := [], harness := (true, "142b55c1011b86b67fcfaba8e8b0b87ec31e79d33d28af3073e722855290c096"), looks := false }, kinds := [], alts := [], laidByText := true, laidKinds := [.data], laidTests := true, laidLooks := .later }
def AttackChecksUptoCardSaid : Prop := Claim7.holds Tryd.pinned (.plain (OpenSpec.upto attackChecksSpec)) attackChecksUptoCard
end Rows
end Go.Proofs.YtdfgpbighadplaaDoor
