/-
  DERIVED. GIVEN WITH THE SEED: THE CARDS: each row of YtlphjjekamhnlaaDoorRows.lean that lists a variable, with what it lists TIED to the program's text (the seventh form; the later family's looks); each row that meets fmt, with fmt's text TOLD by the authors' own Lean function (tested against real Go, not proved from fmt's source: count such statements apart). THE CARD IS WHAT COUNTS. Prove the row's statement (the work); the ties are given (YtlphjjekamhnlaaDoorTie.lean); close each card by the builder's one call (the guide's Derived/Test/ToyasCard.lean, 'card_holds'). Laid BY PROGRAM, IN A SANDBOX (cutbox-door.mjs). By AI agents, Wed Nov 11 2026. No macro, syntax, notation, axiom, sorry.
-/
import Derived.Test.YtlphjjekamhnlaaDoorRows
import GoSem.ClaimSeven
namespace Go.Proofs.YtlphjjekamhnlaaDoor
namespace Rows

/-- THE TIED CARD OF 'kibitzerlaw13.PseudoList'. -/
def pseudoListCard : Claim7 := { stood := { row := pseudoListRow, standIns := [], harness := (true, "e6ef422e3defdc47f57dde35fe91b6dab18a2316cda4424011f8c68ac25e33a1"), looks := false }, kinds := [], alts := [], laidByText := true, laidKinds := [.data], laidTests := true, laidLooks := .later }
def PseudoListCardSaid : Prop := Claim7.holds Tryd.pinned (.plain (OpenSpec.ofChange pseudoListSpec)) pseudoListCard

/-- THE TIED CARD OF 'kibitzerlaw13.PseudoBack'. -/
def pseudoBackCard : Claim7 := { stood := { row := pseudoBackRow, standIns := [], harness := (true, "e6ef422e3defdc47f57dde35fe91b6dab18a2316cda4424011f8c68ac25e33a1"), looks := false }, kinds := [], alts := [], laidByText := true, laidKinds := [.data], laidTests := true, laidLooks := .later }
def PseudoBackCardSaid : Prop := Claim7.holds Tryd.pinned (.plain (OpenSpec.ofChange pseudoBackSpec)) pseudoBackCard

/-- THE TIED CARD OF 'kibitzerlaw13.PseudoOwn'. -/
def pseudoOwnCard : Claim7 := { stood := { row := pseudoOwnRow, standIns := [], harness := (true, "e6ef422e3defdc47f57dde35fe91b6dab18a2316cda4424011f8c68ac25e33a1"), looks := false }, kinds := [], alts := [], laidByText := true, laidKinds := [.data], laidTests := true, laidLooks := .later }
def PseudoOwnCardSaid : Prop := Claim7.holds Tryd.pinned (.plain (OpenSpec.ofChange pseudoOwnSpec)) pseudoOwnCard

/-- THE TIED CARD OF 'kibitzerlaw13.PseudoLess'. -/
def pseudoLessCard : Claim7 := { stood := { row := pseudoLessRow, standIns := [], harness := (true, "e6ef422e3defdc47f57dde35fe91b6dab18a2316cda4424011f8c68ac25e33a1"), looks := false }, kinds := [], alts := [], laidByText := true, laidKinds := [.data], laidTests := true, laidLooks := .later }
def PseudoLessCardSaid : Prop := Claim7.holds Tryd.pinned (.plain (OpenSpec.ofChange pseudoLessSpec)) pseudoLessCard

/-- THE TIED CARD OF 'kibitzerlaw12.ValidAll'. -/
def validAllCard : Claim7 := { stood := { row := validAllRow, standIns := [], harness := (true, "e6ef422e3defdc47f57dde35fe91b6dab18a2316cda4424011f8c68ac25e33a1"), looks := false }, kinds := [], alts := [], laidByText := true, laidKinds := [.data], laidTests := true, laidLooks := .later }
def ValidAllCardSaid : Prop := Claim7.holds Tryd.pinned (.plain (OpenSpec.ofChange validAllSpec)) validAllCard

/-- THE TIED CARD OF 'kibitzerlaw12.ValidTurned'. -/
def validTurnedCard : Claim7 := { stood := { row := validTurnedRow, standIns := [], harness := (true, "e6ef422e3defdc47f57dde35fe91b6dab18a2316cda4424011f8c68ac25e33a1"), looks := false }, kinds := [], alts := [], laidByText := true, laidKinds := [.data], laidTests := true, laidLooks := .later }
def ValidTurnedCardSaid : Prop := Claim7.holds Tryd.pinned (.plain (OpenSpec.ofChange validTurnedSpec)) validTurnedCard

/-- THE TIED CARD OF 'kibitzerlaw12.ValidMends'. -/
def validMendsCard : Claim7 := { stood := { row := validMendsRow, standIns := [], harness := (true, "e6ef422e3defdc47f57dde35fe91b6dab18a2316cda4424011f8c68ac25e33a1"), looks := false }, kinds := [], alts := [], laidByText := true, laidKinds := [.data], laidTests := true, laidLooks := .later }
def ValidMendsCardSaid : Prop := Claim7.holds Tryd.pinned (.plain (OpenSpec.ofChange validMendsSpec)) validMendsCard

/-- THE TIED CARD OF 'kibitzerlaw12.ValidMended'. -/
def validMendedCard : Claim7 := { stood := { row := validMendedRow, standIns := [], harness := (true, "e6ef422e3defdc47f57dde35fe91b6dab18a2316cda4424011f8c68ac25e33a1"), looks := false }, kinds := [], alts := [], laidByText := true, laidKinds := [.data], laidTests := true, laidLooks := .later }
def ValidMendedCardSaid : Prop := Claim7.holds Tryd.pinned (.plain (OpenSpec.ofChange validMendedSpec)) validMendedCard

/-- THE TIED CARD OF 'kibitzerlaw12.ValidFirst'. -/
def validFirstCard : Claim7 := { stood := { row := validFirstRow, standIns := [], harness := (true, "e6ef422e3defdc47f57dde35fe91b6dab18a2316cda4424011f8c68ac25e33a1"), looks := false }, kinds := [], alts := [], laidByText := true, laidKinds := [.data], laidTests := true, laidLooks := .later }
def ValidFirstCardSaid : Prop := Claim7.holds Tryd.pinned (.plain (OpenSpec.ofChange validFirstSpec)) validFirstCard

/-- THE SECOND FORM's CARD OF 'kibitzerlaw13.PseudoList'. -/
def pseudoListUptoCard : Claim7 := { stood := { row := pseudoListUptoRow, standIns := [], harness := (true, "e6ef422e3defdc47f57dde35fe91b6dab18a2316cda4424011f8c68ac25e33a1"), looks := false }, kinds := [], alts := [], laidByText := true, laidKinds := [.data], laidTests := true, laidLooks := .later }
def PseudoListUptoCardSaid : Prop := Claim7.holds Tryd.pinned (.plain (OpenSpec.upto pseudoListSpec)) pseudoListUptoCard

/-- THE SECOND FORM's CARD OF 'kibitzerlaw13.PseudoBack'. -/
def pseudoBackUptoCard : Claim7 := { stood := { row := pseudoBackUptoRow, standIns := [], harness := (true, "e6ef422e3defdc47f57dde35fe91b6dab18a2316cda4424011f8c68ac25e33a1"), looks := false }, kinds := [], alts := [], laidByText := true, laidKinds := [.data], laidTests := true, laidLooks := .later }
def PseudoBackUptoCardSaid : Prop := Claim7.holds Tryd.pinned (.plain (OpenSpec.upto pseudoBackSpec)) pseudoBackUptoCard

/-- THE SECOND FORM's CARD OF 'kibitzerlaw13.PseudoOwn'. -/
def pseudoOwnUptoCard : Claim7 := { stood := { row := pseudoOwnUptoRow, standIns := [], harness := (true, "e6ef422e3defdc47f57dde35fe91b6dab18a2316cda4424011f8c68ac25e33a1"), looks := false }, kinds := [], alts := [], laidByText := true, laidKinds := [.data], laidTests := true, laidLooks := .later }
def PseudoOwnUptoCardSaid : Prop := Claim7.holds Tryd.pinned (.plain (OpenSpec.upto pseudoOwnSpec)) pseudoOwnUptoCard

/-- THE SECOND FORM's CARD OF 'kibitzerlaw13.PseudoLess'. -/
def pseudoLessUptoCard : Claim7 := { stood := { row := pseudoLessUptoRow, standIns := [], harness := (true, "e6ef422e3defdc47f57dde35fe91b6dab18a2316cda4424011f8c68ac25e33a1"), looks := false }, kinds := [], alts := [], laidByText := true, laidKinds := [.data], laidTests := true, laidLooks := .later }
def PseudoLessUptoCardSaid : Prop := Claim7.holds Tryd.pinned (.plain (OpenSpec.upto pseudoLessSpec)) pseudoLessUptoCard

/-- THE SECOND FORM's CARD OF 'kibitzerlaw12.ValidAll'. -/
def validAllUptoCard : Claim7 := { stood := { row := validAllUptoRow, standIns := [], harness := (true, "e6ef422e3defdc47f57dde35fe91b6dab18a2316cda4424011f8c68ac25e33a1"), looks := false }, kinds := [], alts := [], laidByText := true, laidKinds := [.data], laidTests := true, laidLooks := .later }
def ValidAllUptoCardSaid : Prop := Claim7.holds Tryd.pinned (.plain (OpenSpec.upto validAllSpec)) validAllUptoCard

/-- THE SECOND FORM's CARD OF 'kibitzerlaw12.ValidTurned'. -/
def validTurnedUptoCard : Claim7 := { stood := { row := validTurnedUptoRow, standIns := [], harness := (true, "e6ef422e3defdc47f57dde35fe91b6dab18a2316cda4424011f8c68ac25e33a1"), looks := false }, kinds := [], alts := [], laidByText := true, laidKinds := [.data], laidTests := true, laidLooks := .later }
def ValidTurnedUptoCardSaid : Prop := Claim7.holds Tryd.pinned (.plain (OpenSpec.upto validTurnedSpec)) validTurnedUptoCard

/-- THE SECOND FORM's CARD OF 'kibitzerlaw12.ValidMends'. -/
def validMendsUptoCard : Claim7 := { stood := { row := validMendsUptoRow, standIns := [], harness := (true, "e6ef422e3defdc47f57dde35fe91b6dab18a2316cda4424011f8c68ac25e33a1"), looks := false }, kinds := [], alts := [], laidByText := true, laidKinds := [.data], laidTests := true, laidLooks := .later }
def ValidMendsUptoCardSaid : Prop := Claim7.holds Tryd.pinned (.plain (OpenSpec.upto validMendsSpec)) validMendsUptoCard

/-- THE SECOND FORM's CARD OF 'kibitzerlaw12.ValidMended'. -/
def validMendedUptoCard : Claim7 := { stood := { row := validMendedUptoRow, standIns := [], harness := (true, "e6ef422e3defdc47f57dde35fe91b6dab18a2316cda4424011f8c68ac25e33a1"), looks := false }, kinds := [], alts := [], laidByText := true, laidKinds := [.data], laidTests := true, laidLooks := .later }
def ValidMendedUptoCardSaid : Prop := Claim7.holds Tryd.pinned (.plain (OpenSpec.upto validMendedSpec)) validMendedUptoCard

/-- THE SECOND FORM's CARD OF 'kibitzerlaw12.ValidFirst'. -/
def validFirstUptoCard : Claim7 := { stood := { row := validFirstUptoRow, standIns := [], harness := (true, "e6ef422e3defdc47f57dde35fe91b6dab18a2316cda4424011f8c68ac25e33a1"), looks := false }, kinds := [], alts := [], laidByText := true, laidKinds := [.data], laidTests := true, laidLooks := .later }
def ValidFirstUptoCardSaid : Prop := Claim7.holds Tryd.pinned (.plain (OpenSpec.upto validFirstSpec)) validFirstUptoCard
end Rows
end Go.Proofs.YtlphjjekamhnlaaDoor
