/-
  No cell of these rows narrows 'for every input' (looked for: loops, veiled, ifaces, maps, wideKeys, modest, calm, conditions, laid).
  DERIVED. THE GIVEN ROWS OF THIS SEAT. 7 by the template 'for every input the law returns true; each argument reads behind the call as it read before'; 0 by the template 'total and deterministic' (their statements: YthnmbjolljpkaaaTotals.lean).
  GIVEN WITH THE SEED: the statements are not yours to turn. If you find one false, say at which input.
  Laid BY PROGRAM, IN A SANDBOX (cutbox-rows.mjs): the forced cells as the released guide's own fill.sh prints them over the translation 229f6a1d39665e8c… (all of the seat's roots in one cut). By AI agents, Wed Nov 11 2026. No macro, syntax, notation, axiom, sorry.
-/
import Derived.Test.YthnmbjolljpkaaaChecked
import GoSem.Claim
import GoSem.ClaimJoined
import GoSem.ClaimMapViews
import Derived.JoinedTies
import Derived.KernelRfl
namespace Go.Proofs.Ythnmbjolljpkaaa
/- THE CELL 'sum', in the pinned program and in every row, IS THE sha256 OF THE DUMP (.gsa) THAT YthnmbjolljpkaaaProg.lean LOADS. Nothing in Lean hashes anything: it is a label: what it is worth is what the hold of that sum in a sandbox is worth. -/
noncomputable def Try.pinned : Pinned := { name := "ythnmbjolljpkaaa", sum := "229f6a1d39665e8c3aa154024143b5294049caf803454217ba84473e39743ae4", checked := Try.checked }
namespace Rows
def none {H : Type} : Left H := { results := [], args := [] }

/-- 'kibitzerlaw05.PiecesMade': WHATEVER THE INPUT: true; the input reads as it did. -/
def piecesMadeSpec : ChangeSpec := { name := "piecesMade", fn := fun _ => fun
  | [d1, d2, d3] => { results := [.lit (.bool true)], args := [d1, d2, d3] }
  | _ => none }
def piecesMadeRow : OpenClaim := { program := "ythnmbjolljpkaaa", sum := "229f6a1d39665e8c3aa154024143b5294049caf803454217ba84473e39743ae4", func := "kibitzer/kibitzerlaw05.PiecesMade", spec := "piecesMade", apart := false }
def PiecesMadeSaid : Prop := piecesMadeRow.holds Try.pinned (OpenSpec.ofChange piecesMadeSpec)

/-- ITS FALSE NEIGHBOUR: 'it returns false'. Refute it at one input. -/
def piecesMadeWrong : ChangeSpec := { name := "piecesMade", fn := fun _ => fun
  | [d1, d2, d3] => { results := [.lit (.bool false)], args := [d1, d2, d3] }
  | _ => none }
def PiecesMadeWrongFalsely : Prop := piecesMadeRow.holds Try.pinned (OpenSpec.ofChange piecesMadeWrong)

/-- 'kibitzerlaw05.PiecesLetters': WHATEVER THE INPUT: true; the input reads as it did. -/
def piecesLettersSpec : ChangeSpec := { name := "piecesLetters", fn := fun _ => fun
  | [d1, d2] => { results := [.lit (.bool true)], args := [d1, d2] }
  | _ => none }
def piecesLettersRow : OpenClaim := { program := "ythnmbjolljpkaaa", sum := "229f6a1d39665e8c3aa154024143b5294049caf803454217ba84473e39743ae4", func := "kibitzer/kibitzerlaw05.PiecesLetters", spec := "piecesLetters", apart := false }
def PiecesLettersSaid : Prop := piecesLettersRow.holds Try.pinned (OpenSpec.ofChange piecesLettersSpec)

/-- ITS FALSE NEIGHBOUR: 'it returns false'. Refute it at one input. -/
def piecesLettersWrong : ChangeSpec := { name := "piecesLetters", fn := fun _ => fun
  | [d1, d2] => { results := [.lit (.bool false)], args := [d1, d2] }
  | _ => none }
def PiecesLettersWrongFalsely : Prop := piecesLettersRow.holds Try.pinned (OpenSpec.ofChange piecesLettersWrong)

/-- 'kibitzerlaw05.PiecesBack': WHATEVER THE INPUT: true; the input reads as it did. -/
def piecesBackSpec : ChangeSpec := { name := "piecesBack", fn := fun _ => fun
  | [d] => { results := [.lit (.bool true)], args := [d] }
  | _ => none }
def piecesBackRow : OpenClaim := { program := "ythnmbjolljpkaaa", sum := "229f6a1d39665e8c3aa154024143b5294049caf803454217ba84473e39743ae4", func := "kibitzer/kibitzerlaw05.PiecesBack", spec := "piecesBack", apart := false }
def PiecesBackSaid : Prop := piecesBackRow.holds Try.pinned (OpenSpec.ofChange piecesBackSpec)

/-- ITS FALSE NEIGHBOUR: 'it returns false'. Refute it at one input. -/
def piecesBackWrong : ChangeSpec := { name := "piecesBack", fn := fun _ => fun
  | [d] => { results := [.lit (.bool false)], args := [d] }
  | _ => none }
def PiecesBackWrongFalsely : Prop := piecesBackRow.holds Try.pinned (OpenSpec.ofChange piecesBackWrong)

/-- 'kibitzerlaw05.PiecesOther': WHATEVER THE INPUT: true; the input reads as it did. -/
def piecesOtherSpec : ChangeSpec := { name := "piecesOther", fn := fun _ => fun
  | [d] => { results := [.lit (.bool true)], args := [d] }
  | _ => none }
def piecesOtherRow : OpenClaim := { program := "ythnmbjolljpkaaa", sum := "229f6a1d39665e8c3aa154024143b5294049caf803454217ba84473e39743ae4", func := "kibitzer/kibitzerlaw05.PiecesOther", spec := "piecesOther", apart := false }
def PiecesOtherSaid : Prop := piecesOtherRow.holds Try.pinned (OpenSpec.ofChange piecesOtherSpec)

/-- ITS FALSE NEIGHBOUR: 'it returns false'. Refute it at one input. -/
def piecesOtherWrong : ChangeSpec := { name := "piecesOther", fn := fun _ => fun
  | [d] => { results := [.lit (.bool false)], args := [d] }
  | _ => none }
def PiecesOtherWrongFalsely : Prop := piecesOtherRow.holds Try.pinned (OpenSpec.ofChange piecesOtherWrong)

/-- 'kibitzerlaw05.PiecesTwelve': WHATEVER THE INPUT: true; the input reads as it did. -/
def piecesTwelveSpec : ChangeSpec := { name := "piecesTwelve", fn := fun _ => fun
  | [d] => { results := [.lit (.bool true)], args := [d] }
  | _ => none }
def piecesTwelveRow : OpenClaim := { program := "ythnmbjolljpkaaa", sum := "229f6a1d39665e8c3aa154024143b5294049caf803454217ba84473e39743ae4", func := "kibitzer/kibitzerlaw05.PiecesTwelve", spec := "piecesTwelve", apart := false }
def PiecesTwelveSaid : Prop := piecesTwelveRow.holds Try.pinned (OpenSpec.ofChange piecesTwelveSpec)

/-- ITS FALSE NEIGHBOUR: 'it returns false'. Refute it at one input. -/
def piecesTwelveWrong : ChangeSpec := { name := "piecesTwelve", fn := fun _ => fun
  | [d] => { results := [.lit (.bool false)], args := [d] }
  | _ => none }
def PiecesTwelveWrongFalsely : Prop := piecesTwelveRow.holds Try.pinned (OpenSpec.ofChange piecesTwelveWrong)

/-- 'kibitzerlaw05.PiecesMakes': WHATEVER THE INPUT: true; the input reads as it did. -/
def piecesMakesSpec : ChangeSpec := { name := "piecesMakes", fn := fun _ => fun
  | [d1, d2] => { results := [.lit (.bool true)], args := [d1, d2] }
  | _ => none }
def piecesMakesRow : OpenClaim := { program := "ythnmbjolljpkaaa", sum := "229f6a1d39665e8c3aa154024143b5294049caf803454217ba84473e39743ae4", func := "kibitzer/kibitzerlaw05.PiecesMakes", spec := "piecesMakes", apart := false }
def PiecesMakesSaid : Prop := piecesMakesRow.holds Try.pinned (OpenSpec.ofChange piecesMakesSpec)

/-- ITS FALSE NEIGHBOUR: 'it returns false'. Refute it at one input. -/
def piecesMakesWrong : ChangeSpec := { name := "piecesMakes", fn := fun _ => fun
  | [d1, d2] => { results := [.lit (.bool false)], args := [d1, d2] }
  | _ => none }
def PiecesMakesWrongFalsely : Prop := piecesMakesRow.holds Try.pinned (OpenSpec.ofChange piecesMakesWrong)

/-- 'kibitzerlaw05.PiecesRead': WHATEVER THE INPUT: true; the input reads as it did. -/
def piecesReadSpec : ChangeSpec := { name := "piecesRead", fn := fun _ => fun
  | [d] => { results := [.lit (.bool true)], args := [d] }
  | _ => none }
def piecesReadRow : OpenClaim := { program := "ythnmbjolljpkaaa", sum := "229f6a1d39665e8c3aa154024143b5294049caf803454217ba84473e39743ae4", func := "kibitzer/kibitzerlaw05.PiecesRead", spec := "piecesRead", apart := false }
def PiecesReadSaid : Prop := piecesReadRow.holds Try.pinned (OpenSpec.ofChange piecesReadSpec)

/-- ITS FALSE NEIGHBOUR: 'it returns false'. Refute it at one input. -/
def piecesReadWrong : ChangeSpec := { name := "piecesRead", fn := fun _ => fun
  | [d] => { results := [.lit (.bool false)], args := [d] }
  | _ => none }
def PiecesReadWrongFalsely : Prop := piecesReadRow.holds Try.pinned (OpenSpec.ofChange piecesReadWrong)

/- THE SECOND FORM. 'bulk': how many values and letters a reading holds, each counted each time it is reached (what is shared counts as often as it is met; a slice's spare places count too). A statement '..UptoSaid' is the law's where the arguments, and the package variables that the reading takes, are together of bulk at most 1048576: NARROWER than '..Said'. Prove '..Said' where nothing that the law and all that it calls make is longer than what came in: it says more and counts as full. Else prove '..UptoSaid'. A law counts once. -/
mutual
def uptoBulk {H : Type} : DataW H → Nat
  | .lit (.string bytes) => bytes.length + 1
  | .lit _ => 1
  | .nil => 1
  | .ptr d => uptoBulk d + 1
  | .slice elems spare => uptoBulkAll elems + uptoBulkAll spare + 1
  | .agg parts => uptoBulkAll parts + 1
  | .iface _ d => uptoBulk d + 1
  | .map entries => uptoBulkEntries entries + 1
  | .held _ => 1
def uptoBulkAll {H : Type} : List (DataW H) → Nat
  | [] => 0
  | d :: r => uptoBulk d + uptoBulkAll r
def uptoBulkEntries {H : Type} : List (Lit × DataW H) → Nat
  | [] => 0
  | x :: r => uptoBulkEntry x + uptoBulkEntries r
def uptoBulkEntry {H : Type} : Lit × DataW H → Nat
  | (.string bytes, d) => bytes.length + uptoBulk d + 1
  | (_, d) => uptoBulk d + 1
 end
def uptoSmall : (H : Type) → List (DataW H) → Bool := fun _ ds => decide (uptoBulkAll ds ≤ 1048576)
def OpenSpec.upto (s : _root_.Go.ChangeSpec) : _root_.Go.OpenSpec := { _root_.Go.OpenSpec.ofChange s with cond := some uptoSmall }

/-- 'kibitzerlaw05.PiecesMade', WHERE WHAT IT READS IS OF BULK AT MOST 1048576: true; the input reads as it did. -/
def piecesMadeUptoRow : OpenClaim := { program := "ythnmbjolljpkaaa", sum := "229f6a1d39665e8c3aa154024143b5294049caf803454217ba84473e39743ae4", func := "kibitzer/kibitzerlaw05.PiecesMade", spec := "piecesMade", apart := false, narrowed := true }
def PiecesMadeUptoSaid : Prop := piecesMadeUptoRow.holds Try.pinned (OpenSpec.upto piecesMadeSpec)

/-- 'kibitzerlaw05.PiecesLetters', WHERE WHAT IT READS IS OF BULK AT MOST 1048576: true; the input reads as it did. -/
def piecesLettersUptoRow : OpenClaim := { program := "ythnmbjolljpkaaa", sum := "229f6a1d39665e8c3aa154024143b5294049caf803454217ba84473e39743ae4", func := "kibitzer/kibitzerlaw05.PiecesLetters", spec := "piecesLetters", apart := false, narrowed := true }
def PiecesLettersUptoSaid : Prop := piecesLettersUptoRow.holds Try.pinned (OpenSpec.upto piecesLettersSpec)

/-- 'kibitzerlaw05.PiecesBack', WHERE WHAT IT READS IS OF BULK AT MOST 1048576: true; the input reads as it did. -/
def piecesBackUptoRow : OpenClaim := { program := "ythnmbjolljpkaaa", sum := "229f6a1d39665e8c3aa154024143b5294049caf803454217ba84473e39743ae4", func := "kibitzer/kibitzerlaw05.PiecesBack", spec := "piecesBack", apart := false, narrowed := true }
def PiecesBackUptoSaid : Prop := piecesBackUptoRow.holds Try.pinned (OpenSpec.upto piecesBackSpec)

/-- 'kibitzerlaw05.PiecesOther', WHERE WHAT IT READS IS OF BULK AT MOST 1048576: true; the input reads as it did. -/
def piecesOtherUptoRow : OpenClaim := { program := "ythnmbjolljpkaaa", sum := "229f6a1d39665e8c3aa154024143b5294049caf803454217ba84473e39743ae4", func := "kibitzer/kibitzerlaw05.PiecesOther", spec := "piecesOther", apart := false, narrowed := true }
def PiecesOtherUptoSaid : Prop := piecesOtherUptoRow.holds Try.pinned (OpenSpec.upto piecesOtherSpec)

/-- 'kibitzerlaw05.PiecesTwelve', WHERE WHAT IT READS IS OF BULK AT MOST 1048576: true; the input reads as it did. -/
def piecesTwelveUptoRow : OpenClaim := { program := "ythnmbjolljpkaaa", sum := "229f6a1d39665e8c3aa154024143b5294049caf803454217ba84473e39743ae4", func := "kibitzer/kibitzerlaw05.PiecesTwelve", spec := "piecesTwelve", apart := false, narrowed := true }
def PiecesTwelveUptoSaid : Prop := piecesTwelveUptoRow.holds Try.pinned (OpenSpec.upto piecesTwelveSpec)

/-- 'kibitzerlaw05.PiecesMakes', WHERE WHAT IT READS IS OF BULK AT MOST 1048576: true; the input reads as it did. -/
def piecesMakesUptoRow : OpenClaim := { program := "ythnmbjolljpkaaa", sum := "229f6a1d39665e8c3aa154024143b5294049caf803454217ba84473e39743ae4", func := "kibitzer/kibitzerlaw05.PiecesMakes", spec := "piecesMakes", apart := false, narrowed := true }
def PiecesMakesUptoSaid : Prop := piecesMakesUptoRow.holds Try.pinned (OpenSpec.upto piecesMakesSpec)

/-- 'kibitzerlaw05.PiecesRead', WHERE WHAT IT READS IS OF BULK AT MOST 1048576: true; the input reads as it did. -/
def piecesReadUptoRow : OpenClaim := { program := "ythnmbjolljpkaaa", sum := "229f6a1d39665e8c3aa154024143b5294049caf803454217ba84473e39743ae4", func := "kibitzer/kibitzerlaw05.PiecesRead", spec := "piecesRead", apart := false, narrowed := true }
def PiecesReadUptoSaid : Prop := piecesReadUptoRow.holds Try.pinned (OpenSpec.upto piecesReadSpec)

end Rows
end Go.Proofs.Ythnmbjolljpkaaa
