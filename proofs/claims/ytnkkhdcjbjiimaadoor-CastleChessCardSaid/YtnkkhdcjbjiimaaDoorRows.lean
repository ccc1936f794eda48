/-
  NARROWER THAN 'FOR EVERY INPUT', by the rows' own cells (each row's printed sentence says how): CastleList: laid · CastleRights: laid · CastleChess: laid · CastleGoals: laid · CastleGoes: laid · PinsOf: laid · PinsLines: laid · PinsBlocks: laid · PinsOff: laid · PinsFew: laid.
  DERIVED. THE GIVEN ROWS OF THIS SEAT. 10 by the template 'for every input the law returns true; each argument reads behind the call as it read before'; 0 by the template 'total and deterministic' (their statements: YtnkkhdcjbjiimaaDoorTotals.lean).
  GIVEN WITH THE SEED: the statements are not yours to turn. If you find one false, say at which input.
  Laid BY PROGRAM, IN A SANDBOX (cutbox-rows.mjs): the forced cells as the released guide's own fill.sh prints them over the translation 7579b383eae5086a… (all of the seat's roots in one cut). By AI agents, Wed Nov 11 2026. No macro, syntax, notation, axiom, sorry.
-/
import Derived.Test.YtnkkhdcjbjiimaaDoorChecked
import GoSem.Claim
import GoSem.ClaimJoined
import GoSem.ClaimMapViews
import Derived.JoinedTies
import Derived.KernelRfl
namespace Go.Proofs.YtnkkhdcjbjiimaaDoor
/- THE CELL 'sum', in the pinned program and in every row, IS THE sha256 OF THE DUMP (.gsa) THAT YtnkkhdcjbjiimaaDoorProg.lean LOADS. Nothing in Lean hashes anything: it is a label: what it is worth is what the hold of that sum in a sandbox is worth. -/
noncomputable def Tryd.pinned : Pinned := { name := "ytnkkhdcjbjiimaadoor", sum := "7579b383eae5086a3ccc7a73ecfb7c6a92600bcc728efe185e1e624c53ee658a", checked := Tryd.checked }
namespace Rows
def none {H : Type} : Left H := { results := [], args := [] }

/- WHAT THE LISTED PACKAGE-LEVEL VARIABLES READ AS WHEN THE CALL BEGINS. Each datum BY PROGRAM (the guide's laid-datum.mjs) off the statement by which the dump's own 'gosem.cut.vars' lays the variable. In a bare row this is a premise. The card (YtnkkhdcjbjiimaaDoorCards.lean) ties it to the program's text. -/
def laid_math_bits_deBruijn64tab {H : Type} : DataW H := .agg [.lit (.int .u8 0), .lit (.int .u8 1), .lit (.int .u8 56), .lit (.int .u8 2), .lit (.int .u8 57), .lit (.int .u8 49), .lit (.int .u8 28), .lit (.int .u8 3), .lit (.int .u8 61), .lit (.int .u8 58), .lit (.int .u8 42), .lit (.int .u8 50), .lit (.int .u8 38), .lit (.int .u8 29), .lit (.int .u8 17), .lit (.int .u8 4), .lit (.int .u8 62), .lit (.int .u8 47), .lit (.int .u8 59), .lit (.int .u8 36), .lit (.int .u8 45), .lit (.int .u8 43), .lit (.int .u8 51), .lit (.int .u8 22), .lit (.int .u8 53), .lit (.int .u8 39), .lit (.int .u8 33), .lit (.int .u8 30), .lit (.int .u8 24), .lit (.int .u8 18), .lit (.int .u8 12), .lit (.int .u8 5), .lit (.int .u8 63), .lit (.int .u8 55), .lit (.int .u8 48), .lit (.int .u8 27), .lit (.int .u8 60), .lit (.int .u8 41), .lit (.int .u8 37), .lit (.int .u8 16), .lit (.int .u8 46), .lit (.int .u8 35), .lit (.int .u8 44), .lit (.int .u8 21), .lit (.int .u8 52), .lit (.int .u8 32), .lit (.int .u8 23), .lit (.int .u8 11), .lit (.int .u8 54), .lit (.int .u8 26), .lit (.int .u8 40), .lit (.int .u8 15), .lit (.int .u8 34), .lit (.int .u8 20), .lit (.int .u8 31), .lit (.int .u8 10), .lit (.int .u8 25), .lit (.int .u8 14), .lit (.int .u8 19), .lit (.int .u8 9), .lit (.int .u8 13), .lit (.int .u8 8), .lit (.int .u8 7), .lit (.int .u8 6)]

/-- 'kibitzerlaw14.CastleList': WHATEVER THE INPUT: true; the input reads as it did. -/
def castleListSpec : ChangeSpec := { name := "castleList", fn := fun _ => fun
  | [d] => { results := [.lit (.bool true)], args := [d] }
  | _ => none }
def castleListRow : OpenClaim := { program := "ytnkkhdcjbjiimaadoor", sum := "7579b383eae5086a3ccc7a73ecfb7c6a92600bcc728efe185e1e624c53ee658a", func := "kibitzer/kibitzerlaw14.CastleList", spec := "castleList", unfollowed := true, recurses := true, named := ["math/bits.deBruijn64tab"], apart := false, laid := [("math/bits.deBruijn64tab", laid_math_bits_deBruijn64tab)] }
def CastleListSaid : Prop := castleListRow.holds Tryd.pinned (OpenSpec.ofChange castleListSpec)

/-- ITS FALSE NEIGHBOUR: 'it returns false'. Refute it at one input. -/
def castleListWrong : ChangeSpec := { name := "castleList", fn := fun _ => fun
  | [d] => { results := [.lit (.bool false)], args := [d] }
  | _ => none }
def CastleListWrongFalsely : Prop := castleListRow.holds Tryd.pinned (OpenSpec.ofChange castleListWrong)

/-- 'kibitzerlaw14.CastleRights': WHATEVER THE INPUT: true; the input reads as it did. -/
def castleRightsSpec : ChangeSpec := { name := "castleRights", fn := fun _ => fun
  | [d1, d2] => { results := [.lit (.bool true)], args := [d1, d2] }
  | _ => none }
def castleRightsRow : OpenClaim := { program := "ytnkkhdcjbjiimaadoor", sum := "7579b383eae5086a3ccc7a73ecfb7c6a92600bcc728efe185e1e624c53ee658a", func := "kibitzer/kibitzerlaw14.CastleRights", spec := "castleRights", unfollowed := true, recurses := true, named := ["math/bits.deBruijn64tab"], apart := false, laid := [("math/bits.deBruijn64tab", laid_math_bits_deBruijn64tab)] }
def CastleRightsSaid : Prop := castleRightsRow.holds Tryd.pinned (OpenSpec.ofChange castleRightsSpec)

/-- ITS FALSE NEIGHBOUR: 'it returns false'. Refute it at one input. -/
def castleRightsWrong : ChangeSpec := { name := "castleRights", fn := fun _ => fun
  | [d1, d2] => { results := [.lit (.bool false)], args := [d1, d2] }
  | _ => none }
def CastleRightsWrongFalsely : Prop := castleRightsRow.holds Tryd.pinned (OpenSpec.ofChange castleRightsWrong)

/-- 'kibitzerlaw14.CastleChess': WHATEVER THE INPUT: true; the input reads as it did. -/
def castleChessSpec : ChangeSpec := { name := "castleChess", fn := fun _ => fun
  | [d] => { results := [.lit (.bool true)], args := [d] }
  | _ => none }
def castleChessRow : OpenClaim := { program := "ytnkkhdcjbjiimaadoor", sum := "7579b383eae5086a3ccc7a73ecfb7c6a92600bcc728efe185e1e624c53ee658a", func := "kibitzer/kibitzerlaw14.CastleChess", spec := "castleChess", unfollowed := true, recurses := true, named := ["math/bits.deBruijn64tab"], apart := false, laid := [("math/bits.deBruijn64tab", laid_math_bits_deBruijn64tab)] }
def CastleChessSaid : Prop := castleChessRow.holds Tryd.pinned (OpenSpec.ofChange castleChessSpec)

/-- ITS FALSE NEIGHBOUR: 'it returns false'. Refute it at one input. -/
def castleChessWrong : ChangeSpec := { name := "castleChess", fn := fun _ => fun
  | [d] => { results := [.lit (.bool false)], args := [d] }
  | _ => none }
def CastleChessWrongFalsely : Prop := castleChessRow.holds Tryd.pinned (OpenSpec.ofChange castleChessWrong)

/-- 'kibitzerlaw14.CastleGoals': WHATEVER THE INPUT: true; the input reads as it did. -/
def castleGoalsSpec : ChangeSpec := { name := "castleGoals", fn := fun _ => fun
  | [d1, d2] => { results := [.lit (.bool true)], args := [d1, d2] }
  | _ => none }
def castleGoalsRow : OpenClaim := { program := "ytnkkhdcjbjiimaadoor", sum := "7579b383eae5086a3ccc7a73ecfb7c6a92600bcc728efe185e1e624c53ee658a", func := "kibitzer/kibitzerlaw14.CastleGoals", spec := "castleGoals", unfollowed := true, recurses := true, named := ["math/bits.deBruijn64tab"], apart := false, laid := [("math/bits.deBruijn64tab", laid_math_bits_deBruijn64tab)] }
def CastleGoalsSaid : Prop := castleGoalsRow.holds Tryd.pinned (OpenSpec.ofChange castleGoalsSpec)

/-- ITS FALSE NEIGHBOUR: 'it returns false'. Refute it at one input. -/
def castleGoalsWrong : ChangeSpec := { name := "castleGoals", fn := fun _ => fun
  | [d1, d2] => { results := [.lit (.bool false)], args := [d1, d2] }
  | _ => none }
def CastleGoalsWrongFalsely : Prop := castleGoalsRow.holds Tryd.pinned (OpenSpec.ofChange castleGoalsWrong)

/-- 'kibitzerlaw14.CastleGoes': WHATEVER THE INPUT: true; the input reads as it did. -/
def castleGoesSpec : ChangeSpec := { name := "castleGoes", fn := fun _ => fun
  | [d] => { results := [.lit (.bool true)], args := [d] }
  | _ => none }
def castleGoesRow : OpenClaim := { program := "ytnkkhdcjbjiimaadoor", sum := "7579b383eae5086a3ccc7a73ecfb7c6a92600bcc728efe185e1e624c53ee658a", func := "kibitzer/kibitzerlaw14.CastleGoes", spec := "castleGoes", unfollowed := true, recurses := true, named := ["math/bits.deBruijn64tab"], apart := false, laid := [("math/bits.deBruijn64tab", laid_math_bits_deBruijn64tab)] }
def CastleGoesSaid : Prop := castleGoesRow.holds Tryd.pinned (OpenSpec.ofChange castleGoesSpec)

/-- ITS FALSE NEIGHBOUR: 'it returns false'. Refute it at one input. -/
def castleGoesWrong : ChangeSpec := { name := "castleGoes", fn := fun _ => fun
  | [d] => { results := [.lit (.bool false)], args := [d] }
  | _ => none }
def CastleGoesWrongFalsely : Prop := castleGoesRow.holds Tryd.pinned (OpenSpec.ofChange castleGoesWrong)

/-- 'kibitzerlaw18.PinsOf': WHATEVER THE INPUT: true; the input reads as it did. -/
def pinsOfSpec : ChangeSpec := { name := "pinsOf", fn := fun _ => fun
  | [d1, d2] => { results := [.lit (.bool true)], args := [d1, d2] }
  | _ => none }
def pinsOfRow : OpenClaim := { program := "ytnkkhdcjbjiimaadoor", sum := "7579b383eae5086a3ccc7a73ecfb7c6a92600bcc728efe185e1e624c53ee658a", func := "kibitzer/kibitzerlaw18.PinsOf", spec := "pinsOf", unfollowed := true, recurses := true, named := ["math/bits.deBruijn64tab"], apart := false, laid := [("math/bits.deBruijn64tab", laid_math_bits_deBruijn64tab)] }
def PinsOfSaid : Prop := pinsOfRow.holds Tryd.pinned (OpenSpec.ofChange pinsOfSpec)

/-- ITS FALSE NEIGHBOUR: 'it returns false'. Refute it at one input. -/
def pinsOfWrong : ChangeSpec := { name := "pinsOf", fn := fun _ => fun
  | [d1, d2] => { results := [.lit (.bool false)], args := [d1, d2] }
  | _ => none }
def PinsOfWrongFalsely : Prop := pinsOfRow.holds Tryd.pinned (OpenSpec.ofChange pinsOfWrong)

/-- 'kibitzerlaw18.PinsLines': WHATEVER THE INPUT: true; the input reads as it did. -/
def pinsLinesSpec : ChangeSpec := { name := "pinsLines", fn := fun _ => fun
  | [d1, d2] => { results := [.lit (.bool true)], args := [d1, d2] }
  | _ => none }
def pinsLinesRow : OpenClaim := { program := "ytnkkhdcjbjiimaadoor", sum := "7579b383eae5086a3ccc7a73ecfb7c6a92600bcc728efe185e1e624c53ee658a", func := "kibitzer/kibitzerlaw18.PinsLines", spec := "pinsLines", unfollowed := true, recurses := true, named := ["math/bits.deBruijn64tab"], apart := false, laid := [("math/bits.deBruijn64tab", laid_math_bits_deBruijn64tab)] }
def PinsLinesSaid : Prop := pinsLinesRow.holds Tryd.pinned (OpenSpec.ofChange pinsLinesSpec)

/-- ITS FALSE NEIGHBOUR: 'it returns false'. Refute it at one input. -/
def pinsLinesWrong : ChangeSpec := { name := "pinsLines", fn := fun _ => fun
  | [d1, d2] => { results := [.lit (.bool false)], args := [d1, d2] }
  | _ => none }
def PinsLinesWrongFalsely : Prop := pinsLinesRow.holds Tryd.pinned (OpenSpec.ofChange pinsLinesWrong)

/-- 'kibitzerlaw18.PinsBlocks': WHATEVER THE INPUT: true; the input reads as it did. -/
def pinsBlocksSpec : ChangeSpec := { name := "pinsBlocks", fn := fun _ => fun
  | [d1, d2] => { results := [.lit (.bool true)], args := [d1, d2] }
  | _ => none }
def pinsBlocksRow : OpenClaim := { program := "ytnkkhdcjbjiimaadoor", sum := "7579b383eae5086a3ccc7a73ecfb7c6a92600bcc728efe185e1e624c53ee658a", func := "kibitzer/kibitzerlaw18.PinsBlocks", spec := "pinsBlocks", unfollowed := true, recurses := true, named := ["math/bits.deBruijn64tab"], apart := false, laid := [("math/bits.deBruijn64tab", laid_math_bits_deBruijn64tab)] }
def PinsBlocksSaid : Prop := pinsBlocksRow.holds Tryd.pinned (OpenSpec.ofChange pinsBlocksSpec)

/-- ITS FALSE NEIGHBOUR: 'it returns false'. Refute it at one input. -/
def pinsBlocksWrong : ChangeSpec := { name := "pinsBlocks", fn := fun _ => fun
  | [d1, d2] => { results := [.lit (.bool false)], args := [d1, d2] }
  | _ => none }
def PinsBlocksWrongFalsely : Prop := pinsBlocksRow.holds Tryd.pinned (OpenSpec.ofChange pinsBlocksWrong)

/-- 'kibitzerlaw18.PinsOff': WHATEVER THE INPUT: true; the input reads as it did. -/
def pinsOffSpec : ChangeSpec := { name := "pinsOff", fn := fun _ => fun
  | [d1, d2] => { results := [.lit (.bool true)], args := [d1, d2] }
  | _ => none }
def pinsOffRow : OpenClaim := { program := "ytnkkhdcjbjiimaadoor", sum := "7579b383eae5086a3ccc7a73ecfb7c6a92600bcc728efe185e1e624c53ee658a", func := "kibitzer/kibitzerlaw18.PinsOff", spec := "pinsOff", unfollowed := true, recurses := true, named := ["math/bits.deBruijn64tab"], apart := false, laid := [("math/bits.deBruijn64tab", laid_math_bits_deBruijn64tab)] }
def PinsOffSaid : Prop := pinsOffRow.holds Tryd.pinned (OpenSpec.ofChange pinsOffSpec)

/-- ITS FALSE NEIGHBOUR: 'it returns false'. Refute it at one input. -/
def pinsOffWrong : ChangeSpec := { name := "pinsOff", fn := fun _ => fun
  | [d1, d2] => { results := [.lit (.bool false)], args := [d1, d2] }
  | _ => none }
def PinsOffWrongFalsely : Prop := pinsOffRow.holds Tryd.pinned (OpenSpec.ofChange pinsOffWrong)

/-- 'kibitzerlaw18.PinsFew': WHATEVER THE INPUT: true; the input reads as it did. -/
def pinsFewSpec : ChangeSpec := { name := "pinsFew", fn := fun _ => fun
  | [d1, d2] => { results := [.lit (.bool true)], args := [d1, d2] }
  | _ => none }
def pinsFewRow : OpenClaim := { program := "ytnkkhdcjbjiimaadoor", sum := "7579b383eae5086a3ccc7a73ecfb7c6a92600bcc728efe185e1e624c53ee658a", func := "kibitzer/kibitzerlaw18.PinsFew", spec := "pinsFew", unfollowed := true, recurses := true, named := ["math/bits.deBruijn64tab"], apart := false, laid := [("math/bits.deBruijn64tab", laid_math_bits_deBruijn64tab)] }
def PinsFewSaid : Prop := pinsFewRow.holds Tryd.pinned (OpenSpec.ofChange pinsFewSpec)

/-- ITS FALSE NEIGHBOUR: 'it returns false'. Refute it at one input. -/
def pinsFewWrong : ChangeSpec := { name := "pinsFew", fn := fun _ => fun
  | [d1, d2] => { results := [.lit (.bool false)], args := [d1, d2] }
  | _ => none }
def PinsFewWrongFalsely : Prop := pinsFewRow.holds Tryd.pinned (OpenSpec.ofChange pinsFewWrong)

/- THE SECOND FORM. 'bulk': how many values and letters a reading holds, each counted each time it is reached (what is shared counts as often as it is met; a slice's spare places count too). A statement '..UptoSaid' is the law's where the arguments, and the package variables that the reading takes, are together of bulk at most 1048576: NARROWER than '..Said'. Prove '..Said' where nothing that the law and all that it calls make is longer than what came in: it says more and counts as full. Else prove '..UptoSaid'. A law counts once. -/
mutual
def uptoBulk {H : Type} : DataW H → Nat
  | .lit (.string bytes) => bytes.length + 1
  | .lit _ => 1
  | .nil => 1
  | .ptr d => uptoBulk d + 1
  | .slice elems spare => uptoBulkAll elems + uptoBulkAll spare + 1
  | .agg parts => uptoBulkAll parts + 1
  | .iface _ d => uptoBulk d + 1
  | .map entries => uptoBulkEntries entries + 1
  | .held _ => 1
def uptoBulkAll {H : Type} : List (DataW H) → Nat
  | [] => 0
  | d :: r => uptoBulk d + uptoBulkAll r
def uptoBulkEntries {H : Type} : List (Lit × DataW H) → Nat
  | [] => 0
  | x :: r => uptoBulkEntry x + uptoBulkEntries r
def uptoBulkEntry {H : Type} : Lit × DataW H → Nat
  | (.string bytes, d) => bytes.length + uptoBulk d + 1
  | (_, d) => uptoBulk d + 1
 end
def uptoSmall : (H : Type) → List (DataW H) → Bool := fun _ ds => decide (uptoBulkAll ds ≤ 1048576)
def OpenSpec.upto (s : _root_.Go.ChangeSpec) : _root_.Go.OpenSpec := { _root_.Go.OpenSpec.ofChange s with cond := some uptoSmall }

/-- 'kibitzerlaw14.CastleList', WHERE WHAT IT READS IS OF BULK AT MOST 1048576: true; the input reads as it did. -/
def castleListUptoRow : OpenClaim := { program := "ytnkkhdcjbjiimaadoor", sum := "7579b383eae5086a3ccc7a73ecfb7c6a92600bcc728efe185e1e624c53ee658a", func := "kibitzer/kibitzerlaw14.CastleList", spec := "castleList", unfollowed := true, recurses := true, named := ["math/bits.deBruijn64tab"], apart := false, laid := [("math/bits.deBruijn64tab", laid_math_bits_deBruijn64tab)], narrowed := true }
def CastleListUptoSaid : Prop := castleListUptoRow.holds Tryd.pinned (OpenSpec.upto castleListSpec)

/-- 'kibitzerlaw14.CastleRights', WHERE WHAT IT READS IS OF BULK AT MOST 1048576: true; the input reads as it did. -/
def castleRightsUptoRow : OpenClaim := { program := "ytnkkhdcjbjiimaadoor", sum := "7579b383eae5086a3ccc7a73ecfb7c6a92600bcc728efe185e1e624c53ee658a", func := "kibitzer/kibitzerlaw14.CastleRights", spec := "castleRights", unfollowed := true, recurses := true, named := ["math/bits.deBruijn64tab"], apart := false, laid := [("math/bits.deBruijn64tab", laid_math_bits_deBruijn64tab)], narrowed := true }
def CastleRightsUptoSaid : Prop := castleRightsUptoRow.holds Tryd.pinned (OpenSpec.upto castleRightsSpec)

/-- 'kibitzerlaw14.CastleChess', WHERE WHAT IT READS IS OF BULK AT MOST 1048576: true; the input reads as it did. -/
def castleChessUptoRow : OpenClaim := { program := "ytnkkhdcjbjiimaadoor", sum := "7579b383eae5086a3ccc7a73ecfb7c6a92600bcc728efe185e1e624c53ee658a", func := "kibitzer/kibitzerlaw14.CastleChess", spec := "castleChess", unfollowed := true, recurses := true, named := ["math/bits.deBruijn64tab"], apart := false, laid := [("math/bits.deBruijn64tab", laid_math_bits_deBruijn64tab)], narrowed := true }
def CastleChessUptoSaid : Prop := castleChessUptoRow.holds Tryd.pinned (OpenSpec.upto castleChessSpec)

/-- 'kibitzerlaw14.CastleGoals', WHERE WHAT IT READS IS OF BULK AT MOST 1048576: true; the input reads as it did. -/
def castleGoalsUptoRow : OpenClaim := { program := "ytnkkhdcjbjiimaadoor", sum := "7579b383eae5086a3ccc7a73ecfb7c6a92600bcc728efe185e1e624c53ee658a", func := "kibitzer/kibitzerlaw14.CastleGoals", spec := "castleGoals", unfollowed := true, recurses := true, named := ["math/bits.deBruijn64tab"], apart := false, laid := [("math/bits.deBruijn64tab", laid_math_bits_deBruijn64tab)], narrowed := true }
def CastleGoalsUptoSaid : Prop := castleGoalsUptoRow.holds Tryd.pinned (OpenSpec.upto castleGoalsSpec)

/-- 'kibitzerlaw14.CastleGoes', WHERE WHAT IT READS IS OF BULK AT MOST 1048576: true; the input reads as it did. -/
def castleGoesUptoRow : OpenClaim := { program := "ytnkkhdcjbjiimaadoor", sum := "7579b383eae5086a3ccc7a73ecfb7c6a92600bcc728efe185e1e624c53ee658a", func := "kibitzer/kibitzerlaw14.CastleGoes", spec := "castleGoes", unfollowed := true, recurses := true, named := ["math/bits.deBruijn64tab"], apart := false, laid := [("math/bits.deBruijn64tab", laid_math_bits_deBruijn64tab)], narrowed := true }
def CastleGoesUptoSaid : Prop := castleGoesUptoRow.holds Tryd.pinned (OpenSpec.upto castleGoesSpec)

/-- 'kibitzerlaw18.PinsOf', WHERE WHAT IT READS IS OF BULK AT MOST 1048576: true; the input reads as it did. -/
def pinsOfUptoRow : OpenClaim := { program := "ytnkkhdcjbjiimaadoor", sum := "7579b383eae5086a3ccc7a73ecfb7c6a92600bcc728efe185e1e624c53ee658a", func := "kibitzer/kibitzerlaw18.PinsOf", spec := "pinsOf", unfollowed := true, recurses := true, named := ["math/bits.deBruijn64tab"], apart := false, laid := [("math/bits.deBruijn64tab", laid_math_bits_deBruijn64tab)], narrowed := true }
def PinsOfUptoSaid : Prop := pinsOfUptoRow.holds Tryd.pinned (OpenSpec.upto pinsOfSpec)

/-- 'kibitzerlaw18.PinsLines', WHERE WHAT IT READS IS OF BULK AT MOST 1048576: true; the input reads as it did. -/
def pinsLinesUptoRow : OpenClaim := { program := "ytnkkhdcjbjiimaadoor", sum := "7579b383eae5086a3ccc7a73ecfb7c6a92600bcc728efe185e1e624c53ee658a", func := "kibitzer/kibitzerlaw18.PinsLines", spec := "pinsLines", unfollowed := true, recurses := true, named := ["math/bits.deBruijn64tab"], apart := false, laid := [("math/bits.deBruijn64tab", laid_math_bits_deBruijn64tab)], narrowed := true }
def PinsLinesUptoSaid : Prop := pinsLinesUptoRow.holds Tryd.pinned (OpenSpec.upto pinsLinesSpec)

/-- 'kibitzerlaw18.PinsBlocks', WHERE WHAT IT READS IS OF BULK AT MOST 1048576: true; the input reads as it did. -/
def pinsBlocksUptoRow : OpenClaim := { program := "ytnkkhdcjbjiimaadoor", sum := "7579b383eae5086a3ccc7a73ecfb7c6a92600bcc728efe185e1e624c53ee658a", func := "kibitzer/kibitzerlaw18.PinsBlocks", spec := "pinsBlocks", unfollowed := true, recurses := true, named := ["math/bits.deBruijn64tab"], apart := false, laid := [("math/bits.deBruijn64tab", laid_math_bits_deBruijn64tab)], narrowed := true }
def PinsBlocksUptoSaid : Prop := pinsBlocksUptoRow.holds Tryd.pinned (OpenSpec.upto pinsBlocksSpec)

/-- 'kibitzerlaw18.PinsOff', WHERE WHAT IT READS IS OF BULK AT MOST 1048576: true; the input reads as it did. -/
def pinsOffUptoRow : OpenClaim := { program := "ytnkkhdcjbjiimaadoor", sum := "7579b383eae5086a3ccc7a73ecfb7c6a92600bcc728efe185e1e624c53ee658a", func := "kibitzer/kibitzerlaw18.PinsOff", spec := "pinsOff", unfollowed := true, recurses := true, named := ["math/bits.deBruijn64tab"], apart := false, laid := [("math/bits.deBruijn64tab", laid_math_bits_deBruijn64tab)], narrowed := true }
def PinsOffUptoSaid : Prop := pinsOffUptoRow.holds Tryd.pinned (OpenSpec.upto pinsOffSpec)

/-- 'kibitzerlaw18.PinsFew', WHERE WHAT IT READS IS OF BULK AT MOST 1048576: true; the input reads as it did. -/
def pinsFewUptoRow : OpenClaim := { program := "ytnkkhdcjbjiimaadoor", sum := "7579b383eae5086a3ccc7a73ecfb7c6a92600bcc728efe185e1e624c53ee658a", func := "kibitzer/kibitzerlaw18.PinsFew", spec := "pinsFew", unfollowed := true, recurses := true, named := ["math/bits.deBruijn64tab"], apart := false, laid := [("math/bits.deBruijn64tab", laid_math_bits_deBruijn64tab)], narrowed := true }
def PinsFewUptoSaid : Prop := pinsFewUptoRow.holds Tryd.pinned (OpenSpec.upto pinsFewSpec)

end Rows
end Go.Proofs.YtnkkhdcjbjiimaaDoor
