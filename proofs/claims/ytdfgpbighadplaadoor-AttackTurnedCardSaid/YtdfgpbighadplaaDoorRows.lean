/-
  NARROWER THAN 'FOR EVERY INPUT', by the rows' own cells (each row's printed sentence says how): AttackBy: laid · AttackFrom: laid · AttackCheck: laid · AttackBoth: laid · AttackLess: laid · AttackTurned: laid · AttackChecks: laid.
  DERIVED. THE GIVEN ROWS OF THIS SEAT. 7 by the template 'for every input the law returns true; each argument reads behind the call as it read before'; 0 by the template 'total and deterministic' (their statements: YtdfgpbighadplaaDoorTotals.lean).
  GIVEN WITH THE SEED: the statements are not yours to turn. If you find one false, say at which input.
  Laid BY PROGRAM, IN A SANDBOX (cutbox-rows.mjs): the forced cells as the released guide's own fill.sh prints them over the translation a97aa3ea4f420de0… (all of the seat's roots in one cut). By AI agents, Wed Nov 11 2026. No macro, syntax, notation, axiom, sorry.
-/
import Derived.Test.YtdfgpbighadplaaDoorChecked
import GoSem.Claim
import GoSem.ClaimJoined
import GoSem.ClaimMapViews
import Derived.JoinedTies
import Derived.KernelRfl
namespace Go.Proofs.YtdfgpbighadplaaDoor
/- THE CELL 'sum', in the pinned program and in every row, IS THE sha256 OF THE DUMP (.gsa) THAT YtdfgpbighadplaaDoorProg.lean LOADS. Nothing in Lean hashes anything: it is a label: what it is worth is what the hold of that sum in a sandbox is worth. -/
noncomputable def Tryd.pinned : Pinned := { name := "ytdfgpbighadplaadoor", sum := "a97aa3ea4f420de0009bfed94cbb97f2155f1cb894b486087d20fbb58be335c3", checked := Tryd.checked }
namespace Rows
def none {H : Type} : Left H := { results := [], args := [] }

/- WHAT THE LISTED PACKAGE-LEVEL VARIABLES READ AS WHEN THE CALL BEGINS. Each datum BY PROGRAM (the guide's laid-datum.mjs) off the statement by which the dump's own 'gosem.cut.vars' lays the variable. In a bare row this is a premise. The card (YtdfgpbighadplaaDoorCards.lean) ties it to the program's text. -/
def laid_math_bits_deBruijn64tab {H : Type} : DataW H := .agg [.lit (.int .u8 0), .lit (.int .u8 1), .lit (.int .u8 56), .lit (.int .u8 2), .lit (.int .u8 57), .lit (.int .u8 49), .lit (.int .u8 28), .lit (.int .u8 3), .lit (.int .u8 61), .lit (.int .u8 58), .lit (.int .u8 42), .lit (.int .u8 50), .lit (.int .u8 38), .lit (.int .u8 29), .lit (.int .u8 17), .lit (.int .u8 4), .lit (.int .u8 62), .lit (.int .u8 47), .lit (.int .u8 59), .lit (.int .u8 36), .lit (.int .u8 45), .lit (.int .u8 43), .lit (.int .u8 51), .lit (.int .u8 22), .lit (.int .u8 53), .lit (.int .u8 39), .lit (.int .u8 33), .lit (.int .u8 30), .lit (.int .u8 24), .lit (.int .u8 18), .lit (.int .u8 12), .lit (.int .u8 5), .lit (.int .u8 63), .lit (.int .u8 55), .lit (.int .u8 48), .lit (.int .u8 27), .lit (.int .u8 60), .lit (.int .u8 41), .lit (.int .u8 37), .lit (.int .u8 16), .lit (.int .u8 46), .lit (.int .u8 35), .lit (.int .u8 44), .lit (.int .u8 21), .lit (.int .u8 52), .lit (.int .u8 32), .lit (.int .u8 23), .lit (.int .u8 11), .lit (.int .u8 54), .lit (.int .u8 26), .lit (.int .u8 40), .lit (.int .u8 15), .lit (.int .u8 34), .lit (.int .u8 20), .lit (.int .u8 31), .lit (.int .u8 10), .lit (.int .u8 25), .lit (.int .u8 14), .lit (.int .u8 19), .lit (.int .u8 9), .lit (.int .u8 13), .lit (.int .u8 8), .lit (.int .u8 7), .lit (.int .u8 6)]

/-- 'kibitzerlaw08.AttackBy': WHATEVER THE INPUT: true; the input reads as it did. -/
def attackBySpec : ChangeSpec := { name := "attackBy", fn := fun _ => fun
  | [d1, d2, d3] => { results := [.lit (.bool true)], args := [d1, d2, d3] }
  | _ => none }
def attackByRow : OpenClaim := { program := "ytdfgpbighadplaadoor", sum := "a97aa3ea4f420de0009bfed94cbb97f2155f1cb894b486087d20fbb58be335c3", func := "kibitzer/kibitzerlaw08.AttackBy", spec := "attackBy", unfollowed := true, recurses := true, named := ["math/bits.deBruijn64tab"], apart := false, laid := [("math/bits.deBruijn64tab", laid_math_bits_deBruijn64tab)] }
def AttackBySaid : Prop := attackByRow.holds Tryd.pinned (OpenSpec.ofChange attackBySpec)

/-- ITS FALSE NEIGHBOUR: 'it returns false'. Refute it at one input. -/
def attackByWrong : ChangeSpec := { name := "attackBy", fn := fun _ => fun
  | [d1, d2, d3] => { results := [.lit (.bool false)], args := [d1, d2, d3] }
  | _ => none }
def AttackByWrongFalsely : Prop := attackByRow.holds Tryd.pinned (OpenSpec.ofChange attackByWrong)

/-- 'kibitzerlaw08.AttackFrom': WHATEVER THE INPUT: true; the input reads as it did. -/
def attackFromSpec : ChangeSpec := { name := "attackFrom", fn := fun _ => fun
  | [d1, d2] => { results := [.lit (.bool true)], args := [d1, d2] }
  | _ => none }
def attackFromRow : OpenClaim := { program := "ytdfgpbighadplaadoor", sum := "a97aa3ea4f420de0009bfed94cbb97f2155f1cb894b486087d20fbb58be335c3", func := "kibitzer/kibitzerlaw08.AttackFrom", spec := "attackFrom", unfollowed := true, recurses := true, named := ["math/bits.deBruijn64tab"], apart := false, laid := [("math/bits.deBruijn64tab", laid_math_bits_deBruijn64tab)] }
def AttackFromSaid : Prop := attackFromRow.holds Tryd.pinned (OpenSpec.ofChange attackFromSpec)

/-- ITS FALSE NEIGHBOUR: 'it returns false'. Refute it at one input. -/
def attackFromWrong : ChangeSpec := { name := "attackFrom", fn := fun _ => fun
  | [d1, d2] => { results := [.lit (.bool false)], args := [d1, d2] }
  | _ => none }
def AttackFromWrongFalsely : Prop := attackFromRow.holds Tryd.pinned (OpenSpec.ofChange attackFromWrong)

/-- 'kibitzerlaw08.AttackCheck': WHATEVER THE INPUT: true; the input reads as it did. -/
def attackCheckSpec : ChangeSpec := { name := "attackCheck", fn := fun _ => fun
  | [d1, d2] => { results := [.lit (.bool true)], args := [d1, d2] }
  | _ => none }
def attackCheckRow : OpenClaim := { program := "ytdfgpbighadplaadoor", sum := "a97aa3ea4f420de0009bfed94cbb97f2155f1cb894b486087d20fbb58be335c3", func := "kibitzer/kibitzerlaw08.AttackCheck", spec := "attackCheck", unfollowed := true, recurses := true, named := ["math/bits.deBruijn64tab"], apart := false, laid := [("math/bits.deBruijn64tab", laid_math_bits_deBruijn64tab)] }
def AttackCheckSaid : Prop := attackCheckRow.holds Tryd.pinned (OpenSpec.ofChange attackCheckSpec)

/-- ITS FALSE NEIGHBOUR: 'it returns false'. Refute it at one input. -/
def attackCheckWrong : ChangeSpec := { name := "attackCheck", fn := fun _ => fun
  | [d1, d2] => { results := [.lit (.bool false)], args := [d1, d2] }
  | _ => none }
def AttackCheckWrongFalsely : Prop := attackCheckRow.holds Tryd.pinned (OpenSpec.ofChange attackCheckWrong)

/-- 'kibitzerlaw08.AttackBoth': WHATEVER THE INPUT: true; the input reads as it did. -/
def attackBothSpec : ChangeSpec := { name := "attackBoth", fn := fun _ => fun
  | [d1, d2, d3] => { results := [.lit (.bool true)], args := [d1, d2, d3] }
  | _ => none }
def attackBothRow : OpenClaim := { program := "ytdfgpbighadplaadoor", sum := "a97aa3ea4f420de0009bfed94cbb97f2155f1cb894b486087d20fbb58be335c3", func := "kibitzer/kibitzerlaw08.AttackBoth", spec := "attackBoth", unfollowed := true, recurses := true, named := ["math/bits.deBruijn64tab"], apart := false, laid := [("math/bits.deBruijn64tab", laid_math_bits_deBruijn64tab)] }
def AttackBothSaid : Prop := attackBothRow.holds Tryd.pinned (OpenSpec.ofChange attackBothSpec)

/-- ITS FALSE NEIGHBOUR: 'it returns false'. Refute it at one input. -/
def attackBothWrong : ChangeSpec := { name := "attackBoth", fn := fun _ => fun
  | [d1, d2, d3] => { results := [.lit (.bool false)], args := [d1, d2, d3] }
  | _ => none }
def AttackBothWrongFalsely : Prop := attackBothRow.holds Tryd.pinned (OpenSpec.ofChange attackBothWrong)

/-- 'kibitzerlaw08.AttackLess': WHATEVER THE INPUT: true; the input reads as it did. -/
def attackLessSpec : ChangeSpec := { name := "attackLess", fn := fun _ => fun
  | [d1, d2, d3, d4] => { results := [.lit (.bool true)], args := [d1, d2, d3, d4] }
  | _ => none }
def attackLessRow : OpenClaim := { program := "ytdfgpbighadplaadoor", sum := "a97aa3ea4f420de0009bfed94cbb97f2155f1cb894b486087d20fbb58be335c3", func := "kibitzer/kibitzerlaw08.AttackLess", spec := "attackLess", unfollowed := true, recurses := true, named := ["math/bits.deBruijn64tab"], apart := false, laid := [("math/bits.deBruijn64tab", laid_math_bits_deBruijn64tab)] }
def AttackLessSaid : Prop := attackLessRow.holds Tryd.pinned (OpenSpec.ofChange attackLessSpec)

/-- ITS FALSE NEIGHBOUR: 'it returns false'. Refute it at one input. -/
def attackLessWrong : ChangeSpec := { name := "attackLess", fn := fun _ => fun
  | [d1, d2, d3, d4] => { results := [.lit (.bool false)], args := [d1, d2, d3, d4] }
  | _ => none }
def AttackLessWrongFalsely : Prop := attackLessRow.holds Tryd.pinned (OpenSpec.ofChange attackLessWrong)

/-- 'kibitzerlaw08.AttackTurned': WHATEVER THE INPUT: true; the input reads as it did. -/
def attackTurnedSpec : ChangeSpec := { name := "attackTurned", fn := fun _ => fun
  | [d1, d2] => { results := [.lit (.bool true)], args := [d1, d2] }
  | _ => none }
def attackTurnedRow : OpenClaim := { program := "ytdfgpbighadplaadoor", sum := "a97aa3ea4f420de0009bfed94cbb97f2155f1cb894b486087d20fbb58be335c3", func := "kibitzer/kibitzerlaw08.AttackTurned", spec := "attackTurned", unfollowed := true, recurses := true, named := ["math/bits.deBruijn64tab"], apart := false, laid := [("math/bits.deBruijn64tab", laid_math_bits_deBruijn64tab)] }
def AttackTurnedSaid : Prop := attackTurnedRow.holds Tryd.pinned (OpenSpec.ofChange attackTurnedSpec)

/-- ITS FALSE NEIGHBOUR: 'it returns false'. Refute it at one input. -/
def attackTurnedWrong : ChangeSpec := { name := "attackTurned", fn := fun _ => fun
  | [d1, d2] => { results := [.lit (.bool false)], args := [d1, d2] }
  | _ => none }
def AttackTurnedWrongFalsely : Prop := attackTurnedRow.holds Tryd.pinned (OpenSpec.ofChange attackTurnedWrong)

/-- 'kibitzerlaw08.AttackChecks': WHATEVER THE INPUT: true; the input reads as it did. -/
def attackChecksSpec : ChangeSpec := { name := "attackChecks", fn := fun _ => fun
  | [d] => { results := [.lit (.bool true)], args := [d] }
  | _ => none }
def attackChecksRow : OpenClaim := { program := "ytdfgpbighadplaadoor", sum := "a97aa3ea4f420de0009bfed94cbb97f2155f1cb894b486087d20fbb58be335c3", func := "kibitzer/kibitzerlaw08.AttackChecks", spec := "attackChecks", unfollowed := true, recurses := true, named := ["math/bits.deBruijn64tab"], apart := false, laid := [("math/bits.deBruijn64tab", laid_math_bits_deBruijn64tab)] }
def AttackChecksSaid : Prop := attackChecksRow.holds Tryd.pinned (OpenSpec.ofChange attackChecksSpec)

/-- ITS FALSE NEIGHBOUR: 'it returns false'. Refute it at one input. -/
def attackChecksWrong : ChangeSpec := { name := "attackChecks", fn := fun _ => fun
  | [d] => { results := [.lit (.bool false)], args := [d] }
  | _ => none }
def AttackChecksWrongFalsely : Prop := attackChecksRow.holds Tryd.pinned (OpenSpec.ofChange attackChecksWrong)

/- THE SECOND FORM. 'bulk': how many values and letters a reading holds, each counted each time it is reached (what is shared counts as often as it is met; a slice's spare places count too). A statement '..UptoSaid' is the law's where the arguments, and the package variables that the reading takes, are together of bulk at most 1048576: NARROWER than '..Said'. Prove '..Said' where nothing that the law and all that it calls make is longer than what came in: it says more and counts as full. Else prove '..UptoSaid'. A law counts once. -/
mutual
def uptoBulk {H : Type} : DataW H → Nat
  | .lit (.string bytes) => bytes.length + 1
  | .lit _ => 1
  | .nil => 1
  | .ptr d => uptoBulk d + 1
  | .slice elems spare => uptoBulkAll elems + uptoBulkAll spare + 1
  | .agg parts => uptoBulkAll parts + 1
  | .iface _ d => uptoBulk d + 1
  | .map entries => uptoBulkEntries entries + 1
  | .held _ => 1
def uptoBulkAll {H : Type} : List (DataW H) → Nat
  | [] => 0
  | d :: r => uptoBulk d + uptoBulkAll r
def uptoBulkEntries {H : Type} : List (Lit × DataW H) → Nat
  | [] => 0
  | x :: r => uptoBulkEntry x + uptoBulkEntries r
def uptoBulkEntry {H : Type} : Lit × DataW H → Nat
  | (.string bytes, d) => bytes.length + uptoBulk d + 1
  | (_, d) => uptoBulk d + 1
 end
def uptoSmall : (H : Type) → List (DataW H) → Bool := fun _ ds => decide (uptoBulkAll ds ≤ 1048576)
def OpenSpec.upto (s : _root_.Go.ChangeSpec) : _root_.Go.OpenSpec := { _root_.Go.OpenSpec.ofChange s with cond := some uptoSmall }

/-- 'kibitzerlaw08.AttackBy', WHERE WHAT IT READS IS OF BULK AT MOST 1048576: true; the input reads as it did. -/
def attackByUptoRow : OpenClaim := { program := "ytdfgpbighadplaadoor", sum := "a97aa3ea4f420de0009bfed94cbb97f2155f1cb894b486087d20fbb58be335c3", func := "kibitzer/kibitzerlaw08.AttackBy", spec := "attackBy", unfollowed := true, recurses := true, named := ["math/bits.deBruijn64tab"], apart := false, laid := [("math/bits.deBruijn64tab", laid_math_bits_deBruijn64tab)], narrowed := true }
def AttackByUptoSaid : Prop := attackByUptoRow.holds Tryd.pinned (OpenSpec.upto attackBySpec)

/-- 'kibitzerlaw08.AttackFrom', WHERE WHAT IT READS IS OF BULK AT MOST 1048576: true; the input reads as it did. -/
def attackFromUptoRow : OpenClaim := { program := "ytdfgpbighadplaadoor", sum := "a97aa3ea4f420de0009bfed94cbb97f2155f1cb894b486087d20fbb58be335c3", func := "kibitzer/kibitzerlaw08.AttackFrom", spec := "attackFrom", unfollowed := true, recurses := true, named := ["math/bits.deBruijn64tab"], apart := false, laid := [("math/bits.deBruijn64tab", laid_math_bits_deBruijn64tab)], narrowed := true }
def AttackFromUptoSaid : Prop := attackFromUptoRow.holds Tryd.pinned (OpenSpec.upto attackFromSpec)

/-- 'kibitzerlaw08.AttackCheck', WHERE WHAT IT READS IS OF BULK AT MOST 1048576: true; the input reads as it did. -/
def attackCheckUptoRow : OpenClaim := { program := "ytdfgpbighadplaadoor", sum := "a97aa3ea4f420de0009bfed94cbb97f2155f1cb894b486087d20fbb58be335c3", func := "kibitzer/kibitzerlaw08.AttackCheck", spec := "attackCheck", unfollowed := true, recurses := true, named := ["math/bits.deBruijn64tab"], apart := false, laid := [("math/bits.deBruijn64tab", laid_math_bits_deBruijn64tab)], narrowed := true }
def AttackCheckUptoSaid : Prop := attackCheckUptoRow.holds Tryd.pinned (OpenSpec.upto attackCheckSpec)

/-- 'kibitzerlaw08.AttackBoth', WHERE WHAT IT READS IS OF BULK AT MOST 1048576: true; the input reads as it did. -/
def attackBothUptoRow : OpenClaim := { program := "ytdfgpbighadplaadoor", sum := "a97aa3ea4f420de0009bfed94cbb97f2155f1cb894b486087d20fbb58be335c3", func := "kibitzer/kibitzerlaw08.AttackBoth", spec := "attackBoth", unfollowed := true, recurses := true, named := ["math/bits.deBruijn64tab"], apart := false, laid := [("math/bits.deBruijn64tab", laid_math_bits_deBruijn64tab)], narrowed := true }
def AttackBothUptoSaid : Prop := attackBothUptoRow.holds Tryd.pinned (OpenSpec.upto attackBothSpec)

/-- 'kibitzerlaw08.AttackLess', WHERE WHAT IT READS IS OF BULK AT MOST 1048576: true; the input reads as it did. -/
def attackLessUptoRow : OpenClaim := { program := "ytdfgpbighadplaadoor", sum := "a97aa3ea4f420de0009bfed94cbb97f2155f1cb894b486087d20fbb58be335c3", func := "kibitzer/kibitzerlaw08.AttackLess", spec := "attackLess", unfollowed := true, recurses := true, named := ["math/bits.deBruijn64tab"], apart := false, laid := [("math/bits.deBruijn64tab", laid_math_bits_deBruijn64tab)], narrowed := true }
def AttackLessUptoSaid : Prop := attackLessUptoRow.holds Tryd.pinned (OpenSpec.upto attackLessSpec)

/-- 'kibitzerlaw08.AttackTurned', WHERE WHAT IT READS IS OF BULK AT MOST 1048576: true; the input reads as it did. -/
def attackTurnedUptoRow : OpenClaim := { program := "ytdfgpbighadplaadoor", sum := "a97aa3ea4f420de0009bfed94cbb97f2155f1cb894b486087d20fbb58be335c3", func := "kibitzer/kibitzerlaw08.AttackTurned", spec := "attackTurned", unfollowed := true, recurses := true, named := ["math/bits.deBruijn64tab"], apart := false, laid := [("math/bits.deBruijn64tab", laid_math_bits_deBruijn64tab)], narrowed := true }
def AttackTurnedUptoSaid : Prop := attackTurnedUptoRow.holds Tryd.pinned (OpenSpec.upto attackTurnedSpec)

/-- 'kibitzerlaw08.AttackChecks', WHERE WHAT IT READS IS OF BULK AT MOST 1048576: true; the input reads as it did. -/
def attackChecksUptoRow : OpenClaim := { program := "ytdfgpbighadplaadoor", sum := "a97aa3ea4f420de0009bfed94cbb97f2155f1cb894b486087d20fbb58be335c3", func := "kibitzer/kibitzerlaw08.AttackChecks", spec := "attackChecks", unfollowed := true, recurses := true, named := ["math/bits.deBruijn64tab"], apart := false, laid := [("math/bits.deBruijn64tab", laid_math_bits_deBruijn64tab)], narrowed := true }
def AttackChecksUptoSaid : Prop := attackChecksUptoRow.holds Tryd.pinned (OpenSpec.upto attackChecksSpec)

end Rows
end Go.Proofs.YtdfgpbighadplaaDoor
