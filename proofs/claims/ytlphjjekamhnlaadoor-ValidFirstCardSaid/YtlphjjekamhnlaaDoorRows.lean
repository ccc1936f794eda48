/-
  NARROWER THAN 'FOR EVERY INPUT', by the rows' own cells (each row's printed sentence says how): PseudoList: laid · PseudoBack: laid · PseudoOwn: laid · PseudoLess: laid · ValidAll: laid · ValidTurned: laid · ValidMends: laid · ValidMended: laid · ValidFirst: laid.
  DERIVED. THE GIVEN ROWS OF THIS SEAT. 9 by the template 'for every input the law returns true; each argument reads behind the call as it read before'; 0 by the template 'total and deterministic' (their statements: YtlphjjekamhnlaaDoorTotals.lean).
  GIVEN WITH THE SEED: the statements are not yours to turn. If you find one false, say at which input.
  Laid BY PROGRAM, IN A SANDBOX (cutbox-rows.mjs): the forced cells as the released guide's own fill.sh prints them over the translation 6bb2cbe37eb29e3d… (all of the seat's roots in one cut). By AI agents, Wed Nov 11 2026. No macro, syntax, notation, axiom, sorry.
-/
import Derived.Test.YtlphjjekamhnlaaDoorChecked
import GoSem.Claim
import GoSem.ClaimJoined
import GoSem.ClaimMapViews
import Derived.JoinedTies
import Derived.KernelRfl
namespace Go.Proofs.YtlphjjekamhnlaaDoor
/- THE CELL 'sum', in the pinned program and in every row, IS THE sha256 OF THE DUMP (.gsa) THAT YtlphjjekamhnlaaDoorProg.lean LOADS. Nothing in Lean hashes anything: it is a label: what it is worth is what the hold of that sum in a sandbox is worth. -/
noncomputable def Tryd.pinned : Pinned := { name := "ytlphjjekamhnlaadoor", sum := "6bb2cbe37eb29e3d38872e73e63ae1b4b697e3267bb4f0655900402f4d613e05", checked := Tryd.checked }
namespace Rows
def none {H : Type} : Left H := { results := [], args := [] }

/- WHAT THE LISTED PACKAGE-LEVEL VARIABLES READ AS WHEN THE CALL BEGINS. Each datum BY PROGRAM (the guide's laid-datum.mjs) off the statement by which the dump's own 'gosem.cut.vars' lays the variable. In a bare row this is a premise. The card (YtlphjjekamhnlaaDoorCards.lean) ties it to the program's text. -/
def laid_math_bits_deBruijn64tab {H : Type} : DataW H := .agg [.lit (.int .u8 0), .lit (.int .u8 1), .lit (.int .u8 56), .lit (.int .u8 2), .lit (.int .u8 57), .lit (.int .u8 49), .lit (.int .u8 28), .lit (.int .u8 3), .lit (.int .u8 61), .lit (.int .u8 58), .lit (.int .u8 42), .lit (.int .u8 50), .lit (.int .u8 38), .lit (.int .u8 29), .lit (.int .u8 17), .lit (.int .u8 4), .lit (.int .u8 62), .lit (.int .u8 47), .lit (.int .u8 59), .lit (.int .u8 36), .lit (.int .u8 45), .lit (.int .u8 43), .lit (.int .u8 51), .lit (.int .u8 22), .lit (.int .u8 53), .lit (.int .u8 39), .lit (.int .u8 33), .lit (.int .u8 30), .lit (.int .u8 24), .lit (.int .u8 18), .lit (.int .u8 12), .lit (.int .u8 5), .lit (.int .u8 63), .lit (.int .u8 55), .lit (.int .u8 48), .lit (.int .u8 27), .lit (.int .u8 60), .lit (.int .u8 41), .lit (.int .u8 37), .lit (.int .u8 16), .lit (.int .u8 46), .lit (.int .u8 35), .lit (.int .u8 44), .lit (.int .u8 21), .lit (.int .u8 52), .lit (.int .u8 32), .lit (.int .u8 23), .lit (.int .u8 11), .lit (.int .u8 54), .lit (.int .u8 26), .lit (.int .u8 40), .lit (.int .u8 15), .lit (.int .u8 34), .lit (.int .u8 20), .lit (.int .u8 31), .lit (.int .u8 10), .lit (.int .u8 25), .lit (.int .u8 14), .lit (.int .u8 19), .lit (.int .u8 9), .lit (.int .u8 13), .lit (.int .u8 8), .lit (.int .u8 7), .lit (.int .u8 6)]

/-- 'kibitzerlaw13.PseudoList': WHATEVER THE INPUT: true; the input reads as it did. -/
def pseudoListSpec : ChangeSpec := { name := "pseudoList", fn := fun _ => fun
  | [d] => { results := [.lit (.bool true)], args := [d] }
  | _ => none }
def pseudoListRow : OpenClaim := { program := "ytlphjjekamhnlaadoor", sum := "6bb2cbe37eb29e3d38872e73e63ae1b4b697e3267bb4f0655900402f4d613e05", func := "kibitzer/kibitzerlaw13.PseudoList", spec := "pseudoList", unfollowed := true, recurses := true, named := ["math/bits.deBruijn64tab"], apart := false, laid := [("math/bits.deBruijn64tab", laid_math_bits_deBruijn64tab)] }
def PseudoListSaid : Prop := pseudoListRow.holds Tryd.pinned (OpenSpec.ofChange pseudoListSpec)

/-- ITS FALSE NEIGHBOUR: 'it returns false'. Refute it at one input. -/
def pseudoListWrong : ChangeSpec := { name := "pseudoList", fn := fun _ => fun
  | [d] => { results := [.lit (.bool false)], args := [d] }
  | _ => none }
def PseudoListWrongFalsely : Prop := pseudoListRow.holds Tryd.pinned (OpenSpec.ofChange pseudoListWrong)

/-- 'kibitzerlaw13.PseudoBack': WHATEVER THE INPUT: true; the input reads as it did. -/
def pseudoBackSpec : ChangeSpec := { name := "pseudoBack", fn := fun _ => fun
  | [d] => { results := [.lit (.bool true)], args := [d] }
  | _ => none }
def pseudoBackRow : OpenClaim := { program := "ytlphjjekamhnlaadoor", sum := "6bb2cbe37eb29e3d38872e73e63ae1b4b697e3267bb4f0655900402f4d613e05", func := "kibitzer/kibitzerlaw13.PseudoBack", spec := "pseudoBack", unfollowed := true, recurses := true, named := ["math/bits.deBruijn64tab"], apart := false, laid := [("math/bits.deBruijn64tab", laid_math_bits_deBruijn64tab)] }
def PseudoBackSaid : Prop := pseudoBackRow.holds Tryd.pinned (OpenSpec.ofChange pseudoBackSpec)

/-- ITS FALSE NEIGHBOUR: 'it returns false'. Refute it at one input. -/
def pseudoBackWrong : ChangeSpec := { name := "pseudoBack", fn := fun _ => fun
  | [d] => { results := [.lit (.bool false)], args := [d] }
  | _ => none }
def PseudoBackWrongFalsely : Prop := pseudoBackRow.holds Tryd.pinned (OpenSpec.ofChange pseudoBackWrong)

/-- 'kibitzerlaw13.PseudoOwn': WHATEVER THE INPUT: true; the input reads as it did. -/
def pseudoOwnSpec : ChangeSpec := { name := "pseudoOwn", fn := fun _ => fun
  | [d] => { results := [.lit (.bool true)], args := [d] }
  | _ => none }
def pseudoOwnRow : OpenClaim := { program := "ytlphjjekamhnlaadoor", sum := "6bb2cbe37eb29e3d38872e73e63ae1b4b697e3267bb4f0655900402f4d613e05", func := "kibitzer/kibitzerlaw13.PseudoOwn", spec := "pseudoOwn", unfollowed := true, recurses := true, named := ["math/bits.deBruijn64tab"], apart := false, laid := [("math/bits.deBruijn64tab", laid_math_bits_deBruijn64tab)] }
def PseudoOwnSaid : Prop := pseudoOwnRow.holds Tryd.pinned (OpenSpec.ofChange pseudoOwnSpec)

/-- ITS FALSE NEIGHBOUR: 'it returns false'. Refute it at one input. -/
def pseudoOwnWrong : ChangeSpec := { name := "pseudoOwn", fn := fun _ => fun
  | [d] => { results := [.lit (.bool false)], args := [d] }
  | _ => none }
def PseudoOwnWrongFalsely : Prop := pseudoOwnRow.holds Tryd.pinned (OpenSpec.ofChange pseudoOwnWrong)

/-- 'kibitzerlaw13.PseudoLess': WHATEVER THE INPUT: true; the input reads as it did. -/
def pseudoLessSpec : ChangeSpec := { name := "pseudoLess", fn := fun _ => fun
  | [d1, d2] => { results := [.lit (.bool true)], args := [d1, d2] }
  | _ => none }
def pseudoLessRow : OpenClaim := { program := "ytlphjjekamhnlaadoor", sum := "6bb2cbe37eb29e3d38872e73e63ae1b4b697e3267bb4f0655900402f4d613e05", func := "kibitzer/kibitzerlaw13.PseudoLess", spec := "pseudoLess", unfollowed := true, recurses := true, named := ["math/bits.deBruijn64tab"], apart := false, laid := [("math/bits.deBruijn64tab", laid_math_bits_deBruijn64tab)] }
def PseudoLessSaid : Prop := pseudoLessRow.holds Tryd.pinned (OpenSpec.ofChange pseudoLessSpec)

/-- ITS FALSE NEIGHBOUR: 'it returns false'. Refute it at one input. -/
def pseudoLessWrong : ChangeSpec := { name := "pseudoLess", fn := fun _ => fun
  | [d1, d2] => { results := [.lit (.bool false)], args := [d1, d2] }
  | _ => none }
def PseudoLessWrongFalsely : Prop := pseudoLessRow.holds Tryd.pinned (OpenSpec.ofChange pseudoLessWrong)

/-- 'kibitzerlaw12.ValidAll': WHATEVER THE INPUT: true; the input reads as it did. -/
def validAllSpec : ChangeSpec := { name := "validAll", fn := fun _ => fun
  | [d] => { results := [.lit (.bool true)], args := [d] }
  | _ => none }
def validAllRow : OpenClaim := { program := "ytlphjjekamhnlaadoor", sum := "6bb2cbe37eb29e3d38872e73e63ae1b4b697e3267bb4f0655900402f4d613e05", func := "kibitzer/kibitzerlaw12.ValidAll", spec := "validAll", unfollowed := true, recurses := true, named := ["math/bits.deBruijn64tab"], apart := false, laid := [("math/bits.deBruijn64tab", laid_math_bits_deBruijn64tab)] }
def ValidAllSaid : Prop := validAllRow.holds Tryd.pinned (OpenSpec.ofChange validAllSpec)

/-- ITS FALSE NEIGHBOUR: 'it returns false'. Refute it at one input. -/
def validAllWrong : ChangeSpec := { name := "validAll", fn := fun _ => fun
  | [d] => { results := [.lit (.bool false)], args := [d] }
  | _ => none }
def ValidAllWrongFalsely : Prop := validAllRow.holds Tryd.pinned (OpenSpec.ofChange validAllWrong)

/-- 'kibitzerlaw12.ValidTurned': WHATEVER THE INPUT: true; the input reads as it did. -/
def validTurnedSpec : ChangeSpec := { name := "validTurned", fn := fun _ => fun
  | [d] => { results := [.lit (.bool true)], args := [d] }
  | _ => none }
def validTurnedRow : OpenClaim := { program := "ytlphjjekamhnlaadoor", sum := "6bb2cbe37eb29e3d38872e73e63ae1b4b697e3267bb4f0655900402f4d613e05", func := "kibitzer/kibitzerlaw12.ValidTurned", spec := "validTurned", unfollowed := true, recurses := true, named := ["math/bits.deBruijn64tab"], apart := false, laid := [("math/bits.deBruijn64tab", laid_math_bits_deBruijn64tab)] }
def ValidTurnedSaid : Prop := validTurnedRow.holds Tryd.pinned (OpenSpec.ofChange validTurnedSpec)

/-- ITS FALSE NEIGHBOUR: 'it returns false'. Refute it at one input. -/
def validTurnedWrong : ChangeSpec := { name := "validTurned", fn := fun _ => fun
  | [d] => { results := [.lit (.bool false)], args := [d] }
  | _ => none }
def ValidTurnedWrongFalsely : Prop := validTurnedRow.holds Tryd.pinned (OpenSpec.ofChange validTurnedWrong)

/-- 'kibitzerlaw12.ValidMends': WHATEVER THE INPUT: true; the input reads as it did. -/
def validMendsSpec : ChangeSpec := { name := "validMends", fn := fun _ => fun
  | [d] => { results := [.lit (.bool true)], args := [d] }
  | _ => none }
def validMendsRow : OpenClaim := { program := "ytlphjjekamhnlaadoor", sum := "6bb2cbe37eb29e3d38872e73e63ae1b4b697e3267bb4f0655900402f4d613e05", func := "kibitzer/kibitzerlaw12.ValidMends", spec := "validMends", unfollowed := true, recurses := true, named := ["math/bits.deBruijn64tab"], apart := false, laid := [("math/bits.deBruijn64tab", laid_math_bits_deBruijn64tab)] }
def ValidMendsSaid : Prop := validMendsRow.holds Tryd.pinned (OpenSpec.ofChange validMendsSpec)

/-- ITS FALSE NEIGHBOUR: 'it returns false'. Refute it at one input. -/
def validMendsWrong : ChangeSpec := { name := "validMends", fn := fun _ => fun
  | [d] => { results := [.lit (.bool false)], args := [d] }
  | _ => none }
def ValidMendsWrongFalsely : Prop := validMendsRow.holds Tryd.pinned (OpenSpec.ofChange validMendsWrong)

/-- 'kibitzerlaw12.ValidMended': WHATEVER THE INPUT: true; the input reads as it did. -/
def validMendedSpec : ChangeSpec := { name := "validMended", fn := fun _ => fun
  | [d] => { results := [.lit (.bool true)], args := [d] }
  | _ => none }
def validMendedRow : OpenClaim := { program := "ytlphjjekamhnlaadoor", sum := "6bb2cbe37eb29e3d38872e73e63ae1b4b697e3267bb4f0655900402f4d613e05", func := "kibitzer/kibitzerlaw12.ValidMended", spec := "validMended", unfollowed := true, recurses := true, named := ["math/bits.deBruijn64tab"], apart := false, laid := [("math/bits.deBruijn64tab", laid_math_bits_deBruijn64tab)] }
def ValidMendedSaid : Prop := validMendedRow.holds Tryd.pinned (OpenSpec.ofChange validMendedSpec)

/-- ITS FALSE NEIGHBOUR: 'it returns false'. Refute it at one input. -/
def validMendedWrong : ChangeSpec := { name := "validMended", fn := fun _ => fun
  | [d] => { results := [.lit (.bool false)], args := [d] }
  | _ => none }
def ValidMendedWrongFalsely : Prop := validMendedRow.holds Tryd.pinned (OpenSpec.ofChange validMendedWrong)

/-- 'kibitzerlaw12.ValidFirst': WHATEVER THE INPUT: true; the input reads as it did. -/
def validFirstSpec : ChangeSpec := { name := "validFirst", fn := fun _ => fun
  | [d1, d2] => { results := [.lit (.bool true)], args := [d1, d2] }
  | _ => none }
def validFirstRow : OpenClaim := { program := "ytlphjjekamhnlaadoor", sum := "6bb2cbe37eb29e3d38872e73e63ae1b4b697e3267bb4f0655900402f4d613e05", func := "kibitzer/kibitzerlaw12.ValidFirst", spec := "validFirst", unfollowed := true, recurses := true, named := ["math/bits.deBruijn64tab"], apart := false, laid := [("math/bits.deBruijn64tab", laid_math_bits_deBruijn64tab)] }
def ValidFirstSaid : Prop := validFirstRow.holds Tryd.pinned (OpenSpec.ofChange validFirstSpec)

/-- ITS FALSE NEIGHBOUR: 'it returns false'. Refute it at one input. -/
def validFirstWrong : ChangeSpec := { name := "validFirst", fn := fun _ => fun
  | [d1, d2] => { results := [.lit (.bool false)], args := [d1, d2] }
  | _ => none }
def ValidFirstWrongFalsely : Prop := validFirstRow.holds Tryd.pinned (OpenSpec.ofChange validFirstWrong)

/- THE SECOND FORM. 'bulk': how many values and letters a reading holds, each counted each time it is reached (what is shared counts as often as it is met; a slice's spare places count too). A statement '..UptoSaid' is the law's where the arguments, and the package variables that the reading takes, are together of bulk at most 1048576: NARROWER than '..Said'. Prove '..Said' where nothing that the law and all that it calls make is longer than what came in: it says more and counts as full. Else prove '..UptoSaid'. A law counts once. -/
mutual
def uptoBulk {H : Type} : DataW H → Nat
  | .lit (.string bytes) => bytes.length + 1
  | .lit _ => 1
  | .nil => 1
  | .ptr d => uptoBulk d + 1
  | .slice elems spare => uptoBulkAll elems + uptoBulkAll spare + 1
  | .agg parts => uptoBulkAll parts + 1
  | .iface _ d => uptoBulk d + 1
  | .map entries => uptoBulkEntries entries + 1
  | .held _ => 1
def uptoBulkAll {H : Type} : List (DataW H) → Nat
  | [] => 0
  | d :: r => uptoBulk d + uptoBulkAll r
def uptoBulkEntries {H : Type} : List (Lit × DataW H) → Nat
  | [] => 0
  | x :: r => uptoBulkEntry x + uptoBulkEntries r
def uptoBulkEntry {H : Type} : Lit × DataW H → Nat
  | (.string bytes, d) => bytes.length + uptoBulk d + 1
  | (_, d) => uptoBulk d + 1
 end
def uptoSmall : (H : Type) → List (DataW H) → Bool := fun _ ds => decide (uptoBulkAll ds ≤ 1048576)
def OpenSpec.upto (s : _root_.Go.ChangeSpec) : _root_.Go.OpenSpec := { _root_.Go.OpenSpec.ofChange s with cond := some uptoSmall }

/-- 'kibitzerlaw13.PseudoList', WHERE WHAT IT READS IS OF BULK AT MOST 1048576: true; the input reads as it did. -/
def pseudoListUptoRow : OpenClaim := { program := "ytlphjjekamhnlaadoor", sum := "6bb2cbe37eb29e3d38872e73e63ae1b4b697e3267bb4f0655900402f4d613e05", func := "kibitzer/kibitzerlaw13.PseudoList", spec := "pseudoList", unfollowed := true, recurses := true, named := ["math/bits.deBruijn64tab"], apart := false, laid := [("math/bits.deBruijn64tab", laid_math_bits_deBruijn64tab)], narrowed := true }
def PseudoListUptoSaid : Prop := pseudoListUptoRow.holds Tryd.pinned (OpenSpec.upto pseudoListSpec)

/-- 'kibitzerlaw13.PseudoBack', WHERE WHAT IT READS IS OF BULK AT MOST 1048576: true; the input reads as it did. -/
def pseudoBackUptoRow : OpenClaim := { program := "ytlphjjekamhnlaadoor", sum := "6bb2cbe37eb29e3d38872e73e63ae1b4b697e3267bb4f0655900402f4d613e05", func := "kibitzer/kibitzerlaw13.PseudoBack", spec := "pseudoBack", unfollowed := true, recurses := true, named := ["math/bits.deBruijn64tab"], apart := false, laid := [("math/bits.deBruijn64tab", laid_math_bits_deBruijn64tab)], narrowed := true }
def PseudoBackUptoSaid : Prop := pseudoBackUptoRow.holds Tryd.pinned (OpenSpec.upto pseudoBackSpec)

/-- 'kibitzerlaw13.PseudoOwn', WHERE WHAT IT READS IS OF BULK AT MOST 1048576: true; the input reads as it did. -/
def pseudoOwnUptoRow : OpenClaim := { program := "ytlphjjekamhnlaadoor", sum := "6bb2cbe37eb29e3d38872e73e63ae1b4b697e3267bb4f0655900402f4d613e05", func := "kibitzer/kibitzerlaw13.PseudoOwn", spec := "pseudoOwn", unfollowed := true, recurses := true, named := ["math/bits.deBruijn64tab"], apart := false, laid := [("math/bits.deBruijn64tab", laid_math_bits_deBruijn64tab)], narrowed := true }
def PseudoOwnUptoSaid : Prop := pseudoOwnUptoRow.holds Tryd.pinned (OpenSpec.upto pseudoOwnSpec)

/-- 'kibitzerlaw13.PseudoLess', WHERE WHAT IT READS IS OF BULK AT MOST 1048576: true; the input reads as it did. -/
def pseudoLessUptoRow : OpenClaim := { program := "ytlphjjekamhnlaadoor", sum := "6bb2cbe37eb29e3d38872e73e63ae1b4b697e3267bb4f0655900402f4d613e05", func := "kibitzer/kibitzerlaw13.PseudoLess", spec := "pseudoLess", unfollowed := true, recurses := true, named := ["math/bits.deBruijn64tab"], apart := false, laid := [("math/bits.deBruijn64tab", laid_math_bits_deBruijn64tab)], narrowed := true }
def PseudoLessUptoSaid : Prop := pseudoLessUptoRow.holds Tryd.pinned (OpenSpec.upto pseudoLessSpec)

/-- 'kibitzerlaw12.ValidAll', WHERE WHAT IT READS IS OF BULK AT MOST 1048576: true; the input reads as it did. -/
def validAllUptoRow : OpenClaim := { program := "ytlphjjekamhnlaadoor", sum := "6bb2cbe37eb29e3d38872e73e63ae1b4b697e3267bb4f0655900402f4d613e05", func := "kibitzer/kibitzerlaw12.ValidAll", spec := "validAll", unfollowed := true, recurses := true, named := ["math/bits.deBruijn64tab"], apart := false, laid := [("math/bits.deBruijn64tab", laid_math_bits_deBruijn64tab)], narrowed := true }
def ValidAllUptoSaid : Prop := validAllUptoRow.holds Tryd.pinned (OpenSpec.upto validAllSpec)

/-- 'kibitzerlaw12.ValidTurned', WHERE WHAT IT READS IS OF BULK AT MOST 1048576: true; the input reads as it did. -/
def validTurnedUptoRow : OpenClaim := { program := "ytlphjjekamhnlaadoor", sum := "6bb2cbe37eb29e3d38872e73e63ae1b4b697e3267bb4f0655900402f4d613e05", func := "kibitzer/kibitzerlaw12.ValidTurned", spec := "validTurned", unfollowed := true, recurses := true, named := ["math/bits.deBruijn64tab"], apart := false, laid := [("math/bits.deBruijn64tab", laid_math_bits_deBruijn64tab)], narrowed := true }
def ValidTurnedUptoSaid : Prop := validTurnedUptoRow.holds Tryd.pinned (OpenSpec.upto validTurnedSpec)

/-- 'kibitzerlaw12.ValidMends', WHERE WHAT IT READS IS OF BULK AT MOST 1048576: true; the input reads as it did. -/
def validMendsUptoRow : OpenClaim := { program := "ytlphjjekamhnlaadoor", sum := "6bb2cbe37eb29e3d38872e73e63ae1b4b697e3267bb4f0655900402f4d613e05", func := "kibitzer/kibitzerlaw12.ValidMends", spec := "validMends", unfollowed := true, recurses := true, named := ["math/bits.deBruijn64tab"], apart := false, laid := [("math/bits.deBruijn64tab", laid_math_bits_deBruijn64tab)], narrowed := true }
def ValidMendsUptoSaid : Prop := validMendsUptoRow.holds Tryd.pinned (OpenSpec.upto validMendsSpec)

/-- 'kibitzerlaw12.ValidMended', WHERE WHAT IT READS IS OF BULK AT MOST 1048576: true; the input reads as it did. -/
def validMendedUptoRow : OpenClaim := { program := "ytlphjjekamhnlaadoor", sum := "6bb2cbe37eb29e3d38872e73e63ae1b4b697e3267bb4f0655900402f4d613e05", func := "kibitzer/kibitzerlaw12.ValidMended", spec := "validMended", unfollowed := true, recurses := true, named := ["math/bits.deBruijn64tab"], apart := false, laid := [("math/bits.deBruijn64tab", laid_math_bits_deBruijn64tab)], narrowed := true }
def ValidMendedUptoSaid : Prop := validMendedUptoRow.holds Tryd.pinned (OpenSpec.upto validMendedSpec)

/-- 'kibitzerlaw12.ValidFirst', WHERE WHAT IT READS IS OF BULK AT MOST 1048576: true; the input reads as it did. -/
def validFirstUptoRow : OpenClaim := { program := "ytlphjjekamhnlaadoor", sum := "6bb2cbe37eb29e3d38872e73e63ae1b4b697e3267bb4f0655900402f4d613e05", func := "kibitzer/kibitzerlaw12.ValidFirst", spec := "validFirst", unfollowed := true, recurses := true, named := ["math/bits.deBruijn64tab"], apart := false, laid := [("math/bits.deBruijn64tab", laid_math_bits_deBruijn64tab)], narrowed := true }
def ValidFirstUptoSaid : Prop := validFirstUptoRow.holds Tryd.pinned (OpenSpec.upto validFirstSpec)

end Rows
end Go.Proofs.YtlphjjekamhnlaaDoor
