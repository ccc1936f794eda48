/-
  NARROWER THAN 'FOR EVERY INPUT', by the rows' own cells (each row's printed sentence says how): MovesText: laid · MovesBack: laid · MovesOne: laid · MovesPlain: laid · MovesDrops: laid · MovesArg: laid.
  DERIVED. THE GIVEN ROWS OF THIS SEAT. 6 by the template 'for every input the law returns true; each argument reads behind the call as it read before'; 0 by the template 'total and deterministic' (their statements: YtldpejeodhkgdaaDoorTotals.lean).
  GIVEN WITH THE SEED: the statements are not yours to turn. If you find one false, say at which input.
  Laid BY PROGRAM, IN A SANDBOX (cutbox-rows.mjs): the forced cells as the released guide's own fill.sh prints them over the translation e24a9e1b848aa0b3… (all of the seat's roots in one cut). By AI agents, Wed Nov 11 2026. No macro, syntax, notation, axiom, sorry.
-/
import Derived.Test.YtldpejeodhkgdaaDoorChecked
import GoSem.PinnedTables
import GoSem.Claim
import GoSem.ClaimJoined
import GoSem.ClaimMapViews
import Derived.JoinedTies
import Derived.KernelRfl
namespace Go.Proofs.YtldpejeodhkgdaaDoor
/- THE CELL 'sum', in the pinned program and in every row, IS THE sha256 OF THE DUMP (.gsa) THAT YtldpejeodhkgdaaDoorProg.lean LOADS. Nothing in Lean hashes anything: it is a label: what it is worth is what the hold of that sum in a sandbox is worth. -/
noncomputable def Tryd.pinned : Pinned := { name := "ytldpejeodhkgdaadoor", sum := "e24a9e1b848aa0b35e914d62c72b6c810ebd1a5a663796353274fd634926de48", checked := Tryd.checked }
namespace Rows
def none {H : Type} : Left H := { results := [], args := [] }

/- WHAT THE LISTED PACKAGE-LEVEL VARIABLES READ AS WHEN THE CALL BEGINS. Each datum BY PROGRAM (the guide's laid-datum.mjs) off the statement by which the dump's own 'gosem.cut.vars' lays the variable. In a bare row this is a premise. The card (YtldpejeodhkgdaaDoorCards.lean) ties it to the program's text. -/
def laid_unicode_utf8_acceptRanges {H : Type} : DataW H := .agg [.agg [.lit (.int .u8 128), .lit (.int .u8 191)], .agg [.lit (.int .u8 160), .lit (.int .u8 191)], .agg [.lit (.int .u8 128), .lit (.int .u8 159)], .agg [.lit (.int .u8 144), .lit (.int .u8 191)], .agg [.lit (.int .u8 128), .lit (.int .u8 143)], .agg [.lit (.int .u8 0), .lit (.int .u8 0)], .agg [.lit (.int .u8 0), .lit (.int .u8 0)], .agg [.lit (.int .u8 0), .lit (.int .u8 0)], .agg [.lit (.int .u8 0), .lit (.int .u8 0)], .agg [.lit (.int .u8 0), .lit (.int .u8 0)], .agg [.lit (.int .u8 0), .lit (.int .u8 0)], .agg [.lit (.int .u8 0), .lit (.int .u8 0)], .agg [.lit (.int .u8 0), .lit (.int .u8 0)], .agg [.lit (.int .u8 0), .lit (.int .u8 0)], .agg [.lit (.int .u8 0), .lit (.int .u8 0)], .agg [.lit (.int .u8 0), .lit (.int .u8 0)]]
/-- One of Go's own tables, pinned by name: the form's constant. -/
def laid_unicode_CaseRanges : DataW Unit := Go.Pinned.caseRanges
/-- One of Go's own tables, pinned by name: the form's constant. -/
def laid_unicode_utf8_first : DataW Unit := Go.Pinned.utf8First

/-- 'kibitzerlaw11.MovesText': WHATEVER THE INPUT: true; the input reads as it did. -/
def movesTextSpec : ChangeSpec := { name := "movesText", fn := fun _ => fun
  | [d1, d2] => { results := [.lit (.bool true)], args := [d1, d2] }
  | _ => none }
def movesTextRow : OpenClaim := { program := "ytldpejeodhkgdaadoor", sum := "e24a9e1b848aa0b35e914d62c72b6c810ebd1a5a663796353274fd634926de48", func := "kibitzer/kibitzerlaw11.MovesText", spec := "movesText", inPlace := ["internal/abi.NoEscape", "internal/bytealg.MakeNoZero"], unfollowed := true, recurses := true, named := ["unicode/utf8.first", "unicode/utf8.acceptRanges", "unicode.CaseRanges"], apart := false, laid := [("unicode/utf8.acceptRanges", laid_unicode_utf8_acceptRanges), ("unicode.CaseRanges", laid_unicode_CaseRanges), ("unicode/utf8.first", laid_unicode_utf8_first)] }
def MovesTextSaid : Prop := movesTextRow.holds Tryd.pinned (OpenSpec.ofChange movesTextSpec)

/-- ITS FALSE NEIGHBOUR: 'it returns false'. Refute it at one input. -/
def movesTextWrong : ChangeSpec := { name := "movesText", fn := fun _ => fun
  | [d1, d2] => { results := [.lit (.bool false)], args := [d1, d2] }
  | _ => none }
def MovesTextWrongFalsely : Prop := movesTextRow.holds Tryd.pinned (OpenSpec.ofChange movesTextWrong)

/-- 'kibitzerlaw11.MovesBack': WHATEVER THE INPUT: true; the input reads as it did. -/
def movesBackSpec : ChangeSpec := { name := "movesBack", fn := fun _ => fun
  | [d1, d2, d3] => { results := [.lit (.bool true)], args := [d1, d2, d3] }
  | _ => none }
def movesBackRow : OpenClaim := { program := "ytldpejeodhkgdaadoor", sum := "e24a9e1b848aa0b35e914d62c72b6c810ebd1a5a663796353274fd634926de48", func := "kibitzer/kibitzerlaw11.MovesBack", spec := "movesBack", inPlace := ["internal/abi.NoEscape", "internal/bytealg.MakeNoZero"], unfollowed := true, recurses := true, named := ["unicode/utf8.first", "unicode/utf8.acceptRanges", "unicode.CaseRanges"], apart := false, laid := [("unicode/utf8.acceptRanges", laid_unicode_utf8_acceptRanges), ("unicode.CaseRanges", laid_unicode_CaseRanges), ("unicode/utf8.first", laid_unicode_utf8_first)] }
def MovesBackSaid : Prop := movesBackRow.holds Tryd.pinned (OpenSpec.ofChange movesBackSpec)

/-- ITS FALSE NEIGHBOUR: 'it returns false'. Refute it at one input. -/
def movesBackWrong : ChangeSpec := { name := "movesBack", fn := fun _ => fun
  | [d1, d2, d3] => { results := [.lit (.bool false)], args := [d1, d2, d3] }
  | _ => none }
def MovesBackWrongFalsely : Prop := movesBackRow.holds Tryd.pinned (OpenSpec.ofChange movesBackWrong)

/-- 'kibitzerlaw11.MovesOne': WHATEVER THE INPUT: true; the input reads as it did. -/
def movesOneSpec : ChangeSpec := { name := "movesOne", fn := fun _ => fun
  | [d1, d2, d3] => { results := [.lit (.bool true)], args := [d1, d2, d3] }
  | _ => none }
def movesOneRow : OpenClaim := { program := "ytldpejeodhkgdaadoor", sum := "e24a9e1b848aa0b35e914d62c72b6c810ebd1a5a663796353274fd634926de48", func := "kibitzer/kibitzerlaw11.MovesOne", spec := "movesOne", inPlace := ["internal/abi.NoEscape", "internal/bytealg.MakeNoZero"], unfollowed := true, recurses := true, named := ["unicode/utf8.first", "unicode/utf8.acceptRanges", "unicode.CaseRanges"], apart := false, laid := [("unicode/utf8.acceptRanges", laid_unicode_utf8_acceptRanges), ("unicode.CaseRanges", laid_unicode_CaseRanges), ("unicode/utf8.first", laid_unicode_utf8_first)] }
def MovesOneSaid : Prop := movesOneRow.holds Tryd.pinned (OpenSpec.ofChange movesOneSpec)

/-- ITS FALSE NEIGHBOUR: 'it returns false'. Refute it at one input. -/
def movesOneWrong : ChangeSpec := { name := "movesOne", fn := fun _ => fun
  | [d1, d2, d3] => { results := [.lit (.bool false)], args := [d1, d2, d3] }
  | _ => none }
def MovesOneWrongFalsely : Prop := movesOneRow.holds Tryd.pinned (OpenSpec.ofChange movesOneWrong)

/-- 'kibitzerlaw11.MovesPlain': WHATEVER THE INPUT: true; the input reads as it did. -/
def movesPlainSpec : ChangeSpec := { name := "movesPlain", fn := fun _ => fun
  | [d1, d2, d3, d4] => { results := [.lit (.bool true)], args := [d1, d2, d3, d4] }
  | _ => none }
def movesPlainRow : OpenClaim := { program := "ytldpejeodhkgdaadoor", sum := "e24a9e1b848aa0b35e914d62c72b6c810ebd1a5a663796353274fd634926de48", func := "kibitzer/kibitzerlaw11.MovesPlain", spec := "movesPlain", inPlace := ["internal/abi.NoEscape", "internal/bytealg.MakeNoZero"], unfollowed := true, recurses := true, named := ["unicode/utf8.first", "unicode/utf8.acceptRanges", "unicode.CaseRanges"], apart := false, laid := [("unicode/utf8.acceptRanges", laid_unicode_utf8_acceptRanges), ("unicode.CaseRanges", laid_unicode_CaseRanges), ("unicode/utf8.first", laid_unicode_utf8_first)] }
def MovesPlainSaid : Prop := movesPlainRow.holds Tryd.pinned (OpenSpec.ofChange movesPlainSpec)

/-- ITS FALSE NEIGHBOUR: 'it returns false'. Refute it at one input. -/
def movesPlainWrong : ChangeSpec := { name := "movesPlain", fn := fun _ => fun
  | [d1, d2, d3, d4] => { results := [.lit (.bool false)], args := [d1, d2, d3, d4] }
  | _ => none }
def MovesPlainWrongFalsely : Prop := movesPlainRow.holds Tryd.pinned (OpenSpec.ofChange movesPlainWrong)

/-- 'kibitzerlaw11.MovesDrops': WHATEVER THE INPUT: true; the input reads as it did. -/
def movesDropsSpec : ChangeSpec := { name := "movesDrops", fn := fun _ => fun
  | [d1, d2, d3, d4] => { results := [.lit (.bool true)], args := [d1, d2, d3, d4] }
  | _ => none }
def movesDropsRow : OpenClaim := { program := "ytldpejeodhkgdaadoor", sum := "e24a9e1b848aa0b35e914d62c72b6c810ebd1a5a663796353274fd634926de48", func := "kibitzer/kibitzerlaw11.MovesDrops", spec := "movesDrops", inPlace := ["internal/abi.NoEscape", "internal/bytealg.MakeNoZero"], unfollowed := true, recurses := true, named := ["unicode/utf8.first", "unicode/utf8.acceptRanges", "unicode.CaseRanges"], apart := false, laid := [("unicode/utf8.acceptRanges", laid_unicode_utf8_acceptRanges), ("unicode.CaseRanges", laid_unicode_CaseRanges), ("unicode/utf8.first", laid_unicode_utf8_first)] }
def MovesDropsSaid : Prop := movesDropsRow.holds Tryd.pinned (OpenSpec.ofChange movesDropsSpec)

/-- ITS FALSE NEIGHBOUR: 'it returns false'. Refute it at one input. -/
def movesDropsWrong : ChangeSpec := { name := "movesDrops", fn := fun _ => fun
  | [d1, d2, d3, d4] => { results := [.lit (.bool false)], args := [d1, d2, d3, d4] }
  | _ => none }
def MovesDropsWrongFalsely : Prop := movesDropsRow.holds Tryd.pinned (OpenSpec.ofChange movesDropsWrong)

/-- 'kibitzerlaw11.MovesArg': WHATEVER THE INPUT: true; the input reads as it did. -/
def movesArgSpec : ChangeSpec := { name := "movesArg", fn := fun _ => fun
  | [d1, d2, d3, d4, d5] => { results := [.lit (.bool true)], args := [d1, d2, d3, d4, d5] }
  | _ => none }
def movesArgRow : OpenClaim := { program := "ytldpejeodhkgdaadoor", sum := "e24a9e1b848aa0b35e914d62c72b6c810ebd1a5a663796353274fd634926de48", func := "kibitzer/kibitzerlaw11.MovesArg", spec := "movesArg", inPlace := ["internal/abi.NoEscape", "internal/bytealg.MakeNoZero"], unfollowed := true, recurses := true, named := ["unicode/utf8.first", "unicode/utf8.acceptRanges", "unicode.CaseRanges"], apart := false, laid := [("unicode/utf8.acceptRanges", laid_unicode_utf8_acceptRanges), ("unicode.CaseRanges", laid_unicode_CaseRanges), ("unicode/utf8.first", laid_unicode_utf8_first)] }
def MovesArgSaid : Prop := movesArgRow.holds Tryd.pinned (OpenSpec.ofChange movesArgSpec)

/-- ITS FALSE NEIGHBOUR: 'it returns false'. Refute it at one input. -/
def movesArgWrong : ChangeSpec := { name := "movesArg", fn := fun _ => fun
  | [d1, d2, d3, d4, d5] => { results := [.lit (.bool false)], args := [d1, d2, d3, d4, d5] }
  | _ => none }
def MovesArgWrongFalsely : Prop := movesArgRow.holds Tryd.pinned (OpenSpec.ofChange movesArgWrong)

/- THE SECOND FORM. 'bulk': how many values and letters a reading holds, each counted each time it is reached (what is shared counts as often as it is met; a slice's spare places count too). A statement '..UptoSaid' is the law's where the arguments, and the package variables that the reading takes, are together of bulk at most 1048576: NARROWER than '..Said'. Prove '..Said' where nothing that the law and all that it calls make is longer than what came in: it says more and counts as full. Else prove '..UptoSaid'. A law counts once. -/
mutual
def uptoBulk {H : Type} : DataW H → Nat
  | .lit (.string bytes) => bytes.length + 1
  | .lit _ => 1
  | .nil => 1
  | .ptr d => uptoBulk d + 1
  | .slice elems spare => uptoBulkAll elems + uptoBulkAll spare + 1
  | .agg parts => uptoBulkAll parts + 1
  | .iface _ d => uptoBulk d + 1
  | .map entries => uptoBulkEntries entries + 1
  | .held _ => 1
def uptoBulkAll {H : Type} : List (DataW H) → Nat
  | [] => 0
  | d :: r => uptoBulk d + uptoBulkAll r
def uptoBulkEntries {H : Type} : List (Lit × DataW H) → Nat
  | [] => 0
  | x :: r => uptoBulkEntry x + uptoBulkEntries r
def uptoBulkEntry {H : Type} : Lit × DataW H → Nat
  | (.string bytes, d) => bytes.length + uptoBulk d + 1
  | (_, d) => uptoBulk d + 1
 end
def uptoSmall : (H : Type) → List (DataW H) → Bool := fun _ ds => decide (uptoBulkAll ds ≤ 1048576)
def OpenSpec.upto (s : _root_.Go.ChangeSpec) : _root_.Go.OpenSpec := { _root_.Go.OpenSpec.ofChange s with cond := some uptoSmall }

/-- 'kibitzerlaw11.MovesText', WHERE WHAT IT READS IS OF BULK AT MOST 1048576: true; the input reads as it did. -/
def movesTextUptoRow : OpenClaim := { program := "ytldpejeodhkgdaadoor", sum := "e24a9e1b848aa0b35e914d62c72b6c810ebd1a5a663796353274fd634926de48", func := "kibitzer/kibitzerlaw11.MovesText", spec := "movesText", inPlace := ["internal/abi.NoEscape", "internal/bytealg.MakeNoZero"], unfollowed := true, recurses := true, named := ["unicode/utf8.first", "unicode/utf8.acceptRanges", "unicode.CaseRanges"], apart := false, laid := [("unicode/utf8.acceptRanges", laid_unicode_utf8_acceptRanges), ("unicode.CaseRanges", laid_unicode_CaseRanges), ("unicode/utf8.first", laid_unicode_utf8_first)], narrowed := true }
def MovesTextUptoSaid : Prop := movesTextUptoRow.holds Tryd.pinned (OpenSpec.upto movesTextSpec)

/-- 'kibitzerlaw11.MovesBack', WHERE WHAT IT READS IS OF BULK AT MOST 1048576: true; the input reads as it did. -/
def movesBackUptoRow : OpenClaim := { program := "ytldpejeodhkgdaadoor", sum := "e24a9e1b848aa0b35e914d62c72b6c810ebd1a5a663796353274fd634926de48", func := "kibitzer/kibitzerlaw11.MovesBack", spec := "movesBack", inPlace := ["internal/abi.NoEscape", "internal/bytealg.MakeNoZero"], unfollowed := true, recurses := true, named := ["unicode/utf8.first", "unicode/utf8.acceptRanges", "unicode.CaseRanges"], apart := false, laid := [("unicode/utf8.acceptRanges", laid_unicode_utf8_acceptRanges), ("unicode.CaseRanges", laid_unicode_CaseRanges), ("unicode/utf8.first", laid_unicode_utf8_first)], narrowed := true }
def MovesBackUptoSaid : Prop := movesBackUptoRow.holds Tryd.pinned (OpenSpec.upto movesBackSpec)

/-- 'kibitzerlaw11.MovesOne', WHERE WHAT IT READS IS OF BULK AT MOST 1048576: true; the input reads as it did. -/
def movesOneUptoRow : OpenClaim := { program := "ytldpejeodhkgdaadoor", sum := "e24a9e1b848aa0b35e914d62c72b6c810ebd1a5a663796353274fd634926de48", func := "kibitzer/kibitzerlaw11.MovesOne", spec := "movesOne", inPlace := ["internal/abi.NoEscape", "internal/bytealg.MakeNoZero"], unfollowed := true, recurses := true, named := ["unicode/utf8.first", "unicode/utf8.acceptRanges", "unicode.CaseRanges"], apart := false, laid := [("unicode/utf8.acceptRanges", laid_unicode_utf8_acceptRanges), ("unicode.CaseRanges", laid_unicode_CaseRanges), ("unicode/utf8.first", laid_unicode_utf8_first)], narrowed := true }
def MovesOneUptoSaid : Prop := movesOneUptoRow.holds Tryd.pinned (OpenSpec.upto movesOneSpec)

/-- 'kibitzerlaw11.MovesPlain', WHERE WHAT IT READS IS OF BULK AT MOST 1048576: true; the input reads as it did. -/
def movesPlainUptoRow : OpenClaim := { program := "ytldpejeodhkgdaadoor", sum := "e24a9e1b848aa0b35e914d62c72b6c810ebd1a5a663796353274fd634926de48", func := "kibitzer/kibitzerlaw11.MovesPlain", spec := "movesPlain", inPlace := ["internal/abi.NoEscape", "internal/bytealg.MakeNoZero"], unfollowed := true, recurses := true, named := ["unicode/utf8.first", "unicode/utf8.acceptRanges", "unicode.CaseRanges"], apart := false, laid := [("unicode/utf8.acceptRanges", laid_unicode_utf8_acceptRanges), ("unicode.CaseRanges", laid_unicode_CaseRanges), ("unicode/utf8.first", laid_unicode_utf8_first)], narrowed := true }
def MovesPlainUptoSaid : Prop := movesPlainUptoRow.holds Tryd.pinned (OpenSpec.upto movesPlainSpec)

/-- 'kibitzerlaw11.MovesDrops', WHERE WHAT IT READS IS OF BULK AT MOST 1048576: true; the input reads as it did. -/
def movesDropsUptoRow : OpenClaim := { program := "ytldpejeodhkgdaadoor", sum := "e24a9e1b848aa0b35e914d62c72b6c810ebd1a5a663796353274fd634926de48", func := "kibitzer/kibitzerlaw11.MovesDrops", spec := "movesDrops", inPlace := ["internal/abi.NoEscape", "internal/bytealg.MakeNoZero"], unfollowed := true, recurses := true, named := ["unicode/utf8.first", "unicode/utf8.acceptRanges", "unicode.CaseRanges"], apart := false, laid := [("unicode/utf8.acceptRanges", laid_unicode_utf8_acceptRanges), ("unicode.CaseRanges", laid_unicode_CaseRanges), ("unicode/utf8.first", laid_unicode_utf8_first)], narrowed := true }
def MovesDropsUptoSaid : Prop := movesDropsUptoRow.holds Tryd.pinned (OpenSpec.upto movesDropsSpec)

/-- 'kibitzerlaw11.MovesArg', WHERE WHAT IT READS IS OF BULK AT MOST 1048576: true; the input reads as it did. -/
def movesArgUptoRow : OpenClaim := { program := "ytldpejeodhkgdaadoor", sum := "e24a9e1b848aa0b35e914d62c72b6c810ebd1a5a663796353274fd634926de48", func := "kibitzer/kibitzerlaw11.MovesArg", spec := "movesArg", inPlace := ["internal/abi.NoEscape", "internal/bytealg.MakeNoZero"], unfollowed := true, recurses := true, named := ["unicode/utf8.first", "unicode/utf8.acceptRanges", "unicode.CaseRanges"], apart := false, laid := [("unicode/utf8.acceptRanges", laid_unicode_utf8_acceptRanges), ("unicode.CaseRanges", laid_unicode_CaseRanges), ("unicode/utf8.first", laid_unicode_utf8_first)], narrowed := true }
def MovesArgUptoSaid : Prop := movesArgUptoRow.holds Tryd.pinned (OpenSpec.upto movesArgSpec)

end Rows
end Go.Proofs.YtldpejeodhkgdaaDoor
