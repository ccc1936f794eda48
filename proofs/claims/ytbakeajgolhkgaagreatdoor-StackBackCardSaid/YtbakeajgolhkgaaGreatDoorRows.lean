/-
  NARROWER THAN 'FOR EVERY INPUT', by the rows' own cells (each row's printed sentence says how): TopBack: laid · TopSearch: laid · StackPlays: laid · StackRefused: laid · StackRound: laid · StackBack: laid · StackKeys: laid.
  DERIVED. THE GIVEN ROWS OF THIS SEAT. 7 by the template 'for every input the law returns true; each argument reads behind the call as it read before'; 0 by the template 'total and deterministic' (their statements: YtbakeajgolhkgaaGreatDoorTotals.lean).
  GIVEN WITH THE SEED: the statements are not yours to turn. If you find one false, say at which input.
  Laid BY PROGRAM, IN A SANDBOX (cutbox-rows.mjs): the forced cells as the released guide's own fill.sh prints them over the translation 950fb79805941583… (all of the seat's roots in one cut). By AI agents, Wed Nov 11 2026. No macro, syntax, notation, axiom, sorry.
-/
import Derived.Test.YtbakeajgolhkgaaGreatDoorChecked
import GoSem.Claim
import GoSem.ClaimJoined
import GoSem.ClaimMapViews
import Derived.JoinedTies
import Derived.KernelRfl
namespace Go.Proofs.YtbakeajgolhkgaaGreatDoor
/- THE CELL 'sum', in the pinned program and in every row, IS THE sha256 OF THE DUMP (.gsa) THAT YtbakeajgolhkgaaGreatDoorProg.lean LOADS. Nothing in Lean hashes anything: it is a label: what it is worth is what the hold of that sum in a sandbox is worth. -/
noncomputable def Tryz.pinned : Pinned := { name := "ytbakeajgolhkgaagreatdoor", sum := "950fb7980594158399c0986d3704fd4b2fa7309bfaf16ab56f085eb6864a9bd5", checked := Tryz.checked }
namespace Rows
def none {H : Type} : Left H := { results := [], args := [] }

/- WHAT THE LISTED PACKAGE-LEVEL VARIABLES READ AS WHEN THE CALL BEGINS. Each datum BY PROGRAM (the guide's laid-datum.mjs) off the statement by which the dump's own 'gosem.cut.vars' lays the variable. In a bare row this is a premise. The card (YtbakeajgolhkgaaGreatDoorCards.lean) ties it to the program's text. -/
def laid_math_bits_deBruijn64tab {H : Type} : DataW H := .agg [.lit (.int .u8 0), .lit (.int .u8 1), .lit (.int .u8 56), .lit (.int .u8 2), .lit (.int .u8 57), .lit (.int .u8 49), .lit (.int .u8 28), .lit (.int .u8 3), .lit (.int .u8 61), .lit (.int .u8 58), .lit (.int .u8 42), .lit (.int .u8 50), .lit (.int .u8 38), .lit (.int .u8 29), .lit (.int .u8 17), .lit (.int .u8 4), .lit (.int .u8 62), .lit (.int .u8 47), .lit (.int .u8 59), .lit (.int .u8 36), .lit (.int .u8 45), .lit (.int .u8 43), .lit (.int .u8 51), .lit (.int .u8 22), .lit (.int .u8 53), .lit (.int .u8 39), .lit (.int .u8 33), .lit (.int .u8 30), .lit (.int .u8 24), .lit (.int .u8 18), .lit (.int .u8 12), .lit (.int .u8 5), .lit (.int .u8 63), .lit (.int .u8 55), .lit (.int .u8 48), .lit (.int .u8 27), .lit (.int .u8 60), .lit (.int .u8 41), .lit (.int .u8 37), .lit (.int .u8 16), .lit (.int .u8 46), .lit (.int .u8 35), .lit (.int .u8 44), .lit (.int .u8 21), .lit (.int .u8 52), .lit (.int .u8 32), .lit (.int .u8 23), .lit (.int .u8 11), .lit (.int .u8 54), .lit (.int .u8 26), .lit (.int .u8 40), .lit (.int .u8 15), .lit (.int .u8 34), .lit (.int .u8 20), .lit (.int .u8 31), .lit (.int .u8 10), .lit (.int .u8 25), .lit (.int .u8 14), .lit (.int .u8 19), .lit (.int .u8 9), .lit (.int .u8 13), .lit (.int .u8 8), .lit (.int .u8 7), .lit (.int .u8 6)]

/-- 'kibitzertop.TopBack': WHATEVER THE INPUT: true; the input reads as it did. -/
def topBackSpec : ChangeSpec := { name := "topBack", fn := fun _ => fun
  | [d1, d2] => { results := [.lit (.bool true)], args := [d1, d2] }
  | _ => none }
def topBackRow : OpenClaim := { program := "ytbakeajgolhkgaagreatdoor", sum := "950fb7980594158399c0986d3704fd4b2fa7309bfaf16ab56f085eb6864a9bd5", func := "kibitzer/kibitzertop.TopBack", spec := "topBack", unfollowed := true, recurses := true, named := ["math/bits.deBruijn64tab"], apart := false, laid := [("math/bits.deBruijn64tab", laid_math_bits_deBruijn64tab)] }
def TopBackSaid : Prop := topBackRow.holds Tryz.pinned (OpenSpec.ofChange topBackSpec)

/-- ITS FALSE NEIGHBOUR: 'it returns false'. Refute it at one input. -/
def topBackWrong : ChangeSpec := { name := "topBack", fn := fun _ => fun
  | [d1, d2] => { results := [.lit (.bool false)], args := [d1, d2] }
  | _ => none }
def TopBackWrongFalsely : Prop := topBackRow.holds Tryz.pinned (OpenSpec.ofChange topBackWrong)

/-- 'kibitzertop.TopSearch': WHATEVER THE INPUT: true; the input reads as it did. -/
def topSearchSpec : ChangeSpec := { name := "topSearch", fn := fun _ => fun
  | [d1, d2, d3, d4] => { results := [.lit (.bool true)], args := [d1, d2, d3, d4] }
  | _ => none }
def topSearchRow : OpenClaim := { program := "ytbakeajgolhkgaagreatdoor", sum := "950fb7980594158399c0986d3704fd4b2fa7309bfaf16ab56f085eb6864a9bd5", func := "kibitzer/kibitzertop.TopSearch", spec := "topSearch", unfollowed := true, recurses := true, named := ["math/bits.deBruijn64tab"], apart := false, laid := [("math/bits.deBruijn64tab", laid_math_bits_deBruijn64tab)] }
def TopSearchSaid : Prop := topSearchRow.holds Tryz.pinned (OpenSpec.ofChange topSearchSpec)

/-- ITS FALSE NEIGHBOUR: 'it returns false'. Refute it at one input. -/
def topSearchWrong : ChangeSpec := { name := "topSearch", fn := fun _ => fun
  | [d1, d2, d3, d4] => { results := [.lit (.bool false)], args := [d1, d2, d3, d4] }
  | _ => none }
def TopSearchWrongFalsely : Prop := topSearchRow.holds Tryz.pinned (OpenSpec.ofChange topSearchWrong)

/-- 'kibitzerlaw20.StackPlays': WHATEVER THE INPUT: true; the input reads as it did. -/
def stackPlaysSpec : ChangeSpec := { name := "stackPlays", fn := fun _ => fun
  | [d1, d2] => { results := [.lit (.bool true)], args := [d1, d2] }
  | _ => none }
def stackPlaysRow : OpenClaim := { program := "ytbakeajgolhkgaagreatdoor", sum := "950fb7980594158399c0986d3704fd4b2fa7309bfaf16ab56f085eb6864a9bd5", func := "kibitzer/kibitzerlaw20.StackPlays", spec := "stackPlays", unfollowed := true, recurses := true, named := ["math/bits.deBruijn64tab"], apart := false, laid := [("math/bits.deBruijn64tab", laid_math_bits_deBruijn64tab)] }
def StackPlaysSaid : Prop := stackPlaysRow.holds Tryz.pinned (OpenSpec.ofChange stackPlaysSpec)

/-- ITS FALSE NEIGHBOUR: 'it returns false'. Refute it at one input. -/
def stackPlaysWrong : ChangeSpec := { name := "stackPlays", fn := fun _ => fun
  | [d1, d2] => { results := [.lit (.bool false)], args := [d1, d2] }
  | _ => none }
def StackPlaysWrongFalsely : Prop := stackPlaysRow.holds Tryz.pinned (OpenSpec.ofChange stackPlaysWrong)

/-- 'kibitzerlaw20.StackRefused': WHATEVER THE INPUT: true; the input reads as it did. -/
def stackRefusedSpec : ChangeSpec := { name := "stackRefused", fn := fun _ => fun
  | [d1, d2, d3] => { results := [.lit (.bool true)], args := [d1, d2, d3] }
  | _ => none }
def stackRefusedRow : OpenClaim := { program := "ytbakeajgolhkgaagreatdoor", sum := "950fb7980594158399c0986d3704fd4b2fa7309bfaf16ab56f085eb6864a9bd5", func := "kibitzer/kibitzerlaw20.StackRefused", spec := "stackRefused", unfollowed := true, recurses := true, named := ["math/bits.deBruijn64tab"], apart := false, laid := [("math/bits.deBruijn64tab", laid_math_bits_deBruijn64tab)] }
def StackRefusedSaid : Prop := stackRefusedRow.holds Tryz.pinned (OpenSpec.ofChange stackRefusedSpec)

/-- ITS FALSE NEIGHBOUR: 'it returns false'. Refute it at one input. -/
def stackRefusedWrong : ChangeSpec := { name := "stackRefused", fn := fun _ => fun
  | [d1, d2, d3] => { results := [.lit (.bool false)], args := [d1, d2, d3] }
  | _ => none }
def StackRefusedWrongFalsely : Prop := stackRefusedRow.holds Tryz.pinned (OpenSpec.ofChange stackRefusedWrong)

/-- 'kibitzerlaw20.StackRound': WHATEVER THE INPUT: true; the input reads as it did. -/
def stackRoundSpec : ChangeSpec := { name := "stackRound", fn := fun _ => fun
  | [d1, d2, d3] => { results := [.lit (.bool true)], args := [d1, d2, d3] }
  | _ => none }
def stackRoundRow : OpenClaim := { program := "ytbakeajgolhkgaagreatdoor", sum := "950fb7980594158399c0986d3704fd4b2fa7309bfaf16ab56f085eb6864a9bd5", func := "kibitzer/kibitzerlaw20.StackRound", spec := "stackRound", unfollowed := true, recurses := true, named := ["math/bits.deBruijn64tab"], apart := false, laid := [("math/bits.deBruijn64tab", laid_math_bits_deBruijn64tab)] }
def StackRoundSaid : Prop := stackRoundRow.holds Tryz.pinned (OpenSpec.ofChange stackRoundSpec)

/-- ITS FALSE NEIGHBOUR: 'it returns false'. Refute it at one input. -/
def stackRoundWrong : ChangeSpec := { name := "stackRound", fn := fun _ => fun
  | [d1, d2, d3] => { results := [.lit (.bool false)], args := [d1, d2, d3] }
  | _ => none }
def StackRoundWrongFalsely : Prop := stackRoundRow.holds Tryz.pinned (OpenSpec.ofChange stackRoundWrong)

/-- 'kibitzerlaw20.StackBack': WHATEVER THE INPUT: true; the input reads as it did. -/
def stackBackSpec : ChangeSpec := { name := "stackBack", fn := fun _ => fun
  | [d1, d2, d3] => { results := [.lit (.bool true)], args := [d1, d2, d3] }
  | _ => none }
def stackBackRow : OpenClaim := { program := "ytbakeajgolhkgaagreatdoor", sum := "950fb7980594158399c0986d3704fd4b2fa7309bfaf16ab56f085eb6864a9bd5", func := "kibitzer/kibitzerlaw20.StackBack", spec := "stackBack", unfollowed := true, recurses := true, named := ["math/bits.deBruijn64tab"], apart := false, laid := [("math/bits.deBruijn64tab", laid_math_bits_deBruijn64tab)] }
def StackBackSaid : Prop := stackBackRow.holds Tryz.pinned (OpenSpec.ofChange stackBackSpec)

/-- ITS FALSE NEIGHBOUR: 'it returns false'. Refute it at one input. -/
def stackBackWrong : ChangeSpec := { name := "stackBack", fn := fun _ => fun
  | [d1, d2, d3] => { results := [.lit (.bool false)], args := [d1, d2, d3] }
  | _ => none }
def StackBackWrongFalsely : Prop := stackBackRow.holds Tryz.pinned (OpenSpec.ofChange stackBackWrong)

/-- 'kibitzerlaw20.StackKeys': WHATEVER THE INPUT: true; the input reads as it did. -/
def stackKeysSpec : ChangeSpec := { name := "stackKeys", fn := fun _ => fun
  | [d1, d2] => { results := [.lit (.bool true)], args := [d1, d2] }
  | _ => none }
def stackKeysRow : OpenClaim := { program := "ytbakeajgolhkgaagreatdoor", sum := "950fb7980594158399c0986d3704fd4b2fa7309bfaf16ab56f085eb6864a9bd5", func := "kibitzer/kibitzerlaw20.StackKeys", spec := "stackKeys", unfollowed := true, recurses := true, named := ["math/bits.deBruijn64tab"], apart := false, laid := [("math/bits.deBruijn64tab", laid_math_bits_deBruijn64tab)] }
def StackKeysSaid : Prop := stackKeysRow.holds Tryz.pinned (OpenSpec.ofChange stackKeysSpec)

/-- ITS FALSE NEIGHBOUR: 'it returns false'. Refute it at one input. -/
def stackKeysWrong : ChangeSpec := { name := "stackKeys", fn := fun _ => fun
  | [d1, d2] => { results := [.lit (.bool false)], args := [d1, d2] }
  | _ => none }
def StackKeysWrongFalsely : Prop := stackKeysRow.holds Tryz.pinned (OpenSpec.ofChange stackKeysWrong)

/- THE SECOND FORM. 'bulk': how many values and letters a reading holds, each counted each time it is reached (what is shared counts as often as it is met; a slice's spare places count too). A statement '..UptoSaid' is the law's where the arguments, and the package variables that the reading takes, are together of bulk at most 1048576: NARROWER than '..Said'. Prove '..Said' where nothing that the law and all that it calls make is longer than what came in: it says more and counts as full. Else prove '..UptoSaid'. A law counts once. -/
mutual
def uptoBulk {H : Type} : DataW H → Nat
  | .lit (.string bytes) => bytes.length + 1
  | .lit _ => 1
  | .nil => 1
  | .ptr d => uptoBulk d + 1
  | .slice elems spare => uptoBulkAll elems + uptoBulkAll spare + 1
  | .agg parts => uptoBulkAll parts + 1
  | .iface _ d => uptoBulk d + 1
  | .map entries => uptoBulkEntries entries + 1
  | .held _ => 1
def uptoBulkAll {H : Type} : List (DataW H) → Nat
  | [] => 0
  | d :: r => uptoBulk d + uptoBulkAll r
def uptoBulkEntries {H : Type} : List (Lit × DataW H) → Nat
  | [] => 0
  | x :: r => uptoBulkEntry x + uptoBulkEntries r
def uptoBulkEntry {H : Type} : Lit × DataW H → Nat
  | (.string bytes, d) => bytes.length + uptoBulk d + 1
  | (_, d) => uptoBulk d + 1
 end
def uptoSmall : (H : Type) → List (DataW H) → Bool := fun _ ds => decide (uptoBulkAll ds ≤ 1048576)
def OpenSpec.upto (s : _root_.Go.ChangeSpec) : _root_.Go.OpenSpec := { _root_.Go.OpenSpec.ofChange s with cond := some uptoSmall }

/-- 'kibitzertop.TopBack', WHERE WHAT IT READS IS OF BULK AT MOST 1048576: true; the input reads as it did. -/
def topBackUptoRow : OpenClaim := { program := "ytbakeajgolhkgaagreatdoor", sum := "950fb7980594158399c0986d3704fd4b2fa7309bfaf16ab56f085eb6864a9bd5", func := "kibitzer/kibitzertop.TopBack", spec := "topBack", unfollowed := true, recurses := true, named := ["math/bits.deBruijn64tab"], apart := false, laid := [("math/bits.deBruijn64tab", laid_math_bits_deBruijn64tab)], narrowed := true }
def TopBackUptoSaid : Prop := topBackUptoRow.holds Tryz.pinned (OpenSpec.upto topBackSpec)

/-- 'kibitzertop.TopSearch', WHERE WHAT IT READS IS OF BULK AT MOST 1048576: true; the input reads as it did. -/
def topSearchUptoRow : OpenClaim := { program := "ytbakeajgolhkgaagreatdoor", sum := "950fb7980594158399c0986d3704fd4b2fa7309bfaf16ab56f085eb6864a9bd5", func := "kibitzer/kibitzertop.TopSearch", spec := "topSearch", unfollowed := true, recurses := true, named := ["math/bits.deBruijn64tab"], apart := false, laid := [("math/bits.deBruijn64tab", laid_math_bits_deBruijn64tab)], narrowed := true }
def TopSearchUptoSaid : Prop := topSearchUptoRow.holds Tryz.pinned (OpenSpec.upto topSearchSpec)

/-- 'kibitzerlaw20.StackPlays', WHERE WHAT IT READS IS OF BULK AT MOST 1048576: true; the input reads as it did. -/
def stackPlaysUptoRow : OpenClaim := { program := "ytbakeajgolhkgaagreatdoor", sum := "950fb7980594158399c0986d3704fd4b2fa7309bfaf16ab56f085eb6864a9bd5", func := "kibitzer/kibitzerlaw20.StackPlays", spec := "stackPlays", unfollowed := true, recurses := true, named := ["math/bits.deBruijn64tab"], apart := false, laid := [("math/bits.deBruijn64tab", laid_math_bits_deBruijn64tab)], narrowed := true }
def StackPlaysUptoSaid : Prop := stackPlaysUptoRow.holds Tryz.pinned (OpenSpec.upto stackPlaysSpec)

/-- 'kibitzerlaw20.StackRefused', WHERE WHAT IT READS IS OF BULK AT MOST 1048576: true; the input reads as it did. -/
def stackRefusedUptoRow : OpenClaim := { program := "ytbakeajgolhkgaagreatdoor", sum := "950fb7980594158399c0986d3704fd4b2fa7309bfaf16ab56f085eb6864a9bd5", func := "kibitzer/kibitzerlaw20.StackRefused", spec := "stackRefused", unfollowed := true, recurses := true, named := ["math/bits.deBruijn64tab"], apart := false, laid := [("math/bits.deBruijn64tab", laid_math_bits_deBruijn64tab)], narrowed := true }
def StackRefusedUptoSaid : Prop := stackRefusedUptoRow.holds Tryz.pinned (OpenSpec.upto stackRefusedSpec)

/-- 'kibitzerlaw20.StackRound', WHERE WHAT IT READS IS OF BULK AT MOST 1048576: true; the input reads as it did. -/
def stackRoundUptoRow : OpenClaim := { program := "ytbakeajgolhkgaagreatdoor", sum := "950fb7980594158399c0986d3704fd4b2fa7309bfaf16ab56f085eb6864a9bd5", func := "kibitzer/kibitzerlaw20.StackRound", spec := "stackRound", unfollowed := true, recurses := true, named := ["math/bits.deBruijn64tab"], apart := false, laid := [("math/bits.deBruijn64tab", laid_math_bits_deBruijn64tab)], narrowed := true }
def StackRoundUptoSaid : Prop := stackRoundUptoRow.holds Tryz.pinned (OpenSpec.upto stackRoundSpec)

/-- 'kibitzerlaw20.StackBack', WHERE WHAT IT READS IS OF BULK AT MOST 1048576: true; the input reads as it did. -/
def stackBackUptoRow : OpenClaim := { program := "ytbakeajgolhkgaagreatdoor", sum := "950fb7980594158399c0986d3704fd4b2fa7309bfaf16ab56f085eb6864a9bd5", func := "kibitzer/kibitzerlaw20.StackBack", spec := "stackBack", unfollowed := true, recurses := true, named := ["math/bits.deBruijn64tab"], apart := false, laid := [("math/bits.deBruijn64tab", laid_math_bits_deBruijn64tab)], narrowed := true }
def StackBackUptoSaid : Prop := stackBackUptoRow.holds Tryz.pinned (OpenSpec.upto stackBackSpec)

/-- 'kibitzerlaw20.StackKeys', WHERE WHAT IT READS IS OF BULK AT MOST 1048576: true; the input reads as it did. -/
def stackKeysUptoRow : OpenClaim := { program := "ytbakeajgolhkgaagreatdoor", sum := "950fb7980594158399c0986d3704fd4b2fa7309bfaf16ab56f085eb6864a9bd5", func := "kibitzer/kibitzerlaw20.StackKeys", spec := "stackKeys", unfollowed := true, recurses := true, named := ["math/bits.deBruijn64tab"], apart := false, laid := [("math/bits.deBruijn64tab", laid_math_bits_deBruijn64tab)], narrowed := true }
def StackKeysUptoSaid : Prop := stackKeysUptoRow.holds Tryz.pinned (OpenSpec.upto stackKeysSpec)

end Rows
end Go.Proofs.YtbakeajgolhkgaaGreatDoor
