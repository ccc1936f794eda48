/-
  No cell of these rows narrows 'for every input' (looked for: loops, veiled, ifaces, maps, wideKeys, modest, calm, conditions, laid).
  DERIVED. THE GIVEN ROWS OF THIS SEAT. 7 by the template 'for every input the law returns true; each argument reads behind the call as it read before'; 0 by the template 'total and deterministic' (their statements: YtdcmjbebkmicaaaTotals.lean).
  GIVEN WITH THE SEED: the statements are not yours to turn. If you find one false, say at which input.
  Laid BY PROGRAM, IN A SANDBOX (cutbox-rows.mjs): the forced cells as the released guide's own fill.sh prints them over the translation 7d007d11332e48c7… (all of the seat's roots in one cut). By AI agents, Wed Nov 11 2026. No macro, syntax, notation, axiom, sorry.
-/
import Derived.Test.YtdcmjbebkmicaaaChecked
import GoSem.Claim
import GoSem.ClaimJoined
import GoSem.ClaimMapViews
import Derived.JoinedTies
import Derived.KernelRfl
namespace Go.Proofs.Ytdcmjbebkmicaaa
/- THE CELL 'sum', in the pinned program and in every row, IS THE sha256 OF THE DUMP (.gsa) THAT YtdcmjbebkmicaaaProg.lean LOADS. Nothing in Lean hashes anything: it is a label: what it is worth is what the hold of that sum in a sandbox is worth. -/
noncomputable def Try.pinned : Pinned := { name := "ytdcmjbebkmicaaa", sum := "7d007d11332e48c776ce6b36a9b22098b4519d1be6e46bc4c965a7e077f50585", checked := Try.checked }
namespace Rows
def none {H : Type} : Left H := { results := [], args := [] }

/-- 'kibitzerlaw11.MovesParse': WHATEVER THE INPUT: true; the input reads as it did. -/
def movesParseSpec : ChangeSpec := { name := "movesParse", fn := fun _ => fun
  | [d1, d2] => { results := [.lit (.bool true)], args := [d1, d2] }
  | _ => none }
def movesParseRow : OpenClaim := { program := "ytdcmjbebkmicaaa", sum := "7d007d11332e48c776ce6b36a9b22098b4519d1be6e46bc4c965a7e077f50585", func := "kibitzer/kibitzerlaw11.MovesParse", spec := "movesParse", unfollowed := true, recurses := true, apart := false }
def MovesParseSaid : Prop := movesParseRow.holds Try.pinned (OpenSpec.ofChange movesParseSpec)

/-- ITS FALSE NEIGHBOUR: 'it returns false'. Refute it at one input. -/
def movesParseWrong : ChangeSpec := { name := "movesParse", fn := fun _ => fun
  | [d1, d2] => { results := [.lit (.bool false)], args := [d1, d2] }
  | _ => none }
def MovesParseWrongFalsely : Prop := movesParseRow.holds Try.pinned (OpenSpec.ofChange movesParseWrong)

/-- 'kibitzerlaw27.OrderTakes': WHATEVER THE INPUT: true; the input reads as it did. -/
def orderTakesSpec : ChangeSpec := { name := "orderTakes", fn := fun _ => fun
  | [d1, d2] => { results := [.lit (.bool true)], args := [d1, d2] }
  | _ => none }
def orderTakesRow : OpenClaim := { program := "ytdcmjbebkmicaaa", sum := "7d007d11332e48c776ce6b36a9b22098b4519d1be6e46bc4c965a7e077f50585", func := "kibitzer/kibitzerlaw27.OrderTakes", spec := "orderTakes", unfollowed := true, recurses := true, apart := false }
def OrderTakesSaid : Prop := orderTakesRow.holds Try.pinned (OpenSpec.ofChange orderTakesSpec)

/-- ITS FALSE NEIGHBOUR: 'it returns false'. Refute it at one input. -/
def orderTakesWrong : ChangeSpec := { name := "orderTakes", fn := fun _ => fun
  | [d1, d2] => { results := [.lit (.bool false)], args := [d1, d2] }
  | _ => none }
def OrderTakesWrongFalsely : Prop := orderTakesRow.holds Try.pinned (OpenSpec.ofChange orderTakesWrong)

/-- 'kibitzerlaw27.OrderStays': WHATEVER THE INPUT: true; the input reads as it did. -/
def orderStaysSpec : ChangeSpec := { name := "orderStays", fn := fun _ => fun
  | [d1, d2] => { results := [.lit (.bool true)], args := [d1, d2] }
  | _ => none }
def orderStaysRow : OpenClaim := { program := "ytdcmjbebkmicaaa", sum := "7d007d11332e48c776ce6b36a9b22098b4519d1be6e46bc4c965a7e077f50585", func := "kibitzer/kibitzerlaw27.OrderStays", spec := "orderStays", unfollowed := true, recurses := true, apart := false }
def OrderStaysSaid : Prop := orderStaysRow.holds Try.pinned (OpenSpec.ofChange orderStaysSpec)

/-- ITS FALSE NEIGHBOUR: 'it returns false'. Refute it at one input. -/
def orderStaysWrong : ChangeSpec := { name := "orderStays", fn := fun _ => fun
  | [d1, d2] => { results := [.lit (.bool false)], args := [d1, d2] }
  | _ => none }
def OrderStaysWrongFalsely : Prop := orderStaysRow.holds Try.pinned (OpenSpec.ofChange orderStaysWrong)

/-- 'kibitzerlaw27.OrderNothing': WHATEVER THE INPUT: true; the input reads as it did. -/
def orderNothingSpec : ChangeSpec := { name := "orderNothing", fn := fun _ => fun
  | [d1, d2] => { results := [.lit (.bool true)], args := [d1, d2] }
  | _ => none }
def orderNothingRow : OpenClaim := { program := "ytdcmjbebkmicaaa", sum := "7d007d11332e48c776ce6b36a9b22098b4519d1be6e46bc4c965a7e077f50585", func := "kibitzer/kibitzerlaw27.OrderNothing", spec := "orderNothing", unfollowed := true, recurses := true, apart := false }
def OrderNothingSaid : Prop := orderNothingRow.holds Try.pinned (OpenSpec.ofChange orderNothingSpec)

/-- ITS FALSE NEIGHBOUR: 'it returns false'. Refute it at one input. -/
def orderNothingWrong : ChangeSpec := { name := "orderNothing", fn := fun _ => fun
  | [d1, d2] => { results := [.lit (.bool false)], args := [d1, d2] }
  | _ => none }
def OrderNothingWrongFalsely : Prop := orderNothingRow.holds Try.pinned (OpenSpec.ofChange orderNothingWrong)

/-- 'kibitzerlaw27.OrderSort': WHATEVER THE INPUT: true; the input reads as it did. -/
def orderSortSpec : ChangeSpec := { name := "orderSort", fn := fun _ => fun
  | [d1, d2, d3] => { results := [.lit (.bool true)], args := [d1, d2, d3] }
  | _ => none }
def orderSortRow : OpenClaim := { program := "ytdcmjbebkmicaaa", sum := "7d007d11332e48c776ce6b36a9b22098b4519d1be6e46bc4c965a7e077f50585", func := "kibitzer/kibitzerlaw27.OrderSort", spec := "orderSort", unfollowed := true, recurses := true, apart := false }
def OrderSortSaid : Prop := orderSortRow.holds Try.pinned (OpenSpec.ofChange orderSortSpec)

/-- ITS FALSE NEIGHBOUR: 'it returns false'. Refute it at one input. -/
def orderSortWrong : ChangeSpec := { name := "orderSort", fn := fun _ => fun
  | [d1, d2, d3] => { results := [.lit (.bool false)], args := [d1, d2, d3] }
  | _ => none }
def OrderSortWrongFalsely : Prop := orderSortRow.holds Try.pinned (OpenSpec.ofChange orderSortWrong)

/-- 'kibitzerlaw27.OrderSame': WHATEVER THE INPUT: true; the input reads as it did. -/
def orderSameSpec : ChangeSpec := { name := "orderSame", fn := fun _ => fun
  | [d1, d2, d3] => { results := [.lit (.bool true)], args := [d1, d2, d3] }
  | _ => none }
def orderSameRow : OpenClaim := { program := "ytdcmjbebkmicaaa", sum := "7d007d11332e48c776ce6b36a9b22098b4519d1be6e46bc4c965a7e077f50585", func := "kibitzer/kibitzerlaw27.OrderSame", spec := "orderSame", unfollowed := true, recurses := true, apart := false }
def OrderSameSaid : Prop := orderSameRow.holds Try.pinned (OpenSpec.ofChange orderSameSpec)

/-- ITS FALSE NEIGHBOUR: 'it returns false'. Refute it at one input. -/
def orderSameWrong : ChangeSpec := { name := "orderSame", fn := fun _ => fun
  | [d1, d2, d3] => { results := [.lit (.bool false)], args := [d1, d2, d3] }
  | _ => none }
def OrderSameWrongFalsely : Prop := orderSameRow.holds Try.pinned (OpenSpec.ofChange orderSameWrong)

/-- 'kibitzerlaw27.OrderFirst': WHATEVER THE INPUT: true; the input reads as it did. -/
def orderFirstSpec : ChangeSpec := { name := "orderFirst", fn := fun _ => fun
  | [d1, d2, d3] => { results := [.lit (.bool true)], args := [d1, d2, d3] }
  | _ => none }
def orderFirstRow : OpenClaim := { program := "ytdcmjbebkmicaaa", sum := "7d007d11332e48c776ce6b36a9b22098b4519d1be6e46bc4c965a7e077f50585", func := "kibitzer/kibitzerlaw27.OrderFirst", spec := "orderFirst", unfollowed := true, recurses := true, apart := false }
def OrderFirstSaid : Prop := orderFirstRow.holds Try.pinned (OpenSpec.ofChange orderFirstSpec)

/-- ITS FALSE NEIGHBOUR: 'it returns false'. Refute it at one input. -/
def orderFirstWrong : ChangeSpec := { name := "orderFirst", fn := fun _ => fun
  | [d1, d2, d3] => { results := [.lit (.bool false)], args := [d1, d2, d3] }
  | _ => none }
def OrderFirstWrongFalsely : Prop := orderFirstRow.holds Try.pinned (OpenSpec.ofChange orderFirstWrong)

/- THE SECOND FORM. 'bulk': how many values and letters a reading holds, each counted each time it is reached (what is shared counts as often as it is met; a slice's spare places count too). A statement '..UptoSaid' is the law's where the arguments, and the package variables that the reading takes, are together of bulk at most 1048576: NARROWER than '..Said'. Prove '..Said' where nothing that the law and all that it calls make is longer than what came in: it says more and counts as full. Else prove '..UptoSaid'. A law counts once. -/
mutual
def uptoBulk {H : Type} : DataW H → Nat
  | .lit (.string bytes) => bytes.length + 1
  | .lit _ => 1
  | .nil => 1
  | .ptr d => uptoBulk d + 1
  | .slice elems spare => uptoBulkAll elems + uptoBulkAll spare + 1
  | .agg parts => uptoBulkAll parts + 1
  | .iface _ d => uptoBulk d + 1
  | .map entries => uptoBulkEntries entries + 1
  | .held _ => 1
def uptoBulkAll {H : Type} : List (DataW H) → Nat
  | [] => 0
  | d :: r => uptoBulk d + uptoBulkAll r
def uptoBulkEntries {H : Type} : List (Lit × DataW H) → Nat
  | [] => 0
  | x :: r => uptoBulkEntry x + uptoBulkEntries r
def uptoBulkEntry {H : Type} : Lit × DataW H → Nat
  | (.string bytes, d) => bytes.length + uptoBulk d + 1
  | (_, d) => uptoBulk d + 1
 end
def uptoSmall : (H : Type) → List (DataW H) → Bool := fun _ ds => decide (uptoBulkAll ds ≤ 1048576)
def OpenSpec.upto (s : _root_.Go.ChangeSpec) : _root_.Go.OpenSpec := { _root_.Go.OpenSpec.ofChange s with cond := some uptoSmall }

/-- 'kibitzerlaw11.MovesParse', WHERE WHAT IT READS IS OF BULK AT MOST 1048576: true; the input reads as it did. -/
def movesParseUptoRow : OpenClaim := { program := "ytdcmjbebkmicaaa", sum := "7d007d11332e48c776ce6b36a9b22098b4519d1be6e46bc4c965a7e077f50585", func := "kibitzer/kibitzerlaw11.MovesParse", spec := "movesParse", unfollowed := true, recurses := true, apart := false, narrowed := true }
def MovesParseUptoSaid : Prop := movesParseUptoRow.holds Try.pinned (OpenSpec.upto movesParseSpec)

/-- 'kibitzerlaw27.OrderTakes', WHERE WHAT IT READS IS OF BULK AT MOST 1048576: true; the input reads as it did. -/
def orderTakesUptoRow : OpenClaim := { program := "ytdcmjbebkmicaaa", sum := "7d007d11332e48c776ce6b36a9b22098b4519d1be6e46bc4c965a7e077f50585", func := "kibitzer/kibitzerlaw27.OrderTakes", spec := "orderTakes", unfollowed := true, recurses := true, apart := false, narrowed := true }
def OrderTakesUptoSaid : Prop := orderTakesUptoRow.holds Try.pinned (OpenSpec.upto orderTakesSpec)

/-- 'kibitzerlaw27.OrderStays', WHERE WHAT IT READS IS OF BULK AT MOST 1048576: true; the input reads as it did. -/
def orderStaysUptoRow : OpenClaim := { program := "ytdcmjbebkmicaaa", sum := "7d007d11332e48c776ce6b36a9b22098b4519d1be6e46bc4c965a7e077f50585", func := "kibitzer/kibitzerlaw27.OrderStays", spec := "orderStays", unfollowed := true, recurses := true, apart := false, narrowed := true }
def OrderStaysUptoSaid : Prop := orderStaysUptoRow.holds Try.pinned (OpenSpec.upto orderStaysSpec)

/-- 'kibitzerlaw27.OrderNothing', WHERE WHAT IT READS IS OF BULK AT MOST 1048576: true; the input reads as it did. -/
def orderNothingUptoRow : OpenClaim := { program := "ytdcmjbebkmicaaa", sum := "7d007d11332e48c776ce6b36a9b22098b4519d1be6e46bc4c965a7e077f50585", func := "kibitzer/kibitzerlaw27.OrderNothing", spec := "orderNothing", unfollowed := true, recurses := true, apart := false, narrowed := true }
def OrderNothingUptoSaid : Prop := orderNothingUptoRow.holds Try.pinned (OpenSpec.upto orderNothingSpec)

/-- 'kibitzerlaw27.OrderSort', WHERE WHAT IT READS IS OF BULK AT MOST 1048576: true; the input reads as it did. -/
def orderSortUptoRow : OpenClaim := { program := "ytdcmjbebkmicaaa", sum := "7d007d11332e48c776ce6b36a9b22098b4519d1be6e46bc4c965a7e077f50585", func := "kibitzer/kibitzerlaw27.OrderSort", spec := "orderSort", unfollowed := true, recurses := true, apart := false, narrowed := true }
def OrderSortUptoSaid : Prop := orderSortUptoRow.holds Try.pinned (OpenSpec.upto orderSortSpec)

/-- 'kibitzerlaw27.OrderSame', WHERE WHAT IT READS IS OF BULK AT MOST 1048576: true; the input reads as it did. -/
def orderSameUptoRow : OpenClaim := { program := "ytdcmjbebkmicaaa", sum := "7d007d11332e48c776ce6b36a9b22098b4519d1be6e46bc4c965a7e077f50585", func := "kibitzer/kibitzerlaw27.OrderSame", spec := "orderSame", unfollowed := true, recurses := true, apart := false, narrowed := true }
def OrderSameUptoSaid : Prop := orderSameUptoRow.holds Try.pinned (OpenSpec.upto orderSameSpec)

/-- 'kibitzerlaw27.OrderFirst', WHERE WHAT IT READS IS OF BULK AT MOST 1048576: true; the input reads as it did. -/
def orderFirstUptoRow : OpenClaim := { program := "ytdcmjbebkmicaaa", sum := "7d007d11332e48c776ce6b36a9b22098b4519d1be6e46bc4c965a7e077f50585", func := "kibitzer/kibitzerlaw27.OrderFirst", spec := "orderFirst", unfollowed := true, recurses := true, apart := false, narrowed := true }
def OrderFirstUptoSaid : Prop := orderFirstUptoRow.holds Try.pinned (OpenSpec.upto orderFirstSpec)

end Rows
end Go.Proofs.Ytdcmjbebkmicaaa
