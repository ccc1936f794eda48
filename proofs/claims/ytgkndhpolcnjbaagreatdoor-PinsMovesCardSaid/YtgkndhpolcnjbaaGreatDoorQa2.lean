/- Several texts in one: CastW, CastWl, Law14c. -/

import Derived.Test.YtgkndhpolcnjbaaGreatDoorQz
import Derived.Test.YtgkndhpolcnjbaaGreatDoorQw
import Derived.Test.YtgkndhpolcnjbaaGreatDoorQa1
import Derived.Test.YtgkndhpolcnjbaaGreatDoorQd
namespace Go.Proofs.YtgkndhpolcnjbaaGreatDoor
open Go.RowKit Go.Sort
attribute [local go_sem] Oper.semAt_some
namespace T
end T
end Go.Proofs.YtgkndhpolcnjbaaGreatDoor
namespace Go.Proofs.YtgkndhpolcnjbaaGreatDoor
open Go.RowKit Go.Sort
namespace T
end T
end Go.Proofs.YtgkndhpolcnjbaaGreatDoor
namespace Go.Proofs.YtgkndhpolcnjbaaGreatDoor
open Go.RowKit Go.Sort
namespace T
def toMv (x : Nat × Nat) : Mv := ((x.1 : Int), (x.2 : Int), 0, 0, true)
theorem cells_mv (l : List (Nat × Nat)) : cells l = M.cells (l.map toMv) := by
  unfold cells M.cells
  rw [List.flatMap_map]
  rfl
theorem End.row {l : List (Nat × Nat)} {w w' : World} {e : Ending} (h : End l w e w') : ∃ v, e = .returned v ∧ w'.ownsRow (w.heap.size + 1) 40 5 v (l.map toMv).length (M.cells (l.map toMv)) ∧ Below w.heap.size w w' := by
  obtain ⟨v, rfl, h1, h2⟩ := h
  exact ⟨v, rfl, by rw [List.length_map, ← cells_mv]; exact h1, h2⟩
end T
theorem clist_row (c : Nat → Int) (l : List Mv) (w : World) (hc : PosOk c) (hT : Tb w) (h : (T.clist c).map T.toMv = l) :
    Calls Tryz.prog 50 #[.agg (posC c)] w fun e w' => ∃ v, e = .returned v ∧ w'.ownsRow (w.heap.size + 1) 40 5 v l.length (M.cells l) ∧ Below w.heap.size w w' := by
  rw [← h]; exact (clist_any c w hc hT).mono fun e w' hh => T.End.row hh
end Go.Proofs.YtgkndhpolcnjbaaGreatDoor
