/- slices' sorting by insertion at moves: the library's contract over this program. -/
import Derived.Test.YtdcmjbebkmicaaaStabArr
import Derived.Test.YtdcmjbebkmicaaaMoves13
import Derived.Shelf.SlSortCmp.InsertionK
namespace Go.Proofs.Ytdcmjbebkmicaaa
open Go.Shelf Go.RowKit Go.Lib Go.Sort

/-- The numbers of this program. -/
def stRen : Ren := ⟨fun n => if n = 20 then 72 else n, fun n => if n = 22 then 40 else if n = 24 then 33 else if n = 25 then 64 else if n = 3 then 3 else if n = 4 then 4 else if n = 0 then 0 else n, fun n => n⟩
theorem Try.isAgg_mv : ∀ w, (isAgg 33).run Try.prog w = .ok true w := fun w => by kernel_rfl
theorem Try.sizeOf_mv : ∀ w, (Go.sizeOf 33).run Try.prog w = .ok 5 w := fun w => by kernel_rfl
theorem stLays : SlLaysF0.n20 Try.prog stRen where
  mixed := by kernel_rfl
  f20 := ⟨Try.f72.name, by kernel_rfl, by kernel_rfl⟩
  t0 := by kernel_rfl
  a0 := fun w => by kernel_rfl
  z0 := fun w => by kernel_rfl
  v0 := fun w => by kernel_rfl
  t3 := by kernel_rfl
  a3 := fun w => by kernel_rfl
  z3 := fun w => by kernel_rfl
  v3 := fun w => by kernel_rfl
  t4 := by kernel_rfl
  a4 := fun w => by kernel_rfl
  z4 := fun w => by kernel_rfl
  v4 := fun w => by kernel_rfl
  t22 := by kernel_rfl
  a22 := fun w => by kernel_rfl
  z22 := fun w => by kernel_rfl
  v22 := fun w => by kernel_rfl
  t25 := by kernel_rfl
  a25 := fun w => by kernel_rfl
  z25 := fun w => by kernel_rfl
  v25 := fun w => by kernel_rfl
theorem M.cell_len (x : Mv) : (M.cell x).length = 5 := rfl
theorem M.cell_one (x : Mv) : ∀ v ∈ M.cell x, v.oneCell' = true := by
  intro v hv
  simp [M.cell] at hv
  rcases hv with rfl | rfl | rfl | rfl | rfl <;> rfl

end Go.Proofs.Ytdcmjbebkmicaaa
