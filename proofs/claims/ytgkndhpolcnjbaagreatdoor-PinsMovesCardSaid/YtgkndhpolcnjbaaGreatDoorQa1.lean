/- Several texts in one: CastX, CastY, CastZ. -/

import Derived.Test.YtgkndhpolcnjbaaGreatDoorQz
namespace Go.Proofs.YtgkndhpolcnjbaaGreatDoor
open Go.RowKit Go.Sort
end Go.Proofs.YtgkndhpolcnjbaaGreatDoor
namespace Go.Proofs.YtgkndhpolcnjbaaGreatDoor
open Go.RowKit Go.Sort
/-- A whole castling stands at its place. -/
def T.MovAt (w : World) (b off : Nat) (x : Nat × Nat) : Prop := w.rangeAt b off [.int .i8 (x.1 : Int), .int .i8 (x.2 : Int), .int .u8 0, .int .u8 0, .bool true]
theorem T.cells_at (l : List (Nat × Nat)) (i : Nat) (x : Nat × Nat) (h : l[i]? = some x) (j : Nat) (v : Value) (hv : (movL x)[j]? = some v) : (cells l)[i * 5 + j]? = some v := by
  induction l generalizing i with
  | nil => cases h
  | cons a l ih =>
    unfold cells
    rw [List.flatMap_cons]
    cases i with
    | zero =>
      simp at h
      subst h
      have : j < (movL a).length := (List.getElem?_eq_some_iff.1 hv).1
      rw [List.getElem?_append_left (by omega), Nat.zero_mul, Nat.zero_add, hv]
    | succ i =>
      rw [List.getElem?_append_right (by simp [movL]; omega), show (i + 1) * 5 + j - (movL a).length = i * 5 + j by simp [movL]; omega]
      exact ih i (by simpa using h)
theorem T.MovAt.below {w w' : World} {b off : Nat} {x : Nat × Nat} (h : MovAt w b off x) (hb : Below w.heap.size w w') : MovAt w' b off x := fun j v hv => by
  have := h j v hv
  exact (hb.cell (p := ⟨b, off + j, none⟩) (World.block_lt_of_cell? w _ this)).trans this
theorem T.MovAt.five {w : World} {b off : Nat} {x : Nat × Nat} (h : MovAt w b off x) : w.cell? ⟨b, off, none⟩ = some (.int .i8 (x.1 : Int)) ∧ w.cell? ⟨b, off + 1, none⟩ = some (.int .i8 (x.2 : Int)) ∧ w.cell? ⟨b, off + 2, none⟩ = some (.int .u8 0) ∧ w.cell? ⟨b, off + 3, none⟩ = some (.int .u8 0) ∧ w.cell? ⟨b, off + 4, none⟩ = some (.bool true) :=
  ⟨h 0 _ rfl, h 1 _ rfl, h 2 _ rfl, h 3 _ rfl, h 4 _ rfl⟩
end Go.Proofs.YtgkndhpolcnjbaaGreatDoor
namespace Go.Proofs.YtgkndhpolcnjbaaGreatDoor
open Go.RowKit Go.Sort
namespace T
end T
end Go.Proofs.YtgkndhpolcnjbaaGreatDoor
