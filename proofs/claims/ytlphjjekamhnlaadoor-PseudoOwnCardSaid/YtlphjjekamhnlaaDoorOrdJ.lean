/- slices.Grow, slices.Concat at moves. -/
import Derived.Test.YtlphjjekamhnlaaDoorMoves13
import Derived.Laws.AppendOwnNone
namespace Go.Proofs.YtlphjjekamhnlaaDoor
open Go.RowKit Go.Sort Go.Lib

theorem Tryd.info_MoveO : (Tryd.prog.info? 36).map (fun i => (i.zero, i.size, i.bytes)) = some (some (.agg #[.int .i8 0, .int .i8 0, .int .u8 0, .int .u8 0, .bool false]), 5, 5) := by kernel_rfl
theorem Tryd.bytes_move : Tryd.t36.bytes = 5 := by kernel_rfl
/-- What Grow lays. -/
theorem grow_owns (w : World) (n : Nat) (hn : n ≤ 100000) : ((w.alloc (.cells (Builtin.zeroCells #[.int .i8 0, .int .i8 0, .int .u8 0, .int .u8 0, .bool false] n ++ Builtin.zeroCells #[.int .i8 0, .int .i8 0, .int .u8 0, .int .u8 0, .bool false] (grownCap w n 0 36 - n)) 36)).drew).ownsRow w.heap.size 36 5 (.slice (some ⟨w.heap.size, 0, none⟩) 0 (grownCap w n 0 36)) 0 [] := by
  have h1 := grownCap_ge w n 0 36
  have h2 := grownCap_le_maxLen w n 0 36 (by unfold maxLen; omega)
  refine ⟨rfl, .inr ⟨_, _, _, rfl, Nat.le_refl _, heap_alloc_new w _, Nat.zero_le _, h2, ?_, rfl⟩⟩
  rw [Array.size_append, size_zeroCells, size_zeroCells]
  show n * 5 + (grownCap w n 0 _ - n) * 5 = _
  rw [← Nat.add_mul]
  congr 1
  omega

end Go.Proofs.YtlphjjekamhnlaaDoor
