/- slices.Grow, slices.Concat at moves. -/
import Derived.Test.YtdcmjbebkmicaaaMoves13
import Derived.Laws.AppendOwnNone
namespace Go.Proofs.Ytdcmjbebkmicaaa
open Go.RowKit Go.Sort Go.Lib

theorem Try.info_MoveO : (Try.prog.info? 33).map (fun i => (i.zero, i.size, i.bytes)) = some (some (.agg #[.int .i8 0, .int .i8 0, .int .u8 0, .int .u8 0, .bool false]), 5, 5) := by kernel_rfl
theorem Try.bytes_move : Try.t33.bytes = 5 := by kernel_rfl
/-- What Grow lays. -/
theorem grow_owns (w : World) (n : Nat) (hn : n ≤ 100000) : ((w.alloc (.cells (Builtin.zeroCells #[.int .i8 0, .int .i8 0, .int .u8 0, .int .u8 0, .bool false] n ++ Builtin.zeroCells #[.int .i8 0, .int .i8 0, .int .u8 0, .int .u8 0, .bool false] (grownCap w n 0 33 - n)) 33)).drew).ownsRow w.heap.size 33 5 (.slice (some ⟨w.heap.size, 0, none⟩) 0 (grownCap w n 0 33)) 0 [] := by
  have h1 := grownCap_ge w n 0 33
  have h2 := grownCap_le_maxLen w n 0 33 (by unfold maxLen; omega)
  refine ⟨rfl, .inr ⟨_, _, _, rfl, Nat.le_refl _, heap_alloc_new w _, Nat.zero_le _, h2, ?_, rfl⟩⟩
  rw [Array.size_append, size_zeroCells, size_zeroCells]
  show n * 5 + (grownCap w n 0 _ - n) * 5 = _
  rw [← Nat.add_mul]
  congr 1
  omega

set_option maxRecDepth 100000 in
set_option maxHeartbeats 1000000 in
theorem grow_any (n : Nat) (w : World) (hn : n ≤ 100000) : Calls Try.prog 71 #[.slice none 0 0, .int .i64 (n : Int)] w fun e w' => ∃ v, e = .returned v ∧ w'.ownsRow w.heap.size 33 5 v 0 [] ∧ Below w.heap.size w w' := by
  by_cases h : n = 0
  · subst h
    go_enter Try.func71, Try.ntmps71
    go_wp2
    go_ret
    exact ⟨_, rfl, ⟨rfl, .inl ⟨rfl, rfl⟩⟩, Below.refl _ _⟩
  · have h0 : (0 : Int) < (n : Int) := by omega
    have hB := Try.bytes_move
    have hC : Builtin.nextslicecap n 0 = n := by unfold Builtin.nextslicecap; rw [if_pos (by omega)]
    have hO := Lib.hid (grow_owns w n hn)
    go_enter Try.func71, Try.ntmps71
    go_wp2
    go_ret
    exact ⟨_, rfl, hO.out, ((Below.refl _ _).alloc (Nat.le_refl _) _).drew⟩

end Go.Proofs.Ytdcmjbebkmicaaa
