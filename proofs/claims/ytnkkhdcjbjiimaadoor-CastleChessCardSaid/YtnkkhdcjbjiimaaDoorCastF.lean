/- The program's package castle: may where there is no right. -/
import Derived.Test.YtnkkhdcjbjiimaaDoorCastE
namespace Go.Proofs.YtnkkhdcjbjiimaaDoor
open Go.RowKit Go.Sort
attribute [local go_sem] Oper.semAt_some

set_option maxRecDepth 100000 in
set_option maxHeartbeats 2000000 in
theorem cmay_out (c : Nat → Int) (d k : Nat) (r : Int) (w : World)
    (hr : ∀ W, Calls Tryd.prog 64 #[.agg (posC c), .int .i64 (k : Int), .int .i64 (d : Int)] W fun e w' => e = .returned (.tuple #[.int .i64 r, .bool false]) ∧ Below W.heap.size W w') :
    Calls Tryd.prog 40 #[.agg (posC c), .int .i64 (k : Int), .int .i64 (d : Int)] w fun e w' => e = .returned (.tuple #[.agg #[.int .i8 0, .int .i8 0, .int .u8 0, .int .u8 0, .bool false], .bool false]) ∧ Below w.heap.size w w' := by
  have hb0 : Below w.heap.size w ((w.alloc (.cells (posC c) 31)).alloc (.cells #[.int .i8 0, .int .i8 0, .int .u8 0, .int .u8 0, .bool false] 36)) := ((Below.refl _ _).alloc (Nat.le_refl _) _).alloc (by simp) _
  have hp := (PosAt.new w c).alloc (.cells #[.int .i8 0, .int .i8 0, .int .u8 0, .int .u8 0, .bool false] 36)
  have hM : RowAt ((w.alloc (.cells (posC c) 31)).alloc (.cells #[.int .i8 0, .int .i8 0, .int .u8 0, .int .u8 0, .bool false] 36)) (w.heap.size + 1) 36 #[.int .i8 0, .int .i8 0, .int .u8 0, .int .u8 0, .bool false] := by
    have := RowAt.new (w.alloc (.cells (posC c) 31)) #[.int .i8 0, .int .i8 0, .int .u8 0, .int .u8 0, .bool false] 36
    rwa [World.size_alloc] at this
  have R1 := Lib.hid hr
  clear hr
  go_enter Tryd.func40, Tryd.ntmps40
  go_wp2_with (first
    | ((with_reducible refine wp_load_box rfl _ rfl ?_); refine ⟨_, _, rfl, (by first | assumption | exact hp.alloc _), ?_⟩)
    | ((with_reducible refine wp_store_row' rfl _ _ _ rfl ?_); refine ⟨w.heap.size + 1, _, _, rfl, rfl, ⟨_, hM.heap, rfl⟩, Tryd.size_Move, T.move_one _ _ _ _ _, ?_⟩; intro V hV hMV; replace hb0 := hV.below hb0 (Nat.le_succ _))
    | (go_at_call 64; refine (R1.out _).mono ?_; rintro e u ⟨rfl, hb⟩; replace hp := hp.below hb; replace hM := hM.below hb; replace hb0 := below_next hb0 hb; clear hb))
  exact bodyPost_ret (v := .tuple #[.agg #[.int .i8 0, .int .i8 0, .int .u8 0, .int .u8 0, .bool false], .bool false]) (results_cell_tmp Tryd.results40 _ _ (w.heap.size + 1) 36 _ _ _ rfl rfl hMV Tryd.underlying36 rfl Tryd.size_Move) rfl ⟨rfl, hb0⟩

end Go.Proofs.YtnkkhdcjbjiimaaDoor
