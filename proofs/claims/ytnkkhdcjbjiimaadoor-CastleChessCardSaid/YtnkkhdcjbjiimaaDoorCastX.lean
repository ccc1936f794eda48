/- The laws of layer 14: first, with. -/
import Derived.Test.YtnkkhdcjbjiimaaDoorCastGb
namespace Go.Proofs.YtnkkhdcjbjiimaaDoor
open Go.RowKit Go.Sort

def T.firstC : Nat → Int := fun i => if i = 83 then -1 else if i = 87 then 1 else if i = 79 then 7 else if i = 81 then -1 else if i = 82 then -1 else 0
def T.firstP : Nat → Int := upd (upd (upd (upd T.firstC 5 6) 1 4) 8 4) 61 14

theorem T.first_cells : Value.agg ((((((Tryd.zeroCells31.setIfInBounds 83 (.int .i8 (-1))).setIfInBounds 87 (.int .i64 1)).setIfInBounds 79 (.int .i8 7)).setIfInBounds 80 (.int .i8 0)).setIfInBounds 81 (.int .i8 (-1))).setIfInBounds 82 (.int .i8 (-1))) = .agg (posC T.firstC) := by kernel_rfl

set_option maxRecDepth 100000 in
set_option maxHeartbeats 1000000 in
theorem first14_any (w : World) :
    Calls Tryd.prog 18 #[] w fun e w' => e = .returned (.agg (posC T.firstP)) ∧ Below w.heap.size w w' := by
  have hb0 : Below w.heap.size w ((w.alloc (.cells Tryd.zeroCells31 31)).alloc (.cells Tryd.zeroCells31 31)) := ((Below.refl _ _).alloc (Nat.le_refl _) _).alloc (by simp) _
  have hZ0 := (RowAt.new w Tryd.zeroCells31 31).alloc (.cells Tryd.zeroCells31 31)
  have hZ1 := RowAt.new (w.alloc (.cells Tryd.zeroCells31 31)) Tryd.zeroCells31 31
  rw [World.size_alloc] at hZ1
  go_enter Tryd.func18, Tryd.ntmps18
  go_wp2_with (first
    | ((with_reducible refine wp_store_box rfl _ _ rfl ?_); refine ⟨w.heap.size + 1, T.firstC, rfl, T.first_cells, ⟨_, hZ1.heap, zero31_sizeC⟩, ?_⟩; intro V hV hq; replace hb0 := hV.below hb0 (by omega); replace hZ0 := hV.row hZ0 (by omega); clear hZ1 hV)
    | ((with_reducible refine wp_store_cell rfl _ _ _ rfl ?_); refine ⟨_, _, _, _, _, rfl, rfl, hq, (by omega), rfl, Tryd.size_u8, ?_⟩; intro V hV hq2; replace hb0 := hV.below hb0 (by omega); replace hZ0 := hV.row hZ0 (by omega); clear hq hV; have hq := hq2; clear hq2)
    | ((with_reducible refine wp_load_box rfl _ rfl ?_); refine ⟨_, _, rfl, hq, ?_⟩)
    | ((with_reducible refine wp_store_box rfl _ _ rfl ?_); refine ⟨w.heap.size, T.firstP, rfl, rfl, ⟨_, hZ0.heap, zero31_sizeC⟩, ?_⟩; intro V2 hV hr; replace hb0 := hV.below hb0 (by omega)))
  exact bodyPost_ret (v := .agg (posC T.firstP)) (results_cell_row Tryd.results18 _ _ w.heap.size 31 _ (0, 0) _ rfl hr.heap Tryd.underlying31 rfl Tryd.infoPos) rfl ⟨rfl, hb0⟩

set_option maxRecDepth 100000 in
set_option maxHeartbeats 1000000 in
theorem with14_any (c : Nat → Int) (s : Nat) (x : Int) (w : World) (hs : s < 64) :
    Calls Tryd.prog 42 #[.agg (posC c), .int .i64 (s : Int), .int .u8 x] w fun e w' => e = .returned (.agg (posC (upd c (1 + s) x))) ∧ Below w.heap.size w w' := by
  have hb0 : Below w.heap.size w ((w.alloc (.cells (posC c) 31)).alloc (.cells Tryd.zeroCells31 31)) := ((Below.refl _ _).alloc (Nat.le_refl _) _).alloc (by simp) _
  have hp := (PosAt.new w c).alloc (.cells Tryd.zeroCells31 31)
  have hZ := RowAt.new (w.alloc (.cells (posC c) 31)) Tryd.zeroCells31 31
  rw [World.size_alloc] at hZ
  have hsI : (s : Int) < 64 := by omega
  go_enter Tryd.func42, Tryd.ntmps42
  go_wp2_with (first
    | ((with_reducible refine wp_store_cell rfl _ _ _ rfl ?_); refine ⟨_, _, _, _, _, rfl, rfl, hp, (by omega), (by exact pk_board hs), Tryd.size_u8, ?_⟩; intro V hV hq; replace hb0 := hV.below hb0 (Nat.le_refl _); replace hZ := hV.row hZ (by omega); clear hp hV)
    | ((with_reducible refine wp_load_box rfl _ rfl ?_); refine ⟨_, _, rfl, hq, ?_⟩)
    | ((with_reducible refine wp_store_box rfl _ _ rfl ?_); refine ⟨w.heap.size + 1, _, rfl, rfl, ⟨_, hZ.heap, zero31_sizeC⟩, ?_⟩; intro V2 hV hr; replace hb0 := hV.below hb0 (by omega)))
  exact bodyPost_ret (v := .agg (posC (upd c (1 + s) x))) (results_cell_row Tryd.results42 _ _ (w.heap.size + 1) 31 _ (0, 0) _ rfl hr.heap Tryd.underlying31 rfl Tryd.infoPos) rfl ⟨rfl, hb0⟩

end Go.Proofs.YtnkkhdcjbjiimaaDoor
