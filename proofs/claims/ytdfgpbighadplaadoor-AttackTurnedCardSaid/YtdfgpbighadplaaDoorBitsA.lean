/- The program's package bits: the table of steps. -/
import Derived.Test.YtdfgpbighadplaaDoorRows
import Derived.WalkKit
import Derived.WalkSpells
namespace Go.Proofs.YtdfgpbighadplaaDoor
open Go.RowKit

def B.stepsA : Array Value := #[.int .i64 8, .int .u64 0, .int .i64 9, .int .u64 72340172838076673, .int .i64 1, .int .u64 72340172838076673, .int .i64 (-7), .int .u64 72340172838076673, .int .i64 (-8), .int .u64 0, .int .i64 (-9), .int .u64 9259542123273814144, .int .i64 (-1), .int .u64 9259542123273814144, .int .i64 7, .int .u64 9259542123273814144]

set_option maxRecDepth 100000 in
set_option maxHeartbeats 400000 in
theorem bsteps_any (w : World) :
    Calls Tryd.prog 73 #[] w fun e w' => e = .returned (.agg B.stepsA) ∧ Below w.heap.size w w' := by
  go_enter Tryd.func73, Tryd.ntmps73
  go_wp2
  refine bodyPost_ret (v := .agg B.stepsA) ?_ rfl ⟨rfl, ?_⟩
  · simp [results, Tryd.results73, go_sem, B.stepsA]
  · exact (Below.refl _ _).alloc (Nat.le_refl _) _

end Go.Proofs.YtdfgpbighadplaaDoor
