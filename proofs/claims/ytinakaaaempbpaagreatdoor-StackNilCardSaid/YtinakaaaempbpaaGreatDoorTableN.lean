/- What a tied card asks of the door: the heap that its own run leaves meets the row's condition. The listed variable's content is not asked for. -/
import Derived.Test.YtinakaaaempbpaaGreatDoorRows
import Derived.WalkKit
import Derived.ProofKit
import Derived.LaidMore
import Derived.OpenShut
import Derived.Stop.Joined
import Derived.SevenTiedAt
namespace Go.Proofs.YtinakaaaempbpaaGreatDoor
open Go.ChangeShapes Go.WideShapes Go.ChangeAt Go.RowKit
open Go.WideMaps Go.WideElems

theorem gTab : Tryz.prog.globalNamed "math/bits.deBruijn64tab" = some 0 := by kernel_rfl
theorem tTab : (Tryz.prog.globals[0]?).map (·.type) = some 26 := by kernel_rfl
theorem cTab : Tryz.prog.cellsOf 5 = 1 := by kernel_rfl

theorem door_met (os : Os) (args : Array Value) : laidMetH Tryz.prog [("math/bits.deBruijn64tab", Rows.laid_math_bits_deBruijn64tab)] ((World.doorLaid Tryz.prog 400 os).forCall (fun _ _ => 0) ⟨#[], args, []⟩).memory :=
  laidMetH_of_parts3 (fuel := 8) (laidMet_of_run' 8 (by kernel_rfl) (by kernel_rfl)) (by kernel_rfl) (by kernel_rfl)

/-- No parameter's type wants a stand-in. -/
theorem plain_params (l : List TypeId) (h : l.all (fun t => !Tryz.prog.wantsStandIn t) = true) (j : Nat) (t : TypeId) (ht : l.toArray[j]? = some t) : Tryz.prog.wantsStandIn t = false := by
  rw [List.getElem?_toArray] at ht
  have := List.all_eq_true.1 h t (List.mem_of_getElem? ht)
  simpa using this

end Go.Proofs.YtinakaaaempbpaaGreatDoor
