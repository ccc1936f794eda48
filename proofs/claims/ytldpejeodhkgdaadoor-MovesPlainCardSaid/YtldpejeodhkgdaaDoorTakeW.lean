/- A drawn region's operations, each in its turn where several may come up: calls, and what makes or writes memory. No program in sight. -/
import Derived.Test.YtldpejeodhkgdaaDoorTakeC
namespace Go.Proofs.YtldpejeodhkgdaaDoor
open Go.RowKit Go.Sort

section
variable {P : Program} {ops : Array Oper} {Q : Exit → Act → World → Prop} {a : Act} {w : World} {K : Act → World → Prop}
theorem wpOp_callD (i : Nat) (d : Option Tmp) (f : FuncId) (args : Array Value) (v : Value) (R : World → Prop) (ho : Nat.blt i ops.size = true) (hw : Region.wanted (ops.getD i default) (yielded ops a.tmps) = true)
    (hd : (ops.getD i default).dst = d) (he : (execOp a.eval (ops.getD i default)).run P w = .ok (.enter f args) w)
    (hc : Calls P f args w fun e w' => e = .returned v ∧ R w') (h : ∀ w', R w' → K (a.put d v) w') : wpOp P ops Q i K a w := by
  unfold wpOp
  rw [getD_some ho]
  simp only [hw, if_true]
  left
  unfold Oper.wp
  rw [he]
  show Calls P f args w _
  refine hc.mono ?_
  rintro e w' ⟨rfl, hR⟩
  rw [hd]
  exact h w' hR
/-- .. that yields a value, and leaves another world. -/
theorem wpOp_valD (i : Nat) (d : Option Tmp) (v : Value) (w' : World) (ho : Nat.blt i ops.size = true) (hw : Region.wanted (ops.getD i default) (yielded ops a.tmps) = true)
    (hd : (ops.getD i default).dst = d) (he : (execOp a.eval (ops.getD i default)).run P w = .ok (.value v) w') (h : K (a.put d v) w') : wpOp P ops Q i K a w := by
  unfold wpOp
  rw [getD_some ho]
  simp only [hw, if_true]
  left
  unfold Oper.wp
  rw [he]
  show K (a.put (ops.getD i default).dst v) w'
  rw [hd]
  exact h
theorem wpOp_wpD (i : Nat) (ho : Nat.blt i ops.size = true) (hw : Region.wanted (ops.getD i default) (yielded ops a.tmps) = true)
    (h : (ops.getD i default).wp P a w K Q) : wpOp P ops Q i K a w := by
  unfold wpOp
  rw [getD_some ho]
  simp only [hw, if_true]
  exact .inl h
end
end Go.Proofs.YtldpejeodhkgdaaDoor
