/- A drawn region's call, taken in its turn: what comes back, by its contract. No program in sight. -/
import Derived.Test.YtldpejeodhkgdaaTake
namespace Go.Proofs.Ytldpejeodhkgdaa
open Go.RowKit Go.Sort

section
variable {P : Program} {ops : Array Oper} {Q : Exit → Act → World → Prop} {md : Region.Mode} {S : World → Prop} {fuel : Nat} {listed : Array Bool} {a : Act} {w : World}
/-- The one operation that may come up is a call. -/
theorem takeCall (i : Nat) (d : Option Tmp) (f : FuncId) (args : Array Value) (v : Value) (R : World → Prop) (ho : Nat.blt i ops.size = true) (hr : Region.ready md ops listed = [i]) (hw : Region.wanted (ops.getD i default) (yielded ops a.tmps) = true)
    (hd : (ops.getD i default).dst = d) (he : (execOp a.eval (ops.getD i default)).run P w = .ok (.enter f args) w)
    (hc : Calls P f args w fun e w' => e = .returned v ∧ R w') (h : ∀ w', R w' → S w' ∧ wpAnyH P md ops Q S fuel (listed.setIfInBounds i true) (a.put d v) w') : wpAnyH P md ops Q S (fuel + 1) listed a w := by
  refine takeOne i ho hr hw ?_
  unfold Oper.wp
  rw [he]
  show Calls P f args w _
  refine hc.mono ?_
  rintro e w' ⟨rfl, hR⟩
  rw [hd]
  exact h w' hR
end
end Go.Proofs.Ytldpejeodhkgdaa
