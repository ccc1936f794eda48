/- What a tied card asks of the parameters' types. -/
import Derived.Test.YtldpejeodhkgdaaDoorRows
import Derived.ProofKit
import Derived.SevenTiedAt
namespace Go.Proofs.YtldpejeodhkgdaaDoor
/-- No parameter's type wants a stand-in. -/
theorem plain_params (l : List TypeId) (h : l.all (fun t => !Tryd.prog.wantsStandIn t) = true) (j : Nat) (t : TypeId) (ht : l.toArray[j]? = some t) : Tryd.prog.wantsStandIn t = false := by
  rw [List.getElem?_toArray] at ht
  have := List.all_eq_true.1 h t (List.mem_of_getElem? ht)
  simpa using this
end Go.Proofs.YtldpejeodhkgdaaDoor
