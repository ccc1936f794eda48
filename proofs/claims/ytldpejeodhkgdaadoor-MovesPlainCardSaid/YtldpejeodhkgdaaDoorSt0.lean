/- What the first positions' texts lean on, in the place of SideA (a seat without attacks). -/
import Derived.Test.YtldpejeodhkgdaaDoorRules
import Derived.Test.YtldpejeodhkgdaaDoorOpenM
import Derived.Test.YtldpejeodhkgdaaDoorRow
namespace Go.Proofs.YtldpejeodhkgdaaDoor
open Go.RowKit Go.Sort

theorem results_row_tmp {P : Program} {fn : Func} {p u : Tmp} {ty : TypeId} (h : fn.results = #[.cell p ty, .tmp u]) (tmps : Array Value) (w : World) (g : Nat) (t : TypeId) (cs : Array Value) (fr : Nat × Nat) (d : TypeDesc)
    (hp : tmps.getD p undef = .pointer (some ⟨g, 0, none⟩)) (hg : w.heap[g]? = some (.cells cs t fr))
    (hu : P.underlying ty = some d) (hd : (match d with | .struct _ | .array _ _ => true | _ => false) = true) (hi : (P.info? ty).map (·.size) = some cs.size) :
    (results fn tmps).run P w = .ok (.tuple #[.agg cs, tmps.getD u undef]) w := by
  rw [results_cell_tmp h, hp]
  simp [asAddr, run_loadVar_row w g t ty cs fr d hg hu hd hi, Result.andThen]
theorem quiet_build {P : Program} {C : World → Prop} {K : Act → Prop} {a : Act} {o : Oper} (t : TypeId) (parts : Array (Nat × Operand)) (ho : o.op = .build t parts) (l : List (Nat × Value)) (cells : Array Value)
    (hl : (parts.toList.map fun q => (q.1, a.eval q.2)) = l) (hb : P.built t l = some cells) (hk : K (a.put o.dst (.agg cells))) : o.quiet P a C K := by
  subst hl
  refine ⟨.agg cells, fun w _ => ?_, hk⟩
  unfold Oper.quietAt execOp
  simp only [ho]
  have h := run_build w t (parts.map fun (i, x) => (i, a.eval x)) cells (by rw [Array.toList_map]; exact hb)
  simp only [Sem.run_bind, h, Result.andThen_ok, Sem.run_pure]
  exact ⟨rfl, rfl⟩
end Go.Proofs.YtldpejeodhkgdaaDoor
