/- A position loaded under a guard. -/
import Derived.Test.YtldpejeodhkgdaaPos
namespace Go.Proofs.Ytldpejeodhkgdaa
open Go.RowKit Go.Sort

theorem wp_load_pos_g {ops : Array Oper} {rest : List Oper} {o : Oper} {a : Act} {w : World} {Q : Exit → Act → World → Prop} (hw : Region.wanted o (yielded ops a.tmps) = true) (x : Operand) (ho : o.op = .load 31 x)
    (c : Nat → Int) (hx : ∃ g t fr, a.eval x = .pointer (some ⟨g, 0, none⟩) ∧ w.heap[g]? = some (.cells (posC c) t fr))
    (h : wpList Try.prog ops Q rest (a.put o.dst (.agg (posC c))) w) : wpList Try.prog ops Q (o :: rest) a w := by
  obtain ⟨g, t, fr, h1, hg⟩ := hx
  refine wpList_step fun K hK => ?_
  rw [if_pos hw]
  exact wp_load_row 31 x ho g h1 t (posC c) fr _ hg Try.underlying31 rfl (posC_info c) (hK _ _ h)

end Go.Proofs.Ytldpejeodhkgdaa
