/- Positions in boxes: two cells stored at once. -/
import Derived.Test.YtnkkhdcjbjiimaaDoorBaseC
namespace Go.Proofs.YtnkkhdcjbjiimaaDoor
open Go.RowKit Go.Sort

section
variable {w : World} {g : Nat} {c : Nat → Int}
theorem run_storeVar_two (i : Nat) (ty : TypeId) (k : IntKind) (n m : Int) (hp : PosAt w g c) (hi : i + 1 < 88) (hk : pk i = k) (hs : (Tryd.prog.info? ty).map (·.size) = some 2) :
    (storeVar ty ⟨g, i, none⟩ (.agg #[.int k n, .int k m])).run Tryd.prog w = .ok () ((w.setCell ⟨g, i, none⟩ (.int k n)).setCell ⟨g, i + 1, none⟩ (.int k m)) := by
  have h1 : (store ⟨g, i, none⟩ (.int k n)).run Tryd.prog w = .ok () (w.setCell ⟨g, i, none⟩ (.int k n)) := by
    rw [run_store _ w _ _ _ rfl, hp.cell (by omega)]
    simp [hp.frozen i]
  have hp2 := hp.setCell (i := i) (by omega) hk n
  have h2 : (store ⟨g, i + 1, none⟩ (.int k m)).run Tryd.prog (w.setCell ⟨g, i, none⟩ (.int k n)) = .ok () ((w.setCell ⟨g, i, none⟩ (.int k n)).setCell ⟨g, i + 1, none⟩ (.int k m)) := by
    rw [run_store _ _ _ _ _ rfl, hp2.cell (by omega)]
    simp [hp2.frozen (i + 1)]
  cases hq : Tryd.prog.info? ty with
  | none => simp [hq] at hs
  | some j =>
    have hj : j.size = 2 := by simpa [hq] using hs
    simp [storeVar, sizeOf, typeInfo, hq, hj, Value.cells, storeCells, Addr.add, h1, h2]
end

/-- Two cells of a position are written at once. -/
theorem wp_store_two {ops : Array Oper} {rest : List Oper} {o : Oper} {a : Act} {w : World} {Q : Exit → Act → World → Prop} (hgd : o.guard = none) (ty : TypeId) (x y : Operand) (ho : o.op = .store ty x y)
    (h : ∃ (g i : Nat) (c : Nat → Int) (n m : Int) (k : IntKind), a.eval x = .pointer (some ⟨g, i, none⟩) ∧ a.eval y = .agg #[.int k n, .int k m] ∧ PosAt w g c ∧ i + 1 < 88 ∧ pk i = k ∧ pk (i + 1) = k ∧ (Tryd.prog.info? ty).map (·.size) = some 2 ∧
      ∀ W' : World, Put g w W' → PosAt W' g (upd (upd c i n) (i + 1) m) → wpList Tryd.prog ops Q rest (a.put o.dst undef) W') : wpList Tryd.prog ops Q (o :: rest) a w := by
  obtain ⟨g, i, c, n, m, k, hx, hy, hp, hi, hk, hk2, hs, h⟩ := h
  refine wpList_plain hgd fun _ hK => ?_
  unfold Oper.wp execOp
  simp only [ho, hx, hy, Instr.storeAt, Instr.sureAddr, Sem.run_bind, Sem.run_pure, Result.andThen_ok, run_storeVar_two i ty k n m hp hi hk hs]
  exact hK _ _ (h _ ((put_setCell w g i _).trans (put_setCell _ g (i + 1) _)) ((hp.setCell (by omega) hk n).setCell (by omega) hk2 m))

end Go.Proofs.YtnkkhdcjbjiimaaDoor
