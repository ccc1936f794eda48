/- Small structs in boxes: loaded, stored, whole and cell by cell. -/
import Derived.Test.YtldpejeodhkgdaaBox
import Derived.Laws.OwnMore
import Derived.Deep.MidRow
namespace Go.Proofs.Ytldpejeodhkgdaa
open Go.RowKit Go.Sort

/-- Cells lie in a box. -/
structure RowAt (w : World) (g : Nat) (T : TypeId) (cs : Array Value) : Prop where
  heap : w.heap[g]? = some (.cells cs T (0, 0))
section
variable {w w' w0 : World} {g b B : Nat} {T : TypeId} {cs : Array Value}
theorem RowAt.lt (h : RowAt w g T cs) : g < w.heap.size := (Array.getElem?_eq_some_iff.1 h.heap).1
theorem RowAt.cell (h : RowAt w g T cs) (i : Nat) : w.cell? ⟨g, i, none⟩ = cs[i]? := by simp only [World.cell?, h.heap]; rfl
theorem RowAt.frozen (h : RowAt w g T cs) (i : Nat) : w.frozen? ⟨g, i, none⟩ = false := by simp [World.frozen?, h.heap]
theorem RowAt.below (h : RowAt w g T cs) (hb : Below w.heap.size w w') : RowAt w' g T cs := ⟨(hb.block g h.lt).trans h.heap⟩
theorem RowAt.belowB (h : RowAt w g T cs) (hb : Below B w w') (hg : g < B) : RowAt w' g T cs := ⟨(hb.block g hg).trans h.heap⟩
theorem RowAt.alloc (h : RowAt w g T cs) (o : Obj) : RowAt (w.alloc o) g T cs := ⟨(Below.heap_alloc _ _ _ h.lt).trans h.heap⟩
theorem RowAt.drewN (h : RowAt w g T cs) (n : Nat) : RowAt (w.drewN n) g T cs := ⟨h.heap⟩
theorem RowAt.new (w : World) (cs : Array Value) (T : TypeId) : RowAt (w.alloc (.cells cs T)) w.heap.size T cs := ⟨heap_alloc_new _ _⟩
theorem RowAt.grown {row : Option Nat} (h : RowAt w g T cs) (hg : w.grownBy w' row) (hr : ∀ k, row = some k → k ≠ g) : RowAt w' g T cs :=
  ⟨(hg.block g h.lt (fun e => hr g e.symm rfl)).trans h.heap⟩
theorem PosAt.grown {c : Nat → Int} {row : Option Nat} (h : PosAt w g c) (hg : w.grownBy w' row) (hr : ∀ k, row = some k → k ≠ g) : PosAt w' g c :=
  ⟨(hg.block g h.lt (fun e => hr g e.symm rfl)).trans h.heap⟩
theorem Put.row (h : Put g w w') (hp : RowAt w b T cs) (hne : b ≠ g) : RowAt w' b T cs := ⟨(h.block b hne).trans hp.heap⟩
theorem Put.grown (h : Put g w w') : w.grownBy w' (some g) := ⟨h.os, h.tape, h.output, Nat.le_of_eq h.size.symm, fun k _ hne => h.block k (fun e => hne (by rw [e]))⟩
theorem Put.owns {base : Nat} {e : TypeId} {size : Nat} {v : Value} {n : Nat} {xs : List Value} (h : Put g w w') (ho : w.ownsRow base e size v n xs) (hne : v.ownBlock ≠ some g) : w'.ownsRow base e size v n xs :=
  ho.kept h.grown (.inr hne)
/-- What a call of the call's own has made stays, whatever a callee makes beside it. -/
theorem below_grown (h : Below w.heap.size w w') : w.grownBy w' none := ⟨h.os, h.tape, h.output, h.size, fun k hk _ => h.block k hk⟩
theorem owns_below {base : Nat} {e : TypeId} {size : Nat} {v : Value} {n : Nat} {xs : List Value} (ho : w.ownsRow base e size v n xs) (h : Below w.heap.size w w') : w'.ownsRow base e size v n xs :=
  ho.kept (below_grown h) (by cases hv : v.ownBlock <;> simp)

theorem run_storeVar_at {P : Program} (i : Nat) (ty : TypeId) (v : Value) (h1 : v.oneCell' = true) (hp : RowAt w g T cs) (hi : i < cs.size) (hs : (P.info? ty).map (·.size) = some 1) :
    (storeVar ty ⟨g, i, none⟩ v).run P w = .ok () (w.setCell ⟨g, i, none⟩ v) := by
  have h2 : (store ⟨g, i, none⟩ v).run P w = .ok () (w.setCell ⟨g, i, none⟩ v) := by
    rw [run_store _ w _ _ _ h1, hp.cell, Array.getElem?_eq_getElem hi]
    simp [hp.frozen i]
  have hc : v.cells = #[v] := by cases v <;> first | rfl | cases h1
  cases hq : P.info? ty with
  | none => simp [hq] at hs
  | some j =>
    have hj : j.size = 1 := by simpa [hq] using hs
    simp [storeVar, sizeOf, typeInfo, hq, hj, hc, storeCells, Addr.add, h2]
theorem RowAt.setCell (hp : RowAt w g T cs) (i : Nat) (v : Value) : RowAt (w.setCell ⟨g, i, none⟩ v) g T (cs.setIfInBounds i v) :=
  ⟨by rw [setCell_eq_setRow w g i cs _ (0, 0) _ hp.heap, setRow_heap w g cs _ _ _ hp.heap]⟩
end

section
variable {P : Program} {ops : Array Oper} {rest : List Oper} {o : Oper} {a : Act} {w : World} {Q : Exit → Act → World → Prop}
/-- A cell of a box is written. -/
theorem wp_store_at (hgd : o.guard = none) (ty : TypeId) (x y : Operand) (ho : o.op = .store ty x y)
    (h : ∃ (g i : Nat) (T : TypeId) (cs : Array Value) (v : Value), a.eval x = .pointer (some ⟨g, i, none⟩) ∧ a.eval y = v ∧ v.oneCell' = true ∧ RowAt w g T cs ∧ i < cs.size ∧ (P.info? ty).map (·.size) = some 1 ∧
      ∀ W' : World, Put g w W' → RowAt W' g T (cs.setIfInBounds i v) → wpList P ops Q rest (a.put o.dst undef) W') : wpList P ops Q (o :: rest) a w := by
  obtain ⟨g, i, T, cs, v, hx, hy, h1, hp, hi, hs, h⟩ := h
  refine wpList_plain hgd fun _ hK => ?_
  unfold Oper.wp execOp
  simp only [ho, hx, hy, Instr.storeAt, Instr.sureAddr, Sem.run_bind, Sem.run_pure, Result.andThen_ok, run_storeVar_at i ty v h1 hp hi hs]
  exact hK _ _ (h _ (put_setCell w g i _) (hp.setCell i v))
/-- A whole struct goes into its box. -/
theorem wp_store_row' (hgd : o.guard = none) (ty : TypeId) (x y : Operand) (ho : o.op = .store ty x y)
    (h : ∃ (g : Nat) (T : TypeId) (cs : Array Value), a.eval x = .pointer (some ⟨g, 0, none⟩) ∧ a.eval y = .agg cs ∧ (∃ old, w.heap[g]? = some (.cells old T (0, 0)) ∧ old.size = cs.size) ∧ (P.info? ty).map (·.size) = some cs.size ∧ cs.all (·.oneCell') = true ∧
      ∀ W' : World, Put g w W' → RowAt W' g T cs → wpList P ops Q rest (a.put o.dst undef) W') : wpList P ops Q (o :: rest) a w := by
  obtain ⟨g, T, cs, hx, hy, ⟨old, hg, hs⟩, hi, h1, h⟩ := h
  exact wpList_store_row hgd _ x y ho g cs hx hy _ old hg hi hs h1 (h _ (put_setRow _ _ _) ⟨setRow_heap _ _ _ _ _ _ hg⟩)
/-- A whole struct is loaded out of its box. -/
theorem wp_load_row' (hgd : o.guard = none) (ty : TypeId) (x : Operand) (ho : o.op = .load ty x) {d : TypeDesc} (hu : P.underlying ty = some d) (hd : (match d with | .struct _ | .array _ _ => true | _ => false) = true)
    (h : ∃ (g : Nat) (T : TypeId) (cs : Array Value), a.eval x = .pointer (some ⟨g, 0, none⟩) ∧ RowAt w g T cs ∧ (P.info? ty).map (·.size) = some cs.size ∧ wpList P ops Q rest (a.put o.dst (.agg cs)) w) : wpList P ops Q (o :: rest) a w := by
  obtain ⟨g, T, cs, hx, hp, hi, h⟩ := h
  exact wpList_load_row hgd ty x ho g hx T cs (0, 0) d hp.heap hu hd hi h
/-- An element of a row of the call's own is loaded. -/
theorem wp_load_elem (hgd : o.guard = none) (ty : TypeId) (x : Operand) (ho : o.op = .load ty x) {d : TypeDesc} (hu : P.underlying ty = some d) (hd : d.isRow = true)
    (h : ∃ (b off : Nat) (cs : List Value), a.eval x = .pointer (some ⟨b, off, none⟩) ∧ w.rangeAt b off cs ∧ (P.info? ty).map (·.size) = some cs.length ∧ wpList P ops Q rest (a.put o.dst (.agg cs.toArray)) w) : wpList P ops Q (o :: rest) a w := by
  obtain ⟨b, off, cs, hx, hp, hi, h⟩ := h
  exact wpList_load_mid hgd ty x ho b off hx cs d hp hu hd hi h
end

end Go.Proofs.Ytldpejeodhkgdaa
