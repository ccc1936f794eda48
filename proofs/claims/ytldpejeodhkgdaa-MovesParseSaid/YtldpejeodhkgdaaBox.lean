/- Positions in boxes: loaded, stored, whole and cell by cell. -/
import Derived.Test.YtldpejeodhkgdaaPosG
namespace Go.Proofs.Ytldpejeodhkgdaa
open Go.RowKit Go.Sort

/-- A position with one cell another. -/
def upd (c : Nat → Int) (i : Nat) (n : Int) : Nat → Int := fun j => if j = i then n else c j
theorem upd_same (c : Nat → Int) (i : Nat) (n : Int) : upd c i n i = n := by simp [upd]
theorem upd_other (c : Nat → Int) (i j : Nat) (n : Int) (h : j ≠ i) : upd c i n j = c j := by simp [upd, h]
theorem posC_upd (c : Nat → Int) (i : Nat) (n : Int) (hi : i < 88) : (posC c).setIfInBounds i (.int (pk i) n) = posC (upd c i n) := by
  apply Array.ext_getElem?
  intro j
  rw [Array.getElem?_setIfInBounds]
  split
  · rename_i h
    subst h
    rw [if_pos (by rw [posC_size]; exact hi), posC_get _ _ hi]
    simp [upd]
  · rename_i h
    by_cases hj : j < 88
    · rw [posC_get _ _ hj, posC_get _ _ hj]
      unfold upd
      rw [if_neg (fun e => h e.symm)]
    · rw [Array.getElem?_eq_none (by rw [posC_size]; omega), Array.getElem?_eq_none (by rw [posC_size]; omega)]
theorem pk_board {s : Nat} (h : s < 64) : pk (1 + s) = .u8 := by unfold pk; rw [if_pos (by omega)]
theorem pk_board' {s : Nat} (h : s < 64) : pk (s + 1) = .u8 := by unfold pk; rw [if_pos (by omega)]

/-- A position lies in a box. -/
structure PosAt (w : World) (g : Nat) (c : Nat → Int) : Prop where
  heap : w.heap[g]? = some (.cells (posC c) 31 (0, 0))
/-- Written to one block alone. -/
structure Put (g : Nat) (w w' : World) : Prop where
  os : w'.os = w.os
  tape : w'.tape = w.tape
  output : w'.output = w.output
  size : w'.heap.size = w.heap.size
  block : ∀ k, k ≠ g → w'.heap[k]? = w.heap[k]?

section
variable {w w' w0 : World} {g b B : Nat} {c : Nat → Int}
theorem PosAt.lt (h : PosAt w g c) : g < w.heap.size := (Array.getElem?_eq_some_iff.1 h.heap).1
theorem PosAt.cell (h : PosAt w g c) {i : Nat} (hi : i < 88) : w.cell? ⟨g, i, none⟩ = some (.int (pk i) (c i)) := by
  simp only [World.cell?, h.heap]; exact posC_get c i hi
theorem PosAt.bd (h : PosAt w g c) {s : Nat} (hs : s < 64) : w.cell? ⟨g, 1 + s, none⟩ = some (.int .u8 (c (1 + s))) := by
  rw [h.cell (by omega), pk_board hs]
theorem PosAt.frozen (h : PosAt w g c) (i : Nat) : w.frozen? ⟨g, i, none⟩ = false := by simp [World.frozen?, h.heap]
theorem PosAt.below (h : PosAt w g c) (hb : Below w.heap.size w w') : PosAt w' g c := ⟨(hb.block g h.lt).trans h.heap⟩
theorem PosAt.belowB (h : PosAt w g c) (hb : Below B w w') (hg : g < B) : PosAt w' g c := ⟨(hb.block g hg).trans h.heap⟩
theorem PosAt.alloc (h : PosAt w g c) (o : Obj) : PosAt (w.alloc o) g c := ⟨(Below.heap_alloc _ _ _ h.lt).trans h.heap⟩
theorem PosAt.drew (h : PosAt w g c) : PosAt w.drew g c := ⟨h.heap⟩
theorem PosAt.drewN (h : PosAt w g c) (n : Nat) : PosAt (w.drewN n) g c := ⟨h.heap⟩
theorem PosAt.new (w : World) (c : Nat → Int) : PosAt (w.alloc (.cells (posC c) 31)) w.heap.size c := ⟨heap_alloc_new _ _⟩
theorem Put.below (h : Put g w w') (hb : Below B w0 w) (hg : B ≤ g) : Below B w0 w' :=
  hb.trans ⟨h.os, h.tape, h.output, Nat.le_of_eq h.size.symm, fun k hk => h.block k (by omega)⟩
theorem Put.pos (h : Put g w w') (hp : PosAt w b c) (hne : b ≠ g) : PosAt w' b c := ⟨(h.block b hne).trans hp.heap⟩
theorem Put.refl (g : Nat) (w : World) : Put g w w := ⟨rfl, rfl, rfl, rfl, fun _ _ => rfl⟩
theorem Put.trans {a b d : World} (h : Put g a b) (k : Put g b d) : Put g a d := ⟨k.os.trans h.os, k.tape.trans h.tape, k.output.trans h.output, k.size.trans h.size, fun i hi => (k.block i hi).trans (h.block i hi)⟩
theorem Put.cell (h : Put g w w') {p : Addr} (hp : p.block ≠ g) : w'.cell? p = w.cell? p := by
  unfold World.cell?; rw [h.block _ hp]

theorem run_storeVar_cell (i : Nat) (ty : TypeId) (k : IntKind) (n : Int) (hp : PosAt w g c) (hi : i < 88) (hs : (Try.prog.info? ty).map (·.size) = some 1) :
    (storeVar ty ⟨g, i, none⟩ (.int k n)).run Try.prog w = .ok () (w.setCell ⟨g, i, none⟩ (.int k n)) := by
  have h1 : (store ⟨g, i, none⟩ (.int k n)).run Try.prog w = .ok () (w.setCell ⟨g, i, none⟩ (.int k n)) := by
    rw [run_store _ w _ _ _ rfl, hp.cell hi]
    simp [hp.frozen i]
  cases hq : Try.prog.info? ty with
  | none => simp [hq] at hs
  | some j =>
    have hj : j.size = 1 := by simpa [hq] using hs
    simp [storeVar, sizeOf, typeInfo, hq, hj, Value.cells, storeCells, Addr.add, h1]
theorem put_setCell (w : World) (g i : Nat) (v : Value) : Put g w (w.setCell ⟨g, i, none⟩ v) :=
  ⟨rfl, rfl, rfl, by simp [World.setCell], fun k hk => Below.heap_setCell w ⟨g, i, none⟩ v k hk⟩
theorem PosAt.setCell (hp : PosAt w g c) {i : Nat} (hi : i < 88) {k : IntKind} (hk : pk i = k) (n : Int) : PosAt (w.setCell ⟨g, i, none⟩ (.int k n)) g (upd c i n) := by
  subst hk
  refine ⟨?_⟩
  rw [setCell_eq_setRow w g i (posC c) _ (0, 0) _ hp.heap, setRow_heap w g (posC c) _ _ _ hp.heap, posC_upd c i n hi]
theorem put_setRow (w : World) (g : Nat) (cs : Array Value) : Put g w (w.setRow g cs) :=
  ⟨rfl, rfl, rfl, by simp [World.setRow], fun k hk => setRow_other w g k cs hk⟩

theorem posC_one (c : Nat → Int) : (posC c).all (·.oneCell') = true := by
  rw [Array.all_eq_true]
  intro i hi
  have := posC_get c i (by rw [posC_size] at hi; exact hi)
  rw [Array.getElem?_eq_getElem hi] at this
  rw [Option.some.inj this]
  rfl
end

section
variable {ops : Array Oper} {rest : List Oper} {o : Oper} {a : Act} {w : World} {Q : Exit → Act → World → Prop}
/-- A cell of a position is written. -/
theorem wp_store_cell (hgd : o.guard = none) (ty : TypeId) (x y : Operand) (ho : o.op = .store ty x y)
    (h : ∃ (g i : Nat) (c : Nat → Int) (n : Int) (k : IntKind), a.eval x = .pointer (some ⟨g, i, none⟩) ∧ a.eval y = .int k n ∧ PosAt w g c ∧ i < 88 ∧ pk i = k ∧ (Try.prog.info? ty).map (·.size) = some 1 ∧
      ∀ W' : World, Put g w W' → PosAt W' g (upd c i n) → wpList Try.prog ops Q rest (a.put o.dst undef) W') : wpList Try.prog ops Q (o :: rest) a w := by
  obtain ⟨g, i, c, n, k, hx, hy, hp, hi, hk, hs, h⟩ := h
  refine wpList_plain hgd fun _ hK => ?_
  unfold Oper.wp execOp
  simp only [ho, hx, hy, Instr.storeAt, Instr.sureAddr, Sem.run_bind, Sem.run_pure, Result.andThen_ok, run_storeVar_cell i ty k n hp hi hs]
  exact hK _ _ (h _ (put_setCell w g i _) (hp.setCell hi hk n))
/-- A whole position goes into its variable. -/
theorem wp_store_box (hgd : o.guard = none) (x y : Operand) (ho : o.op = .store 31 x y)
    (h : ∃ (g : Nat) (c : Nat → Int), a.eval x = .pointer (some ⟨g, 0, none⟩) ∧ a.eval y = .agg (posC c) ∧ (∃ old, w.heap[g]? = some (.cells old 31 (0, 0)) ∧ old.size = 88) ∧
      ∀ W' : World, Put g w W' → PosAt W' g c → wpList Try.prog ops Q rest (a.put o.dst undef) W') : wpList Try.prog ops Q (o :: rest) a w := by
  obtain ⟨g, c, hx, hy, ⟨old, hg, hs⟩, h⟩ := h
  exact wpList_store_row hgd _ x y ho g (posC c) hx hy _ old hg (posC_info c) (by rw [hs, posC_size]) (posC_one c) (h _ (put_setRow _ _ _) ⟨setRow_heap _ _ _ _ _ _ hg⟩)
/-- A whole position is loaded. -/
theorem wp_load_box (hgd : o.guard = none) (x : Operand) (ho : o.op = .load 31 x)
    (h : ∃ (g : Nat) (c : Nat → Int), a.eval x = .pointer (some ⟨g, 0, none⟩) ∧ PosAt w g c ∧ wpList Try.prog ops Q rest (a.put o.dst (.agg (posC c))) w) : wpList Try.prog ops Q (o :: rest) a w := by
  obtain ⟨g, c, hx, hp, h⟩ := h
  exact wp_load_pos hgd x ho c ⟨g, _, _, hx, hp.heap⟩ h
theorem wp_load_box_g (hw : Region.wanted o (yielded ops a.tmps) = true) (x : Operand) (ho : o.op = .load 31 x)
    (h : ∃ (g : Nat) (c : Nat → Int), a.eval x = .pointer (some ⟨g, 0, none⟩) ∧ PosAt w g c ∧ wpList Try.prog ops Q rest (a.put o.dst (.agg (posC c))) w) : wpList Try.prog ops Q (o :: rest) a w := by
  obtain ⟨g, c, hx, hp, h⟩ := h
  exact wp_load_pos_g hw x ho c ⟨g, _, _, hx, hp.heap⟩ h
end

theorem Try.size_u8 : (Try.prog.info? 5).map (·.size) = some 1 := by kernel_rfl

end Go.Proofs.Ytldpejeodhkgdaa
