/- Positions in boxes of whatever struct type embeds one; a struct loaded, guarded or not. -/
import Derived.Test.YtlphjjekamhnlaaDoorRow
import Derived.Test.YtlphjjekamhnlaaDoorSideA
namespace Go.Proofs.YtlphjjekamhnlaaDoor
open Go.RowKit Go.Sort

/-- A position's cells lie in a box of a type that is T. -/
structure PosIn (w : World) (g : Nat) (T : TypeId) (c : Nat → Int) : Prop where
  heap : w.heap[g]? = some (.cells (posC c) T (0, 0))
section
variable {w w' w0 : World} {g b B : Nat} {T : TypeId} {c : Nat → Int}
theorem PosIn.lt (h : PosIn w g T c) : g < w.heap.size := (Array.getElem?_eq_some_iff.1 h.heap).1
theorem PosIn.row (h : PosIn w g T c) : RowAt w g T (posC c) := ⟨h.heap⟩
theorem PosIn.cell (h : PosIn w g T c) (i : Nat) (hi : i < 88) (k : IntKind) (hk : pk i = k) : w.cell? ⟨g, i, none⟩ = some (.int k (c i)) := by
  subst hk
  simp only [World.cell?, h.heap]; exact posC_get c i hi
theorem PosIn.bd (h : PosIn w g T c) (s : Nat) (hs : s < 64) : w.cell? ⟨g, 1 + s, none⟩ = some (.int .u8 (c (1 + s))) := h.cell _ (by omega) _ (pk_board hs)
theorem PosIn.frozen (h : PosIn w g T c) (i : Nat) : w.frozen? ⟨g, i, none⟩ = false := by simp [World.frozen?, h.heap]
theorem PosIn.below (h : PosIn w g T c) (hb : Below w.heap.size w w') : PosIn w' g T c := ⟨(hb.block g h.lt).trans h.heap⟩
theorem PosIn.belowB (h : PosIn w g T c) (hb : Below B w w') (hg : g < B) : PosIn w' g T c := ⟨(hb.block g hg).trans h.heap⟩
theorem PosIn.alloc (h : PosIn w g T c) (o : Obj) : PosIn (w.alloc o) g T c := ⟨(Below.heap_alloc _ _ _ h.lt).trans h.heap⟩
theorem PosIn.new (w : World) (T : TypeId) (c : Nat → Int) : PosIn (w.alloc (.cells (posC c) T)) w.heap.size T c := ⟨heap_alloc_new _ _⟩
theorem PosAt.in' (h : PosAt w g c) : PosIn w g 31 c := ⟨h.heap⟩
theorem PosAt.cellK (h : PosAt w g c) (i : Nat) (hi : i < 88) (k : IntKind) (hk : pk i = k) : w.cell? ⟨g, i, none⟩ = some (.int k (c i)) := h.in'.cell i hi k hk
theorem Put.posIn (h : Put g w w') (hp : PosIn w b T c) (hne : b ≠ g) : PosIn w' b T c := ⟨(h.block b hne).trans hp.heap⟩
end
theorem wp_load_rowG {P : Program} {ops : Array Oper} {rest : List Oper} {o : Oper} {a : Act} {w : World} {Q : Exit → Act → World → Prop} (hw : Region.wanted o (yielded ops a.tmps) = true) (ty : TypeId) (x : Operand) (ho : o.op = .load ty x) {d : TypeDesc} (hu : P.underlying ty = some d) (hd : (match d with | .struct _ | .array _ _ => true | _ => false) = true)
    (h : ∃ (g : Nat) (T : TypeId) (cs : Array Value), a.eval x = .pointer (some ⟨g, 0, none⟩) ∧ RowAt w g T cs ∧ (P.info? ty).map (·.size) = some cs.size ∧ wpList P ops Q rest (a.put o.dst (.agg cs)) w) : wpList P ops Q (o :: rest) a w := by
  obtain ⟨g, T, cs, hx, hp, hi, h⟩ := h
  refine wpList_step fun K hK => ?_
  rw [if_pos hw]
  exact wp_load_row ty x ho g hx T cs (0, 0) d hp.heap hu hd hi (hK _ _ h)
theorem wp_load_midG {P : Program} {ops : Array Oper} {rest : List Oper} {o : Oper} {a : Act} {w : World} {Q : Exit → Act → World → Prop} (hw : Region.wanted o (yielded ops a.tmps) = true) (ty : TypeId) (x : Operand) (ho : o.op = .load ty x) {d : TypeDesc} (hu : P.underlying ty = some d) (hd : d.isRow = true)
    (h : ∃ (b off : Nat) (cs : List Value), a.eval x = .pointer (some ⟨b, off, none⟩) ∧ w.rangeAt b off cs ∧ (P.info? ty).map (·.size) = some cs.length ∧ wpList P ops Q rest (a.put o.dst (.agg cs.toArray)) w) : wpList P ops Q (o :: rest) a w := by
  obtain ⟨b, off, cs, hx, hp, hi, h⟩ := h
  refine wpList_step fun K hK => ?_
  rw [if_pos hw]
  exact wp_load_mid ty x ho b off hx cs d hp hu hd hi (hK _ _ h)
/-- A box in a drawn region. -/
theorem quiet_load_rowQ {P : Program} {K : Act → Prop} {a : Act} {o : Oper} {w : World} (ty : TypeId) (x : Operand) (ho : o.op = .load ty x) {d : TypeDesc} (hu : P.underlying ty = some d) (hd : (match d with | .struct _ | .array _ _ => true | _ => false) = true)
    (h : ∃ (g : Nat) (T : TypeId) (cs : Array Value), a.eval x = .pointer (some ⟨g, 0, none⟩) ∧ RowAt w g T cs ∧ (P.info? ty).map (·.size) = some cs.size ∧ K (a.put o.dst (.agg cs))) : o.quiet P a (fun w' => ∃ p : Regrown, w' = grow (redrawn w p.d) p.os) K := by
  obtain ⟨g, T, cs, hx, hp, hi, h⟩ := h
  refine ⟨.agg cs, fun w' ⟨p, e⟩ => ?_, h⟩
  have hg : w'.heap[g]? = some (.cells cs T (0, 0)) := by rw [e, heap_grow _ _ _ _ hp.lt]; exact hp.heap
  unfold Oper.quietAt execOp
  simp only [ho, hx, Instr.loadAt, Instr.sureAddr, Sem.run_bind, Sem.run_pure, Result.andThen_ok, run_loadVar_row w' g T ty cs (0, 0) d hg hu hd hi]
  exact ⟨rfl, rfl⟩
/-- .. and the position in a box of another type. -/
theorem quiet_load_posIn {K : Act → Prop} {a : Act} {o : Oper} {w : World} (x : Operand) (ho : o.op = .load 31 x)
    (h : ∃ (g : Nat) (T : TypeId) (c : Nat → Int), a.eval x = .pointer (some ⟨g, 0, none⟩) ∧ PosIn w g T c ∧ K (a.put o.dst (.agg (posC c)))) : o.quiet Tryd.prog a (fun w' => ∃ p : Regrown, w' = grow (redrawn w p.d) p.os) K := by
  obtain ⟨g, T, c, hx, hp, hk⟩ := h
  exact quiet_load_pos x ho c ⟨g, _, _, hx, fun w' ⟨p, e⟩ => by rw [e, heap_grow _ _ _ _ hp.lt]; exact hp.heap⟩ hk
theorem wp_load_posIn {ops : Array Oper} {rest : List Oper} {o : Oper} {a : Act} {w : World} {Q : Exit → Act → World → Prop} (hw : Region.wanted o (yielded ops a.tmps) = true) (x : Operand) (ho : o.op = .load 31 x)
    (h : ∃ (g : Nat) (T : TypeId) (c : Nat → Int), a.eval x = .pointer (some ⟨g, 0, none⟩) ∧ PosIn w g T c ∧ wpList Tryd.prog ops Q rest (a.put o.dst (.agg (posC c))) w) : wpList Tryd.prog ops Q (o :: rest) a w := by
  obtain ⟨g, T, c, hx, hp, h⟩ := h
  exact wp_load_pos_g hw x ho c ⟨g, _, _, hx, hp.heap⟩ h
/-- A struct built. -/
theorem wpl_build {P : Program} {ops : Array Oper} {rest : List Oper} {o : Oper} {a : Act} {w : World} {Q : Exit → Act → World → Prop} (hw : Region.wanted o (yielded ops a.tmps) = true) (t : TypeId) (parts : Array (Nat × Operand)) (ho : o.op = .build t parts)
    (h : ∃ (l : List (Nat × Value)) (cells : Array Value), (parts.toList.map fun q => (q.1, a.eval q.2)) = l ∧ P.built t l = some cells ∧ wpList P ops Q rest (a.put o.dst (.agg cells)) w) : wpList P ops Q (o :: rest) a w := by
  obtain ⟨l, cells, hl, hb, h⟩ := h
  subst hl
  refine wpList_step fun K hK => ?_
  rw [if_pos hw]
  unfold Oper.wp execOp
  have h1 := run_build w t (parts.map fun (i, x) => (i, a.eval x)) cells (by rw [Array.toList_map]; exact hb)
  simp only [ho, Sem.run_bind, h1, Result.andThen_ok, Sem.run_pure]
  exact hK _ _ h
end Go.Proofs.YtlphjjekamhnlaaDoor
