/- Several texts in one: Row, Take, Moves13, TakeC, TakeW, RoundW, RoundO, OwnL, OrdJ, OrdK, Idx. -/
import Derived.Laws.OwnMore
import Derived.Deep.MidRow
import Derived.OrdersHeld
import Derived.Laws.AppendOwnNone
import Derived.BigQuiet
import Derived.Shelf.SlSortCmp.QuietGrown
import Derived.Test.YtgkndhpolcnjbaaGreatDoorQc
import Derived.Test.YtgkndhpolcnjbaaGreatDoorQb
namespace Go.Proofs.YtgkndhpolcnjbaaGreatDoor
open Go.RowKit Go.Sort
/-- Cells lie in a box. -/
structure RowAt (w : World) (g : Nat) (T : TypeId) (cs : Array Value) : Prop where
  heap : w.heap[g]? = some (.cells cs T (0, 0))
section
variable {w w' w0 : World} {g b B : Nat} {T : TypeId} {cs : Array Value}
theorem RowAt.lt (h : RowAt w g T cs) : g < w.heap.size := (Array.getElem?_eq_some_iff.1 h.heap).1
theorem RowAt.cell (h : RowAt w g T cs) (i : Nat) : w.cell? ⟨g, i, none⟩ = cs[i]? := by simp only [World.cell?, h.heap]; rfl
theorem RowAt.frozen (h : RowAt w g T cs) (i : Nat) : w.frozen? ⟨g, i, none⟩ = false := by simp [World.frozen?, h.heap]
theorem RowAt.below (h : RowAt w g T cs) (hb : Below w.heap.size w w') : RowAt w' g T cs := ⟨(hb.block g h.lt).trans h.heap⟩
theorem RowAt.belowB (h : RowAt w g T cs) (hb : Below B w w') (hg : g < B) : RowAt w' g T cs := ⟨(hb.block g hg).trans h.heap⟩
theorem RowAt.alloc (h : RowAt w g T cs) (o : Obj) : RowAt (w.alloc o) g T cs := ⟨(Below.heap_alloc _ _ _ h.lt).trans h.heap⟩
theorem RowAt.drewN (h : RowAt w g T cs) (n : Nat) : RowAt (w.drewN n) g T cs := ⟨h.heap⟩
theorem RowAt.new (w : World) (cs : Array Value) (T : TypeId) : RowAt (w.alloc (.cells cs T)) w.heap.size T cs := ⟨heap_alloc_new _ _⟩
theorem RowAt.grown {row : Option Nat} (h : RowAt w g T cs) (hg : w.grownBy w' row) (hr : ∀ k, row = some k → k ≠ g) : RowAt w' g T cs :=
  ⟨(hg.block g h.lt (fun e => hr g e.symm rfl)).trans h.heap⟩
theorem PosAt.grown {c : Nat → Int} {row : Option Nat} (h : PosAt w g c) (hg : w.grownBy w' row) (hr : ∀ k, row = some k → k ≠ g) : PosAt w' g c :=
  ⟨(hg.block g h.lt (fun e => hr g e.symm rfl)).trans h.heap⟩
theorem Put.row (h : Put g w w') (hp : RowAt w b T cs) (hne : b ≠ g) : RowAt w' b T cs := ⟨(h.block b hne).trans hp.heap⟩
theorem Put.grown (h : Put g w w') : w.grownBy w' (some g) := ⟨h.os, h.tape, h.output, Nat.le_of_eq h.size.symm, fun k _ hne => h.block k (fun e => hne (by rw [e]))⟩
theorem Put.owns {base : Nat} {e : TypeId} {size : Nat} {v : Value} {n : Nat} {xs : List Value} (h : Put g w w') (ho : w.ownsRow base e size v n xs) (hne : v.ownBlock ≠ some g) : w'.ownsRow base e size v n xs :=
  ho.kept h.grown (.inr hne)
/-- What a call of the call's own has made stays, whatever a callee makes beside it. -/
theorem below_grown (h : Below w.heap.size w w') : w.grownBy w' none := ⟨h.os, h.tape, h.output, h.size, fun k hk _ => h.block k hk⟩
theorem owns_below {base : Nat} {e : TypeId} {size : Nat} {v : Value} {n : Nat} {xs : List Value} (ho : w.ownsRow base e size v n xs) (h : Below w.heap.size w w') : w'.ownsRow base e size v n xs :=
  ho.kept (below_grown h) (by cases hv : v.ownBlock <;> simp)
theorem run_storeVar_at {P : Program} (i : Nat) (ty : TypeId) (v : Value) (h1 : v.oneCell' = true) (hp : RowAt w g T cs) (hi : i < cs.size) (hs : (P.info? ty).map (·.size) = some 1) :
    (storeVar ty ⟨g, i, none⟩ v).run P w = .ok () (w.setCell ⟨g, i, none⟩ v) := by
  have h2 : (store ⟨g, i, none⟩ v).run P w = .ok () (w.setCell ⟨g, i, none⟩ v) := by
    rw [run_store _ w _ _ _ h1, hp.cell, Array.getElem?_eq_getElem hi]
    simp [hp.frozen i]
  have hc : v.cells = #[v] := by cases v <;> first | rfl | cases h1
  cases hq : P.info? ty with
  | none => simp [hq] at hs
  | some j =>
    have hj : j.size = 1 := by simpa [hq] using hs
    simp [storeVar, sizeOf, typeInfo, hq, hj, hc, storeCells, Addr.add, h2]
theorem RowAt.setCell (hp : RowAt w g T cs) (i : Nat) (v : Value) : RowAt (w.setCell ⟨g, i, none⟩ v) g T (cs.setIfInBounds i v) :=
  ⟨by rw [setCell_eq_setRow w g i cs _ (0, 0) _ hp.heap, setRow_heap w g cs _ _ _ hp.heap]⟩
end
section
variable {P : Program} {ops : Array Oper} {rest : List Oper} {o : Oper} {a : Act} {w : World} {Q : Exit → Act → World → Prop}
/-- A cell of a box is written. -/
theorem wp_store_at (hgd : o.guard = none) (ty : TypeId) (x y : Operand) (ho : o.op = .store ty x y)
    (h : ∃ (g i : Nat) (T : TypeId) (cs : Array Value) (v : Value), a.eval x = .pointer (some ⟨g, i, none⟩) ∧ a.eval y = v ∧ v.oneCell' = true ∧ RowAt w g T cs ∧ i < cs.size ∧ (P.info? ty).map (·.size) = some 1 ∧
      ∀ W' : World, Put g w W' → RowAt W' g T (cs.setIfInBounds i v) → wpList P ops Q rest (a.put o.dst undef) W') : wpList P ops Q (o :: rest) a w := by
  obtain ⟨g, i, T, cs, v, hx, hy, h1, hp, hi, hs, h⟩ := h
  refine wpList_plain hgd fun _ hK => ?_
  unfold Oper.wp execOp
  simp only [ho, hx, hy, Instr.storeAt, Instr.sureAddr, Sem.run_bind, Sem.run_pure, Result.andThen_ok, run_storeVar_at i ty v h1 hp hi hs]
  exact hK _ _ (h _ (put_setCell w g i _) (hp.setCell i v))
/-- A whole struct goes into its box. -/
theorem wp_store_row' (hgd : o.guard = none) (ty : TypeId) (x y : Operand) (ho : o.op = .store ty x y)
    (h : ∃ (g : Nat) (T : TypeId) (cs : Array Value), a.eval x = .pointer (some ⟨g, 0, none⟩) ∧ a.eval y = .agg cs ∧ (∃ old, w.heap[g]? = some (.cells old T (0, 0)) ∧ old.size = cs.size) ∧ (P.info? ty).map (·.size) = some cs.size ∧ cs.all (·.oneCell') = true ∧
      ∀ W' : World, Put g w W' → RowAt W' g T cs → wpList P ops Q rest (a.put o.dst undef) W') : wpList P ops Q (o :: rest) a w := by
  obtain ⟨g, T, cs, hx, hy, ⟨old, hg, hs⟩, hi, h1, h⟩ := h
  exact wpList_store_row hgd _ x y ho g cs hx hy _ old hg hi hs h1 (h _ (put_setRow _ _ _) ⟨setRow_heap _ _ _ _ _ _ hg⟩)
/-- A whole struct is loaded out of its box. -/
theorem wp_load_row' (hgd : o.guard = none) (ty : TypeId) (x : Operand) (ho : o.op = .load ty x) {d : TypeDesc} (hu : P.underlying ty = some d) (hd : (match d with | .struct _ | .array _ _ => true | _ => false) = true)
    (h : ∃ (g : Nat) (T : TypeId) (cs : Array Value), a.eval x = .pointer (some ⟨g, 0, none⟩) ∧ RowAt w g T cs ∧ (P.info? ty).map (·.size) = some cs.size ∧ wpList P ops Q rest (a.put o.dst (.agg cs)) w) : wpList P ops Q (o :: rest) a w := by
  obtain ⟨g, T, cs, hx, hp, hi, h⟩ := h
  exact wpList_load_row hgd ty x ho g hx T cs (0, 0) d hp.heap hu hd hi h
/-- An element of a row of the call's own is loaded. -/
theorem wp_load_elem (hgd : o.guard = none) (ty : TypeId) (x : Operand) (ho : o.op = .load ty x) {d : TypeDesc} (hu : P.underlying ty = some d) (hd : d.isRow = true)
    (h : ∃ (b off : Nat) (cs : List Value), a.eval x = .pointer (some ⟨b, off, none⟩) ∧ w.rangeAt b off cs ∧ (P.info? ty).map (·.size) = some cs.length ∧ wpList P ops Q rest (a.put o.dst (.agg cs.toArray)) w) : wpList P ops Q (o :: rest) a w := by
  obtain ⟨b, off, cs, hx, hp, hi, h⟩ := h
  exact wpList_load_mid hgd ty x ho b off hx cs d hp hu hd hi h
end
end Go.Proofs.YtgkndhpolcnjbaaGreatDoor
namespace Go.Proofs.YtgkndhpolcnjbaaGreatDoor
open Go.RowKit Go.Sort
section
variable {P : Program} {ops : Array Oper} {Q : Exit → Act → World → Prop} {md : Region.Mode} {S : World → Prop} {fuel : Nat} {listed : Array Bool} {a : Act} {w : World}
theorem getD_some {i : Nat} (h : Nat.blt i ops.size = true) : ops[i]? = some (ops.getD i default) := by
  have hlt : i < ops.size := by simpa using h
  rw [Array.getElem?_eq_getElem hlt, Array.getD_eq_getD_getElem?, Array.getElem?_eq_getElem hlt]; rfl
/-- Operation i is taken first; what it puts goes into slot d. -/
theorem takeD (i : Nat) (d : Option Tmp) (v : Value) (ho : Nat.blt i ops.size = true) (hd : (ops.getD i default).dst = d)
    (hs : Region.noSelect ops = true) (hf : Region.free md ops listed i = true) (hr : (Region.ready md ops listed).contains i = true)
    (hQ : ∀ c a w, Q (.panic c) (a.put d v) w → Q (.panic c) a w) (hy : YieldsIf P ops S (ops.getD i default) v a) (hS : S w)
    (h : wpAnyH P md ops Q S fuel (listed.setIfInBounds i true) (a.put d v) w) : wpAnyH P md ops Q S (fuel + 1) listed a w := by
  subst hd
  exact wpAnyH_take (getD_some ho) hs hf hr hQ hy hS h
/-- The one operation that may come up. -/
theorem takeOne (i : Nat) (ho : Nat.blt i ops.size = true) (hr : Region.ready md ops listed = [i]) (hw : Region.wanted (ops.getD i default) (yielded ops a.tmps) = true)
    (h : (ops.getD i default).wp P a w (fun a' w' => S w' ∧ wpAnyH P md ops Q S fuel (listed.setIfInBounds i true) a' w') Q) : wpAnyH P md ops Q S (fuel + 1) listed a w :=
  wpAnyH_all hr (by simp) fun j hj => by
    obtain rfl : j = i := by simpa using hj
    unfold wpOp
    rw [getD_some ho]
    simp only [hw, if_true]
    exact .inl h
theorem yi_pure {o : Oper} {v v0 : Value} (hw : Region.wanted o (yielded ops a.tmps) = true) (h : ∀ w, (execOp a.eval o).run P w = .ok (.value v0) w) (hv : v0 = v) : YieldsIf P ops S o v a :=
  .inl ⟨hw, fun w _ => by rw [h w, hv]⟩
theorem yi_none {o : Oper} (hw : Region.wanted o (yielded ops a.tmps) = false) : YieldsIf P ops S o undef a := .inr ⟨hw, rfl⟩
theorem yi_load {o : Oper} {v : Value} (hw : Region.wanted o (yielded ops a.tmps) = true) (ty : TypeId) (x : Operand) (ho : o.op = .load ty x) (p : Addr) (hx : a.eval x = .pointer (some p))
    (hl : ∀ (w : World), w.cell? p = some v → (loadVar ty p).run P w = .ok v w) (hS : ∀ w, S w → w.cell? p = some v) : YieldsIf P ops S o v a :=
  .inl ⟨hw, fun w h => by
    unfold execOp
    simp only [ho, hx, Instr.loadAt, Instr.sureAddr, Sem.run_bind, Sem.run_pure, Result.andThen_ok, hl w (hS w h)]⟩
end
theorem load_int (p : Addr) (v : Value) (w : World) (h : w.cell? p = some v) : (loadVar 3 p).run Tryz.prog w = .ok v w := by
  simp [go_sem, h]
theorem load_u8 (p : Addr) (v : Value) (w : World) (h : w.cell? p = some v) : (loadVar 5 p).run Tryz.prog w = .ok v w := by
  simp [go_sem, h]
theorem load_i8 (p : Addr) (v : Value) (w : World) (h : w.cell? p = some v) : (loadVar 26 p).run Tryz.prog w = .ok v w := by
  simp [go_sem, h]
end Go.Proofs.YtgkndhpolcnjbaaGreatDoor
namespace Go.Proofs.YtgkndhpolcnjbaaGreatDoor
open Go.RowKit Go.Sort
attribute [local go_sem] Oper.semAt_some
/-- A move: from, to, what it becomes, what is dropped, whether it is a castling. -/
abbrev Mv := Int × Int × Int × Int × Bool
namespace M
theorem below_drew {B : Nat} {a w : World} (h : Below B a w) (n : Nat) : Below B a (w.drewN n) := ⟨h.os, h.tape, h.output, h.size, h.block⟩
def cell (m : Mv) : List Value := [.int .i8 m.1, .int .i8 m.2.1, .int .u8 m.2.2.1, .int .u8 m.2.2.2.1, .bool m.2.2.2.2]
def cells (l : List Mv) : List Value := l.flatMap cell
theorem cells_snoc (l : List Mv) (x : Mv) : cells (l ++ [x]) = cells l ++ cell x := by simp [cells]
theorem cells_at (l : List Mv) (i : Nat) (x : Mv) (h : l[i]? = some x) (j : Nat) (v : Value) (hv : (cell x)[j]? = some v) : (cells l)[i * 5 + j]? = some v := by
  induction l generalizing i with
  | nil => cases h
  | cons a l ih =>
    unfold cells
    rw [List.flatMap_cons]
    cases i with
    | zero =>
      simp at h
      subst h
      have : j < (cell a).length := (List.getElem?_eq_some_iff.1 hv).1
      rw [List.getElem?_append_left (by omega), Nat.zero_mul, Nat.zero_add, hv]
    | succ i =>
      rw [List.getElem?_append_right (by simp [cell]; omega), show (i + 1) * 5 + j - (cell a).length = i * 5 + j by simp [cell]; omega]
      exact ih i (by simpa using h)
/-- A move stands at its place. -/
def At (w : World) (b off : Nat) (x : Mv) : Prop := w.rangeAt b off (cell x)
theorem at_of {w : World} {b : Nat} {l : List Mv} (h : ∀ j u, (cells l)[j]? = some u → w.cell? ⟨b, j, none⟩ = some u) (i : Nat) (x : Mv) (hx : l[i]? = some x) : At w b (i * 5) x := fun j v hv => h _ _ (cells_at l i x hx j v hv)
theorem At.below {w w' : World} {b off : Nat} {x : Mv} (h : At w b off x) (hb : Below w.heap.size w w') : At w' b off x := fun j v hv => by
  have := h j v hv
  exact (hb.cell (p := ⟨b, off + j, none⟩) (World.block_lt_of_cell? w _ this)).trans this
theorem At.five {w : World} {b off : Nat} {f g p d : Int} {c : Bool} (h : At w b off (f, g, p, d, c)) : w.cell? ⟨b, off, none⟩ = some (.int .i8 f) ∧ w.cell? ⟨b, off + 1, none⟩ = some (.int .i8 g) ∧ w.cell? ⟨b, off + 2, none⟩ = some (.int .u8 p) ∧ w.cell? ⟨b, off + 3, none⟩ = some (.int .u8 d) ∧ w.cell? ⟨b, off + 4, none⟩ = some (.bool c) :=
  ⟨h 0 _ rfl, h 1 _ rfl, h 2 _ rfl, h 3 _ rfl, h 4 _ rfl⟩
/-- A row that is owned, or none. -/
theorem row_open {w : World} {base : Nat} {e : TypeId} {v : Value} {n : Nat} {xs : List Value} (h : w.ownsRow base e 5 v n xs) :
    ∃ ao cap, v = .slice ao n cap ∧ n ≤ cap ∧ cap ≤ maxLen ∧ (0 < n → ∃ b, ao = some ⟨b, 0, none⟩ ∧ base ≤ b ∧ b < w.heap.size ∧ ∀ j u, xs[j]? = some u → w.cell? ⟨b, j, none⟩ = some u) := by
  rcases h.2 with ⟨rfl, rfl⟩ | ⟨g, cap, cur, rfl, hb, hg, hnc, hcm, hcs, htake⟩
  · exact ⟨_, _, rfl, Nat.le_refl _, by unfold maxLen; omega, fun h => absurd h (by omega)⟩
  · refine ⟨_, cap, rfl, hnc, hcm, fun _ => ⟨g, rfl, hb, (Array.getElem?_eq_some_iff.1 hg).1, ?_⟩⟩
    intro j u hu
    rw [← htake, List.getElem?_take] at hu
    split at hu
    · simp only [World.cell?, hg]
      simpa using hu
    · cases hu
end M
end Go.Proofs.YtgkndhpolcnjbaaGreatDoor
namespace Go.Proofs.YtgkndhpolcnjbaaGreatDoor
open Go.RowKit Go.Sort
section
variable {P : Program} {ops : Array Oper} {Q : Exit → Act → World → Prop} {md : Region.Mode} {S : World → Prop} {fuel : Nat} {listed : Array Bool} {a : Act} {w : World}
/-- The one operation that may come up is a call. -/
theorem takeCall (i : Nat) (d : Option Tmp) (f : FuncId) (args : Array Value) (v : Value) (R : World → Prop) (ho : Nat.blt i ops.size = true) (hr : Region.ready md ops listed = [i]) (hw : Region.wanted (ops.getD i default) (yielded ops a.tmps) = true)
    (hd : (ops.getD i default).dst = d) (he : (execOp a.eval (ops.getD i default)).run P w = .ok (.enter f args) w)
    (hc : Calls P f args w fun e w' => e = .returned v ∧ R w') (h : ∀ w', R w' → S w' ∧ wpAnyH P md ops Q S fuel (listed.setIfInBounds i true) (a.put d v) w') : wpAnyH P md ops Q S (fuel + 1) listed a w := by
  refine takeOne i ho hr hw ?_
  unfold Oper.wp
  rw [he]
  show Calls P f args w _
  refine hc.mono ?_
  rintro e w' ⟨rfl, hR⟩
  rw [hd]
  exact h w' hR
end
end Go.Proofs.YtgkndhpolcnjbaaGreatDoor
namespace Go.Proofs.YtgkndhpolcnjbaaGreatDoor
open Go.RowKit Go.Sort
section
variable {P : Program} {ops : Array Oper} {Q : Exit → Act → World → Prop} {a : Act} {w : World} {K : Act → World → Prop}
end
end Go.Proofs.YtgkndhpolcnjbaaGreatDoor
namespace Go.Proofs.YtgkndhpolcnjbaaGreatDoor
open Go.RowKit Go.Sort
section
variable {P : Program} {Q : Exit → Act → World → Prop} {n : Nat}
/-- THE LAW. -/
theorem rangeFunc_tellsW {α : Type} {g : Operand} {ps : Array Tmp} {assign body : Code} {a : Act} {w : World} {gf : Nat} {lb : Array Value}
    (Wr : World → World → Prop) (hWb : ∀ (W W' : World) (k : Nat), Wr W W' → w.heap.size ≤ k → W'.heap[k]? = W.heap[k]?)
    (hg : a.eval g = .func (.func gf) #[] lb) (eg : ∀ args w, (callFunc gf args).run P w = .ok (.enter gf args) w)
    (encs : α → Array Value) (hps : ∀ x, (encs x).size = ps.size) (I : List α → World → Prop) (Ok : List α → α → World → Prop) (Kp : World → World → Prop) (Ax : α → Act → World → Prop) (S : List α → Prop)
    (hIW : ∀ s W W', I s W → Wr W W' → I s W') (hI1 : ∀ s, Grows (I s)) (hI2 : ∀ s, Puts w.heap.size (I s)) (hO2 : ∀ s x, Puts w.heap.size (Ok s x)) (hA2 : ∀ x a', Puts w.heap.size (Ax x a'))
    (hKt : ∀ {A B C : World}, Kp A B → Kp B C → Kp A C) (hKp : ∀ W, Puts w.heap.size (Kp W)) (hKr : ∀ W, Kp W W)
    (hiter : ∀ (l : Nat) (J : List α → World → Prop) (W : World), Below w.heap.size w W → (∀ s, Grows (J s)) → (∀ s W W', J s W → Wr W W' → J s W') → J [] W →
      (∀ pre x W1, J pre W1 → Ok pre x W1 → YieldAt Fence.wide (n - 1 - 1) P l (encs x) W1 fun e W' => e = .returned (.bool true) ∧ J (pre ++ [x]) W' ∧ Kp W1 W') →
      CallsIn Fence.wide (n - 1) P gf (#[.func (.yield l) #[] #[]] ++ lb) W fun e W' => (∃ v, e = .returned v) ∧ ∃ xs, S xs ∧ J xs W')
    (h0 : I [] w)
    (hassign : ∀ (l : Nat) (pre : List α) (x : α) (W : World) (K : Act → World → Prop), I pre W → Ok pre x W → (∀ a' W', KeepsFrom w.heap.size W W' → Kp W W' → I pre W' → Ok pre x W' → Ax x a' W' → K a' W') →
      assign.wpIn (Fence.wide.inRound l) (n - 1 - 1) P (Exit.then K (fun _ _ _ => False)) { tmps := (ps.zip (encs x)).foldl (fun t (p, v) => t.setIfInBounds p v) a.tmps, defers := [] } W)
    (hbody : ∀ (l : Nat) (pre : List α) (x : α) (a' : Act) (W : World), w.heap.size ≤ l → I pre W → Ok pre x W → Ax x a' W →
      body.wpIn (Fence.wide.inRound l) (n - 1 - 1) P (fun e _ W' => e = .normal ∧ KeepsFrom w.heap.size W W' ∧ Kp W W' ∧ I (pre ++ [x]) W') a' W)
    (hdone : ∀ (D : Nat) (xs : List α) (W : World), w.heap.size ≤ D → S xs → I xs W → W.heap[D]? = some (.deferred (some [])) → Q .normal { a with defers := { target := .collected D, args := #[] } :: a.defers } W) :
    (Code.rangeFunc g ps assign body).wpIn Fence.wide n P Q a w := by
  refine wpIn_rangeFunc fun fn hfn => ?_
  generalize hB : w.heap.size = B at *
  -- the record of the loop; where it lies, and the block beneath it
  let rc : LoopState → Loop := fun st => { state := st, pending := none, fn, tmps := a.tmps, params := ps, assign, body, defers := B }
  let Bk : World → Prop := fun W => W.heap[B + 1]? = some (.loop (rc .ready)) ∧ W.heap[B]? = some (.deferred (some []))
  have hBg : Grows Bk := fun W W' h hb => ⟨(hb.block _ (Array.getElem?_eq_some_iff.1 h.1).1).trans h.1, (hb.block _ (Array.getElem?_eq_some_iff.1 h.2).1).trans h.2⟩
  let W1 : World := (w.alloc (.deferred (some []))).alloc (.loop (rc .ready))
  have hW1 : Below B w W1 := by
    have := ((Below.refl w.heap.size w).alloc (Nat.le_refl _) (.deferred (some []))).alloc (by simp) (.loop (rc .ready))
    rwa [hB] at this
  have hbk1 : Bk W1 := by
    constructor
    · have := World.alloc_heap_new (w.alloc (.deferred (some []))) (.loop (rc .ready))
      rwa [World.size_alloc, hB] at this
    · have := (Below.heap_alloc (w.alloc (.deferred (some []))) (.loop (rc .ready)) w.heap.size (by simp)).trans (World.alloc_heap_new w _)
      rwa [hB] at this
  have hI1' : I [] W1 := hI1 _ w W1 h0 (by rw [hB]; exact hW1)
  refine ⟨B + 1, [{ target := .collected B, args := #[] }], W1, { target := .fn (.func gf) lb, args := #[.func (.yield (B + 1)) #[] #[]] }, W1, gf, #[.func (.yield (B + 1)) #[] #[]] ++ lb, W1, ?_, ?_, fun _ _ => trivial, ?_, fun h => by simp [Fence.wide] at h, ?_⟩
  · have := run_enterLoop_outer (P := P) (w := w) fn a.tmps ps assign body
    rw [hB] at this
    exact this
  · simp only [resolve, hg]
    simp [go_sem]
  · simp [invoke, go_sem, eg]
  · refine (hiter (B + 1) (fun s W => I s W ∧ Bk W) W1 hW1 (fun s W W' h hb => ⟨hI1 s W W' h.1 hb, hBg W W' h.2 hb⟩) (fun s W W' h hw => ⟨hIW s W W' h.1 hw, (hWb W W' (B + 1) hw (Nat.le_succ B)).trans h.2.1, (hWb W W' B hw (Nat.le_refl B)).trans h.2.2⟩) ⟨hI1', hbk1⟩ ?_).mono ?_
    · rintro pre x W ⟨hi, hl, hk⟩ hok
      refine ⟨fn, _, assign, body, run_yield (P := P) hl (hps x), roundIn_of_wpIn trivial (hassign (B + 1) pre x W _ hi hok fun a' Wa hkf hkp hia hoa hax => ?_)⟩
      have hla := hkf.same _ _ (Nat.le_succ B) hl rfl
      have hka := hkf.same _ _ (Nat.le_refl B) hk rfl
      refine ⟨_, run_beginRound hla rfl, ?_⟩
      have hlt := (Array.getElem?_eq_some_iff.1 hla).1
      have hp := hI2 pre Wa (B + 1) _ (.loop { rc .ready with state := .busy }) hia (Nat.le_succ B) hla rfl
      have hkp2 := hKp Wa Wa (B + 1) _ (.loop { rc .ready with state := .busy }) (hKr Wa) (Nat.le_succ B) hla rfl
      refine wpIn_mono (hbody (B + 1) pre x a' _ (Nat.le_succ B) hp (hO2 pre x Wa (B + 1) _ _ hoa (Nat.le_succ B) hla rfl) (hA2 x a' Wa (B + 1) _ _ hax (Nat.le_succ B) hla rfl)) ?_
      rintro e a3 W3 ⟨rfl, hk3, hkp3, hi3⟩
      have hl3 := hk3.same (B + 1) (.loop { rc .ready with state := .busy }) (Nat.le_succ B) (World.putObj_heap_same hlt) rfl
      have hd3 := hk3.same B (.deferred (some [])) (Nat.le_refl B) ((World.putObj_heap_other (by omega)).trans hka) rfl
      refine ⟨_, _, run_endRound (P := P) none hl3, rfl, ⟨hI2 _ W3 (B + 1) _ _ hi3 (Nat.le_succ B) hl3 rfl, World.putObj_heap_same (Array.getElem?_eq_some_iff.1 hl3).1, (World.putObj_heap_other (by omega)).trans hd3⟩, ?_⟩
      exact hKt hkp (hKt hkp2 (hKp _ W3 (B + 1) _ _ hkp3 (Nat.le_succ B) hl3 rfl))
    · rintro e W2 ⟨⟨v, rfl⟩, xs, hS, hi, hl, hk⟩
      exact ⟨none, _, run_endLoop (P := P) hl (by simp [rc]), hdone B xs _ (Nat.le_refl B) hS (hI2 _ W2 (B + 1) _ _ hi (Nat.le_succ B) hl rfl) ((World.putObj_heap_other (by omega)).trans hk)⟩
end
end Go.Proofs.YtgkndhpolcnjbaaGreatDoor
namespace Go.Proofs.YtgkndhpolcnjbaaGreatDoor
open Go.RowKit Go.Sort
/-- What a round keeps: all below n0, and what the iterator owns. -/
def KO (n0 : Nat) (O : Nat → Prop) (W W' : World) : Prop := Below n0 W W' ∧ ∀ b, O b → W'.heap[b]? = W.heap[b]?
theorem KO.refl (n0 : Nat) (O : Nat → Prop) (W : World) : KO n0 O W W := ⟨Below.refl _ _, fun _ _ => rfl⟩
theorem KO.trans {n0 : Nat} {O : Nat → Prop} {A B C : World} (h : KO n0 O A B) (k : KO n0 O B C) : KO n0 O A C := ⟨h.1.trans k.1, fun b hb => (k.2 b hb).trans (h.2 b hb)⟩
theorem KO.put {n0 : Nat} {O : Nat → Prop} (W : World) (l : Nat) (o' : Obj) (hs : n0 ≤ W.heap.size) (hl : n0 ≤ l) (ho : ¬ O l) : KO n0 O W (W.putObj l o') :=
  ⟨(Below.refl n0 W).grown (grownBy_putObj' W l o') hs (fun k e => by cases e; omega), fun b hb => World.putObj_heap_other (fun e => ho (e ▸ hb))⟩
/-- The iterator makes memory; it may own the new blocks. -/
def Owns1 {α : Type} (I : (Nat → Prop) → List α → World → Prop) : Prop := ∀ O O' s W W', I O s W → Below W.heap.size W W' → (∀ b, O' b → O b ∨ (W.heap.size ≤ b ∧ b < W'.heap.size)) → I O' s W'
/-- It writes to a block that it owns. -/
def Owns2 {α : Type} (I : (Nat → Prop) → List α → World → Prop) : Prop := ∀ O s W W' b, I O s W → O b → Put b W W' → I O s W'
section
variable {P : Program} {Q : Exit → Act → World → Prop} {n : Nat}
/-- THE LAW. -/
theorem rangeFunc_tellsO {α : Type} {g : Operand} {ps : Array Tmp} {assign body : Code} {a : Act} {w : World} {gf : Nat} {lb : Array Value}
    (n0 : Nat) (hn0 : n0 ≤ w.heap.size) (O0 : Nat → Prop) (hO0 : ∀ b, O0 b → b < w.heap.size)
    (hg : a.eval g = .func (.func gf) #[] lb) (eg : ∀ args w, (callFunc gf args).run P w = .ok (.enter gf args) w)
    (encs : α → Array Value) (hps : ∀ x, (encs x).size = ps.size) (I : (Nat → Prop) → List α → World → Prop) (Ok : List α → α → World → Prop) (Ax : α → Act → World → Prop) (S : List α → Prop)
    (hI1 : Owns1 I) (hI3 : Owns2 I) (hI2 : ∀ O s, Puts w.heap.size (I O s)) (hO2 : ∀ s x, Puts w.heap.size (Ok s x)) (hA2 : ∀ x a', Puts w.heap.size (Ax x a'))
    (hiter : ∀ (l : Nat) (J : (Nat → Prop) → List α → World → Prop) (W : World), Below w.heap.size w W → Owns1 J → Owns2 J → J O0 [] W →
      (∀ O pre x W1, J O pre W1 → Ok pre x W1 → YieldAt Fence.wide (n - 1 - 1) P l (encs x) W1 fun e W' => e = .returned (.bool true) ∧ J O (pre ++ [x]) W' ∧ KO n0 O W1 W') →
      CallsIn Fence.wide (n - 1) P gf (#[.func (.yield l) #[] #[]] ++ lb) W fun e W' => (∃ v, e = .returned v) ∧ ∃ O xs, S xs ∧ J O xs W')
    (h0 : I O0 [] w)
    (hassign : ∀ (l : Nat) (O : Nat → Prop) (pre : List α) (x : α) (W : World) (K : Act → World → Prop), I O pre W → Ok pre x W → (∀ a' W', KeepsFrom w.heap.size W W' → KO n0 O W W' → I O pre W' → Ok pre x W' → Ax x a' W' → K a' W') →
      assign.wpIn (Fence.wide.inRound l) (n - 1 - 1) P (Exit.then K (fun _ _ _ => False)) { tmps := (ps.zip (encs x)).foldl (fun t (p, v) => t.setIfInBounds p v) a.tmps, defers := [] } W)
    (hbody : ∀ (l : Nat) (O : Nat → Prop) (pre : List α) (x : α) (a' : Act) (W : World), w.heap.size ≤ l → I O pre W → Ok pre x W → Ax x a' W →
      body.wpIn (Fence.wide.inRound l) (n - 1 - 1) P (fun e _ W' => e = .normal ∧ KeepsFrom w.heap.size W W' ∧ KO n0 O W W' ∧ I O (pre ++ [x]) W') a' W)
    (hdone : ∀ (D : Nat) (O : Nat → Prop) (xs : List α) (W : World), w.heap.size ≤ D → S xs → I O xs W → W.heap[D]? = some (.deferred (some [])) → Q .normal { a with defers := { target := .collected D, args := #[] } :: a.defers } W) :
    (Code.rangeFunc g ps assign body).wpIn Fence.wide n P Q a w := by
  refine wpIn_rangeFunc fun fn hfn => ?_
  generalize hB : w.heap.size = B at *
  -- the record of the loop; where it lies, and the block beneath it
  let rc : LoopState → Loop := fun st => { state := st, pending := none, fn, tmps := a.tmps, params := ps, assign, body, defers := B }
  let Bk : World → Prop := fun W => W.heap[B + 1]? = some (.loop (rc .ready)) ∧ W.heap[B]? = some (.deferred (some []))
  have hBg : Grows Bk := fun W W' h hb => ⟨(hb.block _ (Array.getElem?_eq_some_iff.1 h.1).1).trans h.1, (hb.block _ (Array.getElem?_eq_some_iff.1 h.2).1).trans h.2⟩
  let W1 : World := (w.alloc (.deferred (some []))).alloc (.loop (rc .ready))
  have hW1 : Below B w W1 := by
    have := ((Below.refl w.heap.size w).alloc (Nat.le_refl _) (.deferred (some []))).alloc (by simp) (.loop (rc .ready))
    rwa [hB] at this
  have hbk1 : Bk W1 := by
    constructor
    · have := World.alloc_heap_new (w.alloc (.deferred (some []))) (.loop (rc .ready))
      rwa [World.size_alloc, hB] at this
    · have := (Below.heap_alloc (w.alloc (.deferred (some []))) (.loop (rc .ready)) w.heap.size (by simp)).trans (World.alloc_heap_new w _)
      rwa [hB] at this
  have hI1' : I O0 [] W1 := hI1 O0 O0 [] w W1 h0 (by rw [hB]; exact hW1) (fun b hb => .inl hb)
  refine ⟨B + 1, [{ target := .collected B, args := #[] }], W1, { target := .fn (.func gf) lb, args := #[.func (.yield (B + 1)) #[] #[]] }, W1, gf, #[.func (.yield (B + 1)) #[] #[]] ++ lb, W1, ?_, ?_, fun _ _ => trivial, ?_, fun h => by simp [Fence.wide] at h, ?_⟩
  · have := run_enterLoop_outer (P := P) (w := w) fn a.tmps ps assign body
    rw [hB] at this
    exact this
  · simp only [resolve, hg]
    simp [go_sem]
  · simp [invoke, go_sem, eg]
  · refine (hiter (B + 1) (fun O s W => I O s W ∧ Bk W ∧ ¬ O B ∧ ¬ O (B + 1)) W1 hW1
      (fun O O' s W W' h hb ho => ⟨hI1 O O' s W W' h.1 hb ho, hBg W W' h.2.1 hb, fun hx => (ho _ hx).elim h.2.2.1 (fun e => by have := (Array.getElem?_eq_some_iff.1 h.2.1.2).1; omega), fun hx => (ho _ hx).elim h.2.2.2 (fun e => by have := (Array.getElem?_eq_some_iff.1 h.2.1.1).1; omega)⟩)
      (fun O s W W' b h hob hp => ⟨hI3 O s W W' b h.1 hob hp, ⟨(hp.block _ (fun e => h.2.2.2 (by rw [e]; exact hob))).trans h.2.1.1, (hp.block _ (fun e => h.2.2.1 (by rw [e]; exact hob))).trans h.2.1.2⟩, h.2.2⟩)
      ⟨hI1', hbk1, fun h => by have := hO0 _ h; omega, fun h => by have := hO0 _ h; omega⟩ ?_).mono ?_
    · rintro O pre x W ⟨hi, ⟨hl, hk⟩, hnB, hnB1⟩ hok
      refine ⟨fn, _, assign, body, run_yield (P := P) hl (hps x), roundIn_of_wpIn trivial (hassign (B + 1) O pre x W _ hi hok fun a' Wa hkf hkp hia hoa hax => ?_)⟩
      have hla := hkf.same _ _ (Nat.le_succ B) hl rfl
      have hka := hkf.same _ _ (Nat.le_refl B) hk rfl
      refine ⟨_, run_beginRound hla rfl, ?_⟩
      have hlt := (Array.getElem?_eq_some_iff.1 hla).1
      have hp := hI2 O pre Wa (B + 1) _ (.loop { rc .ready with state := .busy }) hia (Nat.le_succ B) hla rfl
      have hkp2 : KO n0 O Wa (Wa.putObj (B + 1) (.loop { rc .ready with state := .busy })) := KO.put Wa (B + 1) _ (by omega) (by omega) hnB1
      refine wpIn_mono (hbody (B + 1) O pre x a' _ (Nat.le_succ B) hp (hO2 pre x Wa (B + 1) _ _ hoa (Nat.le_succ B) hla rfl) (hA2 x a' Wa (B + 1) _ _ hax (Nat.le_succ B) hla rfl)) ?_
      rintro e a3 W3 ⟨rfl, hk3, hkp3, hi3⟩
      have hl3 := hk3.same (B + 1) (.loop { rc .ready with state := .busy }) (Nat.le_succ B) (World.putObj_heap_same hlt) rfl
      have hd3 := hk3.same B (.deferred (some [])) (Nat.le_refl B) ((World.putObj_heap_other (by omega)).trans hka) rfl
      refine ⟨_, _, run_endRound (P := P) none hl3, rfl, ⟨hI2 O _ W3 (B + 1) _ _ hi3 (Nat.le_succ B) hl3 rfl, ⟨World.putObj_heap_same (Array.getElem?_eq_some_iff.1 hl3).1, (World.putObj_heap_other (by omega)).trans hd3⟩, hnB, hnB1⟩, ?_⟩
      exact hkp.trans (hkp2.trans (hkp3.trans (KO.put W3 (B + 1) _ (by have := (Array.getElem?_eq_some_iff.1 hl3).1; omega) (by omega) hnB1)))
    · rintro e W2 ⟨⟨v, rfl⟩, O, xs, hS, hi, ⟨hl, hk⟩, _, _⟩
      exact ⟨none, _, run_endLoop (P := P) hl (by simp [rc]), hdone B O xs _ (Nat.le_refl B) hS (hI2 O _ W2 (B + 1) _ _ hi (Nat.le_succ B) hl rfl) ((World.putObj_heap_other (by omega)).trans hk)⟩
end
end Go.Proofs.YtgkndhpolcnjbaaGreatDoor
namespace Go.Proofs.YtgkndhpolcnjbaaGreatDoor
open Go.RowKit Go.Sort
/-- What a slice owns stands, where its block stands. -/
theorem owns_same {w w' : World} {base : Nat} {e : TypeId} {size : Nat} {v : Value} {n : Nat} {xs : List Value} (ho : w.ownsRow base e size v n xs) (h : ∀ g, v.ownBlock = some g → w'.heap[g]? = w.heap[g]?) : w'.ownsRow base e size v n xs := by
  refine ⟨ho.1, ?_⟩
  rcases ho.2 with ⟨rfl, rfl⟩ | ⟨g, cap, cur, rfl, hb, hg, h1, h2, h3, h4⟩
  · exact .inl ⟨rfl, rfl⟩
  · exact .inr ⟨g, cap, cur, rfl, hb, (h g rfl).trans hg, h1, h2, h3, h4⟩
theorem RowAt.not_own {w : World} {g : Nat} {T : TypeId} {cs : Array Value} {base : Nat} {e : TypeId} {s : Nat} {v : Value} {n : Nat} {xs : List Value} (h : RowAt w g T cs) (h' : w.ownsRow base e s v n xs) (hne : T ≠ e) : v.ownBlock ≠ some g := by
  intro hg
  rcases h'.2 with ⟨rfl, rfl⟩ | ⟨g2, cap', cur', rfl, _, hh', _⟩
  · cases hg
  cases hg
  rw [h.heap] at hh'
  cases hh'
  exact hne rfl
/-- A row of single cells that is owned, or none. -/
theorem row_open1 {w : World} {base : Nat} {e : TypeId} {v : Value} {n : Nat} {xs : List Value} (h : w.ownsRow base e 1 v n xs) :
    ∃ ao cap, v = .slice ao n cap ∧ n ≤ cap ∧ cap ≤ maxLen ∧ (0 < n → ∃ b, ao = some ⟨b, 0, none⟩ ∧ base ≤ b ∧ b < w.heap.size ∧ ∀ j u, xs[j]? = some u → w.cell? ⟨b, j, none⟩ = some u) := by
  rcases h.2 with ⟨rfl, rfl⟩ | ⟨g, cap, cur, rfl, hb, hg, hnc, hcm, hcs, htake⟩
  · exact ⟨_, _, rfl, Nat.le_refl _, by unfold maxLen; omega, fun h => absurd h (by omega)⟩
  · refine ⟨_, cap, rfl, hnc, hcm, fun _ => ⟨g, rfl, hb, (Array.getElem?_eq_some_iff.1 hg).1, ?_⟩⟩
    intro j u hu
    rw [← htake, List.getElem?_take] at hu
    split at hu
    · simp only [World.cell?, hg]
      simpa using hu
    · cases hu
/-- A counter's next step. -/
theorem step_num (m N : Nat) (h : m < N) (hN : N ≤ 1000000) : Value.int .i64 (wrap64 ((m : Int) + 1)) = .int .i64 ((m + 1 : Nat) : Int) ∧ N - (intOf (Value.int .i64 (wrap64 ((m : Int) + 1)))).toNat < N - (intOf (Value.int .i64 (m : Int))).toNat := by
  have hw : wrap64 ((m : Int) + 1) = ((m + 1 : Nat) : Int) := by rw [IntWalk.wrap64_in _ ⟨by omega, by omega⟩]; rfl
  rw [hw]
  refine ⟨rfl, ?_⟩
  show N - (((m + 1 : Nat) : Int)).toNat < N - ((m : Int)).toNat
  rw [Int.toNat_natCast, Int.toNat_natCast]
  omega
theorem step_num' (m N : Nat) (h : m < N) : Value.int .i64 ((m : Int) + 1) = .int .i64 ((m + 1 : Nat) : Int) ∧ N - (intOf (Value.int .i64 ((m : Int) + 1))).toNat < N - (intOf (Value.int .i64 (m : Int))).toNat := by
  have hw : ((m : Int) + 1) = ((m + 1 : Nat) : Int) := rfl
  rw [hw]
  refine ⟨rfl, ?_⟩
  show N - (((m + 1 : Nat) : Int)).toNat < N - ((m : Int)).toNat
  rw [Int.toNat_natCast, Int.toNat_natCast]
  omega
end Go.Proofs.YtgkndhpolcnjbaaGreatDoor
namespace Go.Proofs.YtgkndhpolcnjbaaGreatDoor
open Go.RowKit Go.Sort Go.Lib
theorem Tryz.info_MoveO : (Tryz.prog.info? 40).map (fun i => (i.zero, i.size, i.bytes)) = some (some (.agg #[.int .i8 0, .int .i8 0, .int .u8 0, .int .u8 0, .bool false]), 5, 5) := by kernel_rfl
theorem Tryz.bytes_move : Tryz.t40.bytes = 5 := by kernel_rfl
/-- What Grow lays. -/
theorem grow_owns (w : World) (n : Nat) (hn : n ≤ 100000) : ((w.alloc (.cells (Builtin.zeroCells #[.int .i8 0, .int .i8 0, .int .u8 0, .int .u8 0, .bool false] n ++ Builtin.zeroCells #[.int .i8 0, .int .i8 0, .int .u8 0, .int .u8 0, .bool false] (grownCap w n 0 40 - n)) 40)).drew).ownsRow w.heap.size 40 5 (.slice (some ⟨w.heap.size, 0, none⟩) 0 (grownCap w n 0 40)) 0 [] := by
  have h1 := grownCap_ge w n 0 40
  have h2 := grownCap_le_maxLen w n 0 40 (by unfold maxLen; omega)
  refine ⟨rfl, .inr ⟨_, _, _, rfl, Nat.le_refl _, heap_alloc_new w _, Nat.zero_le _, h2, ?_, rfl⟩⟩
  rw [Array.size_append, size_zeroCells, size_zeroCells]
  show n * 5 + (grownCap w n 0 _ - n) * 5 = _
  rw [← Nat.add_mul]
  congr 1
  omega
set_option maxRecDepth 100000 in
set_option maxHeartbeats 1000000 in
theorem grow_any (n : Nat) (w : World) (hn : n ≤ 100000) : Calls Tryz.prog 107 #[.slice none 0 0, .int .i64 (n : Int)] w fun e w' => ∃ v, e = .returned v ∧ w'.ownsRow w.heap.size 40 5 v 0 [] ∧ Below w.heap.size w w' := by
  by_cases h : n = 0
  · subst h
    go_enter Tryz.func107, Tryz.ntmps107
    go_wp2
    go_ret
    exact ⟨_, rfl, ⟨rfl, .inl ⟨rfl, rfl⟩⟩, Below.refl _ _⟩
  · have h0 : (0 : Int) < (n : Int) := by omega
    have hB := Tryz.bytes_move
    have hC : Builtin.nextslicecap n 0 = n := by unfold Builtin.nextslicecap; rw [if_pos (by omega)]
    have hO := Lib.hid (grow_owns w n hn)
    go_enter Tryz.func107, Tryz.ntmps107
    go_wp2
    go_ret
    exact ⟨_, rfl, hO.out, ((Below.refl _ _).alloc (Nat.le_refl _) _).drew⟩
end Go.Proofs.YtgkndhpolcnjbaaGreatDoor
namespace Go.Proofs.YtgkndhpolcnjbaaGreatDoor
open Go.RowKit Go.Sort Go.Lib
namespace M
/-- A slice that reads as these moves. -/
def Reads (w : World) (v : Value) (l : List Mv) : Prop :=
  ∃ ao cap, v = .slice ao l.length cap ∧ l.length ≤ cap ∧ cap ≤ maxLen ∧ (ao = none → l.length = 0 ∧ cap = 0) ∧ (0 < l.length → ∃ b off, ao = some ⟨b, off, none⟩ ∧ b < w.heap.size ∧ ∀ j u, (cells l)[j]? = some u → w.cell? ⟨b, off + j, none⟩ = some u)
theorem Reads.below {w w' : World} {v : Value} {l : List Mv} (h : Reads w v l) (hb : Below w.heap.size w w') : Reads w' v l := by
  obtain ⟨ao, cap, h1, h2, h3, h4, h5⟩ := h
  refine ⟨ao, cap, h1, h2, h3, h4, fun h => ?_⟩
  obtain ⟨b, off, k1, k2, k3⟩ := h5 h
  exact ⟨b, off, k1, Nat.lt_of_lt_of_le k2 hb.size, fun j u hu => (hb.cell (p := ⟨b, off + j, none⟩) k2).trans (k3 j u hu)⟩
theorem reads_own {w : World} {base : Nat} {T : TypeId} {v : Value} {l : List Mv} (h : w.ownsRow base T 5 v l.length (cells l)) : Reads w v l := by
  obtain ⟨ao, cap, h1, h2, h3, h4⟩ := row_open h
  refine ⟨ao, cap, h1, h2, h3, fun hn => ?_, fun h0 => ?_⟩
  · have : ¬ 0 < l.length := fun h0 => by obtain ⟨b, e, _⟩ := h4 h0; rw [hn] at e; cases e
    have hz : l.length = 0 := by omega
    refine ⟨hz, ?_⟩
    rcases h.2 with ⟨e, _⟩ | ⟨g, c, cur, e, _⟩
    · rw [h1] at e; injection e
    · rw [h1, hn] at e; injection e with e; cases e
  · obtain ⟨b, e, _, hb, hc⟩ := h4 h0
    exact ⟨b, 0, e, hb, fun j u hu => by rw [Nat.zero_add]; exact hc j u hu⟩
theorem cells_len (l : List Mv) : (cells l).length = l.length * 5 := by
  induction l with
  | nil => rfl
  | cons a l ih => unfold cells at *; rw [List.flatMap_cons, List.length_append, ih]; simp [cell]; omega
theorem cells_app (a b : List Mv) : cells (a ++ b) = cells a ++ cells b := by simp [cells]
theorem cells_one (l : List Mv) : ∀ u ∈ cells l, u.oneCell' = true := by
  intro u hu
  unfold cells at hu
  rw [List.mem_flatMap] at hu
  obtain ⟨x, _, hx⟩ := hu
  simp [cell] at hx
  rcases hx with rfl | rfl | rfl | rfl | rfl <;> rfl
def cat (ps : List (Value × List Mv)) (i : Nat) : List Mv := (ps.take i).flatMap (·.2)
theorem cat_succ {ps : List (Value × List Mv)} {i : Nat} {x : Value × List Mv} (h : ps[i]? = some x) : cat ps (i + 1) = cat ps i ++ x.2 := by
  unfold cat; rw [List.take_add_one, h, List.flatMap_append]; simp
theorem cat_le (ps : List (Value × List Mv)) (i : Nat) : (cat ps i).length ≤ (cat ps ps.length).length := by
  have e : (ps.take i) ++ (ps.drop i) = ps := List.take_append_drop i ps
  unfold cat
  rw [List.take_length]
  conv => rhs; rw [← e]
  rw [List.flatMap_append, List.length_append]
  omega
end M
set_option maxRecDepth 100000 in
set_option maxHeartbeats 1000000 in
theorem concat_any (bp cp : Nat) (ps : List (Value × List Mv)) (w : World) (hcp : ps.length ≤ cp) (hps : ps.length ≤ 100) (hc : ∀ j x, ps[j]? = some x → w.cell? ⟨bp, j, none⟩ = some x.1) (hbp : bp < w.heap.size) (hr : ∀ (j : Nat) (x : Value × List Mv), ps[j]? = some x → M.Reads w x.1 x.2) (hn : (M.cat ps ps.length).length ≤ 100000) :
    Calls Tryz.prog 49 #[.slice (some ⟨bp, 0, none⟩) ps.length cp] w fun e w' => ∃ v, e = .returned v ∧ w'.ownsRow w.heap.size 40 5 v (M.cat ps ps.length).length (M.cells (M.cat ps ps.length)) ∧ Below w.heap.size w w' := by
  obtain ⟨q, hq⟩ : ∃ q, ps.length = q := ⟨_, rfl⟩
  have Hq := Lib.hid hq
  have HC := Lib.hid (fun W (hb : Below w.heap.size w W) j x (hx : ps[j]? = some x) => (show W.cell? ⟨bp, j, none⟩ = some x.1 from (hb.cell (p := ⟨bp, j, none⟩) hbp).trans (hc j x hx)))
  have HR := Lib.hid (fun W (hb : Below w.heap.size w W) j x (hx : ps[j]? = some x) => (hr j x hx).below hb)
  have HN := Lib.hid hn
  rw [hq] at hcp hps ⊢
  clear hq hc hr hn
  obtain ⟨i0, hi, hz0, hz1, hz2⟩ := info_parts Tryz.info_MoveO
  go_enter Tryz.func49, Tryz.ntmps49
  go_wp2
  go_loopw [3, 11] (fun vs vi wr => ∃ i : Nat, i ≤ q ∧ vi = .int .i64 (i : Int) ∧ vs = .int .i64 ((M.cat ps i).length : Int) ∧ wr = w) (fun _ vi _ => q - (RowKit.intOf vi).toNat)
  case atStart => exact ⟨0, by omega, rfl, rfl, rfl⟩
  case round =>
    obtain ⟨i, hiq, rfl, rfl, hww⟩ := hrel
    subst wr
    by_cases hlt : i < q
    · obtain ⟨x, hx⟩ : ∃ x, ps[i]? = some x := ⟨_, List.getElem?_eq_getElem (by rw [Hq.out]; exact hlt)⟩
      have h1 := HC.out _ (Below.refl _ _) i x hx
      obtain ⟨ao, cap, e1, h2, h3, h4, h5⟩ := HR.out _ (Below.refl _ _) i x hx
      rw [e1] at h1
      have hs := M.cat_succ hx
      have hl := M.cat_le ps (i + 1)
      have hn := HN.out
      rw [Hq.out] at hn hl
      have hl2 : (M.cat ps (i + 1)).length = (M.cat ps i).length + x.2.length := by rw [hs, List.length_append]
      clear hs e1 h5 h4 hx
      go_wp2
      go_roundw
      case measure => simp [RowKit.intOf]; omega
      case rel => exact ⟨i + 1, by omega, by go_num, by rw [hl2]; go_num, by first | rfl | trivial⟩
    · obtain rfl : i = q := by omega
      clear hlt hiq
      have hn := HN.out
      rw [Hq.out] at hn
      go_wp2_with (go_at_call 107; refine (grow_any _ _ hn).mono ?_; rintro e w1 ⟨v1, rfl, hown, hb⟩)
      have HB := Lib.hid hb
      obtain ⟨B, hB⟩ : ∃ B, w.heap.size = B := ⟨_, rfl⟩
      rw [hB] at hown hb
      have HBB := Lib.hid hB
      have hbs1 := hb.size
      go_loopw [6, 27] (fun vs vj wr => ∃ (j : Nat) (v : Value), j ≤ i ∧ vj = .int .i64 (j : Int) ∧ vs = v ∧ wr.ownsRow B 40 5 v (M.cat ps j).length (M.cells (M.cat ps j)) ∧ Below B w wr) (fun _ vj _ => i - (RowKit.intOf vj).toNat)
      case atStart => exact ⟨0, v1, by omega, rfl, rfl, hown, hb⟩
      case round =>
        clear hown hb
        obtain ⟨j, v, hji, rfl, rfl, hown, hb⟩ := hrel
        by_cases hlt : j < i
        · obtain ⟨x, hx⟩ : ∃ x, ps[j]? = some x := ⟨_, List.getElem?_eq_getElem (by rw [Hq.out]; exact hlt)⟩
          have hb' : Below w.heap.size w wr := by rw [HBB.out]; exact hb
          have h1 := HC.out _ hb' j x hx
          obtain ⟨ao, cap, e1, h2, h3, h4, h5⟩ := HR.out _ hb' j x hx
          rw [e1] at h1
          have hs := M.cat_succ hx
          have hl := M.cat_le ps (j + 1)
          rw [Hq.out] at hl
          have hl2 : (M.cat ps (j + 1)).length = (M.cat ps j).length + x.2.length := by rw [hs, List.length_append]
          have hbs : B ≤ wr.heap.size := by have := hb.size; rw [HBB.out] at this; exact this
          have hs2 : M.cells (M.cat ps (j + 1)) = M.cells (M.cat ps j) ++ M.cells x.2 := by rw [hs, M.cells_app]
          have HS := Lib.hid (And.intro hl2 hs2)
          clear hs hs2 hx e1
          by_cases hz : 0 < x.2.length
          · obtain ⟨b, off, rfl, hbb, hcc⟩ := h5 hz
            clear h4
            go_wp2_with (first
          | (at_builtin; refine wpList_append_own _ rfl _ _ 33 rfl B 40 i0 (.agg #[.int .i8 0, .int .i8 0, .int .u8 0, .int .u8 0, .bool false]) 5 5 Tryz.underlying33 hi hz0 hz1 hz2 rfl (by decide) _ _ _ rfl hown ⟨b, off, none⟩ x.2.length cap (M.cells x.2) rfl (M.cells_len _) (fun j u hu => by rw [Addr.add_lit]; exact hcc j u hu) (M.cells_one _) (by unfold maxLen; omega) (by omega) hbs ?_; intro v' w1 hown' hgrow _)
          | fail)
            refine ⟨⟨j + 1, v', by omega, by go_num, by first | rfl | trivial, ?_, hb.grown hgrow hbs (fun q hq => (hown.lt q hq).1)⟩, by simp [RowKit.intOf]; omega⟩
            rw [HS.out.1, HS.out.2]
            exact hown'
          · have hz1 : x.2.length = 0 := by omega
            have hz2 : M.cells x.2 = [] := List.eq_nil_of_length_eq_zero (by rw [M.cells_len]; omega)
            cases ao with
            | none =>
              obtain ⟨_, rfl⟩ := h4 rfl
              rw [hz1] at h1
              clear h5 h4
              go_wp2_with (first
                | (at_builtin; refine wpList_append_own_none rfl _ _ 33 rfl B 40 i0 5 Tryz.underlying33 hi _ _ _ rfl hown rfl ?_)
                | fail)
              refine ⟨⟨j + 1, _, by omega, by go_num, rfl, ?_, hb⟩, by simp [RowKit.intOf]; omega⟩
              rw [HS.out.1, HS.out.2, hz1, hz2, Nat.add_zero, List.append_nil]
              exact hown
            | some ad =>
              have HZ := Lib.hid (And.intro hz1 hz2)
              clear h5 h4 hz hz1 hz2
              go_wp2_with (first
            | (at_builtin; refine wpList_append_own _ rfl _ _ 33 rfl B 40 i0 (.agg #[.int .i8 0, .int .i8 0, .int .u8 0, .int .u8 0, .bool false]) 5 5 Tryz.underlying33 hi hz0 hz1 hz2 rfl (by decide) _ _ _ rfl hown ad x.2.length cap (M.cells x.2) rfl (M.cells_len _) (fun j u hu => by rw [HZ.out.2] at hu; cases hu) (M.cells_one _) (by unfold maxLen; omega) (by omega) hbs ?_; intro v' w1 hown' hgrow _)
            | fail)
              refine ⟨⟨j + 1, v', by omega, by go_num, by first | rfl | trivial, ?_, hb.grown hgrow hbs (fun q hq => (hown.lt q hq).1)⟩, by simp [RowKit.intOf]; omega⟩
              rw [HS.out.1, HS.out.2]
              exact hown'
        · obtain rfl : j = i := by omega
          go_wp2
          go_ret
          exact ⟨_, rfl, by rw [HBB.out]; exact hown, by rw [HBB.out]; exact hb⟩
end Go.Proofs.YtgkndhpolcnjbaaGreatDoor
namespace Go.Proofs.YtgkndhpolcnjbaaGreatDoor
open Go.RowKit Go.Sort
/-- Draws and blocks laid behind, no more. -/
def GrowW (w w' : World) : Prop := ∃ q os, w' = grow (w.drewN q) os
theorem GrowW.refl (w : World) : GrowW w w := ⟨0, #[], by rw [grow_empty]; rfl⟩
theorem GrowW.trans {a b c : World} (h : GrowW a b) (k : GrowW b c) : GrowW a c := by
  obtain ⟨q, os, rfl⟩ := h
  obtain ⟨q', os', rfl⟩ := k
  exact ⟨q + q', os ++ os', by show grow (grow ((a.drewN q).drewN q') os) os' = _; rw [grow_grow, World.drewN_drewN]⟩
theorem GrowW.alloc (w : World) (o : Obj) : GrowW w (w.alloc o) := ⟨0, #[o], by rw [alloc_eq_grow]; rfl⟩
theorem GrowW.drewN (w : World) (n : Nat) : GrowW w (w.drewN n) := ⟨n, #[], by rw [grow_empty]⟩
theorem GrowW.grown (w : World) (n : Nat) (os : Array Obj) : GrowW w (grow (w.drewN n) os) := ⟨n, os, rfl⟩
theorem GrowW.below {w w' : World} (h : GrowW w w') : Below w.heap.size w w' := by
  obtain ⟨q, os, rfl⟩ := h
  refine ⟨rfl, rfl, rfl, ?_, fun k hk => ?_⟩
  · show w.heap.size ≤ (w.heap ++ os).size
    simp
  · show (w.heap ++ os)[k]? = w.heap[k]?
    rw [Array.getElem?_append_left hk]
namespace M
/-- Not among the first n. -/
def noneTo (l : List Mv) (m : Mv) (n : Nat) : Prop := ∀ j, j < n → l[j]? ≠ some m
theorem noneTo_succ {l : List Mv} {m x : Mv} {n : Nat} (h : noneTo l m n) (hx : l[n]? = some x) (hne : x ≠ m) : noneTo l m (n + 1) := fun j hj => by
  by_cases e : j = n
  · subst e; rw [hx]; intro e; exact hne (Option.some.inj e)
  · exact h j (by omega)
/-- Where a move stands first. -/
def Found (l : List Mv) (m : Mv) (r : Int) : Prop := (∃ i : Nat, r = (i : Int) ∧ l[i]? = some m ∧ noneTo l m i) ∨ (r = -1 ∧ noneTo l m l.length)
end M
set_option maxRecDepth 100000 in
set_option maxHeartbeats 2000000 in
theorem index_any (l : List Mv) (v : Value) (f' g' p' d' : Int) (c' : Bool) (w : World) (hr : M.Reads w v l) (hN : l.length ≤ 100000) :
    Calls Tryz.prog 129 #[v, .agg #[.int .i8 f', .int .i8 g', .int .u8 p', .int .u8 d', .bool c']] w fun e w' => ∃ r, e = .returned (.int .i64 r) ∧ M.Found l (f', g', p', d', c') r ∧ GrowW w w' := by
  obtain ⟨ao, cap, rfl, h1, h2, h3, h4⟩ := hr
  by_cases h0 : 0 < l.length
  · obtain ⟨b, off, rfl, hb, hcell⟩ := h4 h0
    have HA := Lib.hid (fun W (hb' : Below w.heap.size w W) i x (hx : l[i]? = some x) => (show M.At W b (off + i * 5) x from fun j u hu => by
      have hh := hcell (i * 5 + j) u (M.cells_at l i x hx j u hu)
      rw [Nat.add_assoc]
      exact (hb'.cell (p := ⟨b, off + (i * 5 + j), none⟩) hb).trans hh))
    clear hcell h4 h3
    obtain ⟨q, hq⟩ : ∃ q, l.length = q := ⟨_, rfl⟩
    have Hq := Lib.hid hq
    rw [hq] at h0 h1 hN ⊢
    clear hq
    go_enter Tryz.func129, Tryz.ntmps129
    go_wp2
    have HG : GrowW w (w.alloc (.cells #[.int .i8 f', .int .i8 g', .int .u8 p', .int .u8 d', .bool c'] 40)) := GrowW.alloc _ _
    have HV := Lib.hid (RowAt.new w #[.int .i8 f', .int .i8 g', .int .u8 p', .int .u8 d', .bool c'] 40)
    go_loopw [8] (fun vi wr => ∃ n : Nat, n ≤ q ∧ vi = .int .i64 (n : Int) ∧ Hid (M.noneTo l (f', g', p', d', c') n) ∧ GrowW (w.alloc (.cells #[.int .i8 f', .int .i8 g', .int .u8 p', .int .u8 d', .bool c'] 40)) wr) (fun vi _ => q - (intOf vi).toNat)
    case atStart => exact ⟨0, by omega, rfl, Lib.hid (fun j hj => by omega), GrowW.refl _⟩
    case round =>
      obtain ⟨n, hn, rfl, HN, hgr⟩ := hrel
      have hgw := HG.trans hgr
      by_cases hlt : n < q
      · obtain ⟨⟨f, g, p, d, c⟩, hx⟩ : ∃ m, l[n]? = some m := ⟨_, List.getElem?_eq_getElem (by rw [Hq.out]; exact hlt)⟩
        obtain ⟨m0, m1, m2, m3, m4⟩ := (HA.out wr hgw.below n _ hx).five
        have hv := HV.out.below hgr.below
        have k0 := hv.cell 0
        have k1 := hv.cell 1
        have k2 := hv.cell 2
        have k3 := hv.cell 3
        have k4 := hv.cell 4
        simp only [List.getElem?_toArray, List.getElem?_cons_zero, List.getElem?_cons_succ] at k0 k1 k2 k3 k4
        have HX := Lib.hid hx
        clear hx hv
        by_cases h0 : f' = f
        · subst h0
          by_cases h1 : g' = g
          · subst h1
            by_cases h2 : p' = p
            · subst h2
              by_cases h3 : d' = d
              · subst h3
                by_cases h4 : c' = c
                · subst h4
                  go_wp2
                  go_quiet (fail)
                  go_wp2
                  go_ret
                  exact ⟨_, rfl, .inl ⟨n, rfl, HX.out, HN.out⟩, hgw.trans (GrowW.drewN _ _)⟩
                · have e5 : (c' == c) = false := by simpa using h4
                  have Hd := Lib.hid (show (f', g', p', d', c) ≠ (f', g', p', d', c') from fun e => h4 (by injections; first | assumption | exact Eq.symm (by assumption)))
                  clear h4
                  go_wp2
                  go_quiet (fail)
                  go_wp2
                  exact ⟨⟨n + 1, by omega, by go_num, Lib.hid (M.noneTo_succ HN.out HX.out Hd.out), hgr.trans (GrowW.drewN _ _)⟩, by simp [intOf]; omega⟩
              · have e5 : (d' == d) = false := by simpa using h3
                have Hd := Lib.hid (show (f', g', p', d, c) ≠ (f', g', p', d', c') from fun e => h3 (by injections; first | assumption | exact Eq.symm (by assumption)))
                clear h3
                go_wp2
                go_quiet (fail)
                go_wp2
                exact ⟨⟨n + 1, by omega, by go_num, Lib.hid (M.noneTo_succ HN.out HX.out Hd.out), hgr.trans (GrowW.drewN _ _)⟩, by simp [intOf]; omega⟩
            · have e5 : (p' == p) = false := by simpa using h2
              have Hd := Lib.hid (show (f', g', p, d, c) ≠ (f', g', p', d', c') from fun e => h2 (by injections; first | assumption | exact Eq.symm (by assumption)))
              clear h2
              go_wp2
              go_quiet (fail)
              go_wp2
              exact ⟨⟨n + 1, by omega, by go_num, Lib.hid (M.noneTo_succ HN.out HX.out Hd.out), hgr.trans (GrowW.drewN _ _)⟩, by simp [intOf]; omega⟩
          · have e5 : (g' == g) = false := by simpa using h1
            have Hd := Lib.hid (show (f', g, p, d, c) ≠ (f', g', p', d', c') from fun e => h1 (by injections; first | assumption | exact Eq.symm (by assumption)))
            clear h1
            go_wp2
            go_quiet (fail)
            go_wp2
            exact ⟨⟨n + 1, by omega, by go_num, Lib.hid (M.noneTo_succ HN.out HX.out Hd.out), hgr.trans (GrowW.drewN _ _)⟩, by simp [intOf]; omega⟩
        · have e5 : (f' == f) = false := by simpa using h0
          have Hd := Lib.hid (show (f, g, p, d, c) ≠ (f', g', p', d', c') from fun e => h0 (by injections; first | assumption | exact Eq.symm (by assumption)))
          clear h0
          go_wp2
          go_quiet (fail)
          go_wp2
          exact ⟨⟨n + 1, by omega, by go_num, Lib.hid (M.noneTo_succ HN.out HX.out Hd.out), hgr.trans (GrowW.drewN _ _)⟩, by simp [intOf]; omega⟩
      · obtain rfl : n = q := by omega
        go_wp2
        go_ret
        exact ⟨_, rfl, .inr ⟨rfl, by rw [Hq.out]; exact HN.out⟩, hgw⟩
  · have hz : l.length = 0 := by omega
    rw [hz]
    go_enter Tryz.func129, Tryz.ntmps129
    go_wp2
    refine wp_loop_rounds 1 ?_
    rw [rounds_succ]
    go_wp2
    go_ret
    exact ⟨_, rfl, .inr ⟨rfl, fun j hj => by omega⟩, GrowW.alloc _ _⟩
theorem found_mem {l : List Mv} {m : Mv} {r : Int} (h : M.Found l m r) : (decide (0 ≤ r)) = decide (m ∈ l) := by
  rcases h with ⟨i, rfl, hi, _⟩ | ⟨rfl, hn⟩
  · rw [decide_eq_true (by omega), decide_eq_true (List.mem_of_getElem? hi)]
  · rw [decide_eq_false (by omega), decide_eq_false]
    intro hm
    obtain ⟨i, hi⟩ := List.mem_iff_getElem?.1 hm
    exact hn i (List.getElem?_eq_some_iff.1 hi).1 hi
set_option maxRecDepth 100000 in
set_option maxHeartbeats 2000000 in
theorem contains_any (l : List Mv) (v : Value) (f' g' p' d' : Int) (c' : Bool) (w : World) (hr : M.Reads w v l) (hN : l.length ≤ 100000) :
    Calls Tryz.prog 61 #[v, .agg #[.int .i8 f', .int .i8 g', .int .u8 p', .int .u8 d', .bool c']] w fun e w' => e = .returned (.bool (decide ((f', g', p', d', c') ∈ l))) ∧ Below w.heap.size w w' := by
  have hb0 : Below w.heap.size w (w.alloc (.cells #[.int .i8 f', .int .i8 g', .int .u8 p', .int .u8 d', .bool c'] 40)) := (Below.refl _ _).alloc (Nat.le_refl _) _
  have HR := Lib.hid (hr.below hb0)
  have HB := Lib.hid hb0
  have HN := Lib.hid hN
  clear hr hb0 hN
  go_enter Tryz.func61, Tryz.ntmps61
  go_wp2_with (go_at_call 129; refine (index_any l v f' g' p' d' c' _ HR.out HN.out).mono ?_; rintro e w2 ⟨r, rfl, hf, hg⟩; have HF := Lib.hid (found_mem hf); have HG := Lib.hid hg.below; clear hf hg)
  go_ret
  exact ⟨ret_bool HF.out, below_next HB.out HG.out⟩
end Go.Proofs.YtgkndhpolcnjbaaGreatDoor
