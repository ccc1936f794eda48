/- Rows of moves; the document's Same. -/
import Derived.Test.YtldpejeodhkgdaaRow
namespace Go.Proofs.Ytldpejeodhkgdaa
open Go.RowKit Go.Sort
attribute [local go_sem] Oper.semAt_some

/-- A move: from, to, what it becomes, what is dropped, whether it is a castling. -/
abbrev Mv := Int × Int × Int × Int × Bool
namespace M
theorem below_drew {B : Nat} {a w : World} (h : Below B a w) (n : Nat) : Below B a (w.drewN n) := ⟨h.os, h.tape, h.output, h.size, h.block⟩
def cell (m : Mv) : List Value := [.int .i8 m.1, .int .i8 m.2.1, .int .u8 m.2.2.1, .int .u8 m.2.2.2.1, .bool m.2.2.2.2]
def cells (l : List Mv) : List Value := l.flatMap cell
theorem cells_snoc (l : List Mv) (x : Mv) : cells (l ++ [x]) = cells l ++ cell x := by simp [cells]
theorem cells_at (l : List Mv) (i : Nat) (x : Mv) (h : l[i]? = some x) (j : Nat) (v : Value) (hv : (cell x)[j]? = some v) : (cells l)[i * 5 + j]? = some v := by
  induction l generalizing i with
  | nil => cases h
  | cons a l ih =>
    unfold cells
    rw [List.flatMap_cons]
    cases i with
    | zero =>
      simp at h
      subst h
      have : j < (cell a).length := (List.getElem?_eq_some_iff.1 hv).1
      rw [List.getElem?_append_left (by omega), Nat.zero_mul, Nat.zero_add, hv]
    | succ i =>
      rw [List.getElem?_append_right (by simp [cell]; omega), show (i + 1) * 5 + j - (cell a).length = i * 5 + j by simp [cell]; omega]
      exact ih i (by simpa using h)
/-- A move stands at its place. -/
def At (w : World) (b off : Nat) (x : Mv) : Prop := w.rangeAt b off (cell x)
theorem at_of {w : World} {b : Nat} {l : List Mv} (h : ∀ j u, (cells l)[j]? = some u → w.cell? ⟨b, j, none⟩ = some u) (i : Nat) (x : Mv) (hx : l[i]? = some x) : At w b (i * 5) x := fun j v hv => h _ _ (cells_at l i x hx j v hv)
theorem At.below {w w' : World} {b off : Nat} {x : Mv} (h : At w b off x) (hb : Below w.heap.size w w') : At w' b off x := fun j v hv => by
  have := h j v hv
  exact (hb.cell (p := ⟨b, off + j, none⟩) (World.block_lt_of_cell? w _ this)).trans this
theorem At.five {w : World} {b off : Nat} {f g p d : Int} {c : Bool} (h : At w b off (f, g, p, d, c)) : w.cell? ⟨b, off, none⟩ = some (.int .i8 f) ∧ w.cell? ⟨b, off + 1, none⟩ = some (.int .i8 g) ∧ w.cell? ⟨b, off + 2, none⟩ = some (.int .u8 p) ∧ w.cell? ⟨b, off + 3, none⟩ = some (.int .u8 d) ∧ w.cell? ⟨b, off + 4, none⟩ = some (.bool c) :=
  ⟨h 0 _ rfl, h 1 _ rfl, h 2 _ rfl, h 3 _ rfl, h 4 _ rfl⟩
/-- A row that is owned, or none. -/
theorem row_open {w : World} {base : Nat} {e : TypeId} {v : Value} {n : Nat} {xs : List Value} (h : w.ownsRow base e 5 v n xs) :
    ∃ ao cap, v = .slice ao n cap ∧ n ≤ cap ∧ cap ≤ maxLen ∧ (0 < n → ∃ b, ao = some ⟨b, 0, none⟩ ∧ base ≤ b ∧ b < w.heap.size ∧ ∀ j u, xs[j]? = some u → w.cell? ⟨b, j, none⟩ = some u) := by
  rcases h.2 with ⟨rfl, rfl⟩ | ⟨g, cap, cur, rfl, hb, hg, hnc, hcm, hcs, htake⟩
  · exact ⟨_, _, rfl, Nat.le_refl _, by unfold maxLen; omega, fun h => absurd h (by omega)⟩
  · refine ⟨_, cap, rfl, hnc, hcm, fun _ => ⟨g, rfl, hb, (Array.getElem?_eq_some_iff.1 hg).1, ?_⟩⟩
    intro j u hu
    rw [← htake, List.getElem?_take] at hu
    split at hu
    · simp only [World.cell?, hg]
      simpa using hu
    · cases hu
/-- Alike so far. -/
def alike (a b : List Mv) (n : Nat) : Prop := a.take n = b.take n
theorem alike_succ {a b : List Mv} {n : Nat} {x : Mv} (h : alike a b n) (ha : a[n]? = some x) (hb : b[n]? = some x) : alike a b (n + 1) := by
  unfold alike at *
  rw [List.take_add_one, List.take_add_one, h, ha, hb]
theorem differ {a b : List Mv} {n : Nat} {x y : Mv} (ha : a[n]? = some x) (hb : b[n]? = some y) (h : x ≠ y) : (a == b) = false := by
  rw [beq_eq_false_iff_ne]
  intro e
  subst e
  rw [ha] at hb
  exact h (Option.some.inj hb)
end M

end Go.Proofs.Ytldpejeodhkgdaa
