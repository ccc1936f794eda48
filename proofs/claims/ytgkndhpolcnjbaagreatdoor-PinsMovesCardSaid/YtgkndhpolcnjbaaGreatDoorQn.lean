/- Several texts in one: Ref13c, Ref13d. -/
import Derived.Maps.AppendAt
import Derived.Test.YtgkndhpolcnjbaaGreatDoorQm
import Derived.Test.YtgkndhpolcnjbaaGreatDoorQd
namespace Go.Proofs.YtgkndhpolcnjbaaGreatDoor
open Go.RowKit Go.Sort
end Go.Proofs.YtgkndhpolcnjbaaGreatDoor
namespace Go.Proofs.YtgkndhpolcnjbaaGreatDoor
open Go.RowKit Go.Sort
/-- A row of moves that a call hands on: its own. -/
def Z.End (l : List Mv) (w : World) : Ending → World → Prop := fun e w' => ∃ x, e = .returned x ∧ w'.ownsRow w.heap.size 40 5 x l.length (M.cells l) ∧ Below w.heap.size w w'
namespace D
def rowB (c : Nat → Int) (t a n : Nat) : List Mv := (List.range n).flatMap fun b => if may c t a b = true then Z.eachL c t a b else []
def rowA (c : Nat → Int) (t n : Nat) : List Mv := (List.range n).flatMap fun a => rowB c t a 64
def lst (c : Nat → Int) : List Mv := if Z.ok c = true then list13 c (c 78).toNat else []
theorem list_row (c : Nat → Int) (t : Nat) : list13 c t = rowA c t 64 := rfl
theorem rowB_succ (c : Nat → Int) (t a n : Nat) : rowB c t a (n + 1) = rowB c t a n ++ (if may c t a n = true then Z.eachL c t a n else []) := by
  unfold rowB
  rw [List.range_succ, List.flatMap_append]
  simp
theorem rowA_succ (c : Nat → Int) (t n : Nat) : rowA c t (n + 1) = rowA c t n ++ rowB c t n 64 := by
  unfold rowA
  rw [List.range_succ, List.flatMap_append]
  simp
theorem each_len (c : Nat → Int) (t a b : Nat) : (Z.eachL c t a b).length ≤ 5 := by
  unfold Z.eachL
  split
  · have := V.last_bd (c 0).toNat
    unfold V.promos
    simp
    omega
  · simp
theorem rowB_len (c : Nat → Int) (t a : Nat) : ∀ n, (rowB c t a n).length ≤ 5 * n
  | 0 => by simp [rowB]
  | n + 1 => by
    have := rowB_len c t a n
    have h5 := each_len c t a n
    rw [rowB_succ, List.length_append]
    split
    · omega
    · simp; omega
theorem rowA_len (c : Nat → Int) (t : Nat) : ∀ n, (rowA c t n).length ≤ 320 * n
  | 0 => by simp [rowA]
  | n + 1 => by
    have := rowA_len c t n
    have h5 := rowB_len c t n 64
    rw [rowA_succ, List.length_append]
    omega
end D
theorem owns_ne {w : World} {base base' : Nat} {e e' : TypeId} {s s' : Nat} {v v' : Value} {n n' : Nat} {xs xs' : List Value} (h : w.ownsRow base e s v n xs) (h' : w.ownsRow base' e' s' v' n' xs') (hne : e ≠ e') : ∀ g, v.ownBlock = some g → v'.ownBlock ≠ some g := by
  rintro g hg hg'
  rcases h.2 with ⟨rfl, rfl⟩ | ⟨g1, cap, cur, rfl, _, hh, _⟩
  · cases hg
  rcases h'.2 with ⟨rfl, rfl⟩ | ⟨g2, cap', cur', rfl, _, hh', _⟩
  · cases hg'
  cases hg
  cases hg'
  rw [hh] at hh'
  cases hh'
  exact hne rfl
theorem mv_row {W : World} {g : Nat} {T : TypeId} {m : Mv} (h : RowAt W g T (M.cell m).toArray) : ∀ (j : Nat) (u : Value), (M.cell m)[j]? = some u → W.cell? ((⟨g, 0, none⟩ : Addr).add j) = some u := by
  intro j u hj
  have := h.cell j
  rw [List.getElem?_toArray, hj] at this
  unfold Addr.add
  split
  · rename_i h0
    rw [h0] at this
    exact this
  · simpa using this
theorem mv_one (m : Mv) : ∀ u ∈ M.cell m, u.oneCell' = true := by
  intro u hu
  simp [M.cell] at hu
  rcases hu with rfl | rfl | rfl | rfl | rfl <;> rfl
theorem Tryz.info_Mv : (Tryz.prog.info? 40).map (fun i => (i.zero, i.size, i.bytes)) = some (some (.agg #[.int .i8 0, .int .i8 0, .int .u8 0, .int .u8 0, .bool false]), 5, 5) := by kernel_rfl
theorem Tryz.size_Mv : (Tryz.prog.info? 40).map (·.size) = some 5 := by kernel_rfl
theorem i8_sq (k : Nat) (h : k < 64) : IntKind.i8.wrap (k : Int) = (k : Int) := by unfold IntKind.wrap; simp [IntKind.bits, IntKind.signed]; omega
end Go.Proofs.YtgkndhpolcnjbaaGreatDoor
