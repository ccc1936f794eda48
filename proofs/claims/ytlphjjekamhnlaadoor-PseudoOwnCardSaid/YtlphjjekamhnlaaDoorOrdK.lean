/- slices.Concat at moves: rows put together. -/
import Derived.Test.YtlphjjekamhnlaaDoorOrdJ
namespace Go.Proofs.YtlphjjekamhnlaaDoor
open Go.RowKit Go.Sort Go.Lib

namespace M
/-- A slice that reads as these moves. -/
def Reads (w : World) (v : Value) (l : List Mv) : Prop :=
  ∃ ao cap, v = .slice ao l.length cap ∧ l.length ≤ cap ∧ cap ≤ maxLen ∧ (ao = none → l.length = 0 ∧ cap = 0) ∧ (0 < l.length → ∃ b off, ao = some ⟨b, off, none⟩ ∧ b < w.heap.size ∧ ∀ j u, (cells l)[j]? = some u → w.cell? ⟨b, off + j, none⟩ = some u)
theorem Reads.below {w w' : World} {v : Value} {l : List Mv} (h : Reads w v l) (hb : Below w.heap.size w w') : Reads w' v l := by
  obtain ⟨ao, cap, h1, h2, h3, h4, h5⟩ := h
  refine ⟨ao, cap, h1, h2, h3, h4, fun h => ?_⟩
  obtain ⟨b, off, k1, k2, k3⟩ := h5 h
  exact ⟨b, off, k1, Nat.lt_of_lt_of_le k2 hb.size, fun j u hu => (hb.cell (p := ⟨b, off + j, none⟩) k2).trans (k3 j u hu)⟩
theorem reads_own {w : World} {base : Nat} {T : TypeId} {v : Value} {l : List Mv} (h : w.ownsRow base T 5 v l.length (cells l)) : Reads w v l := by
  obtain ⟨ao, cap, h1, h2, h3, h4⟩ := row_open h
  refine ⟨ao, cap, h1, h2, h3, fun hn => ?_, fun h0 => ?_⟩
  · have : ¬ 0 < l.length := fun h0 => by obtain ⟨b, e, _⟩ := h4 h0; rw [hn] at e; cases e
    have hz : l.length = 0 := by omega
    refine ⟨hz, ?_⟩
    rcases h.2 with ⟨e, _⟩ | ⟨g, c, cur, e, _⟩
    · rw [h1] at e; injection e
    · rw [h1, hn] at e; injection e with e; cases e
  · obtain ⟨b, e, _, hb, hc⟩ := h4 h0
    exact ⟨b, 0, e, hb, fun j u hu => by rw [Nat.zero_add]; exact hc j u hu⟩
theorem cells_len (l : List Mv) : (cells l).length = l.length * 5 := by
  induction l with
  | nil => rfl
  | cons a l ih => unfold cells at *; rw [List.flatMap_cons, List.length_append, ih]; simp [cell]; omega
theorem cells_app (a b : List Mv) : cells (a ++ b) = cells a ++ cells b := by simp [cells]
theorem cells_one (l : List Mv) : ∀ u ∈ cells l, u.oneCell' = true := by
  intro u hu
  unfold cells at hu
  rw [List.mem_flatMap] at hu
  obtain ⟨x, _, hx⟩ := hu
  simp [cell] at hx
  rcases hx with rfl | rfl | rfl | rfl | rfl <;> rfl
def cat (ps : List (Value × List Mv)) (i : Nat) : List Mv := (ps.take i).flatMap (·.2)
theorem cat_zero (ps : List (Value × List Mv)) : cat ps 0 = [] := rfl
theorem cat_succ {ps : List (Value × List Mv)} {i : Nat} {x : Value × List Mv} (h : ps[i]? = some x) : cat ps (i + 1) = cat ps i ++ x.2 := by
  unfold cat; rw [List.take_add_one, h, List.flatMap_append]; simp
theorem cat_le (ps : List (Value × List Mv)) (i : Nat) : (cat ps i).length ≤ (cat ps ps.length).length := by
  have e : (ps.take i) ++ (ps.drop i) = ps := List.take_append_drop i ps
  unfold cat
  rw [List.take_length]
  conv => rhs; rw [← e]
  rw [List.flatMap_append, List.length_append]
  omega
end M

end Go.Proofs.YtlphjjekamhnlaaDoor
