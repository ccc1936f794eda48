/- The reference's package kibitzerref05: what each function computes. -/
import Derived.Test.YtldpejeodhkgdaaPieces
namespace Go.Proofs.Ytldpejeodhkgdaa
open Go.RowKit

namespace R5
def ent (p c k : Int) (l : UInt8) : List Value := [.int .u8 p, .int .u8 c, .int .u8 k, .string ⟨#[l]⟩]
def allL : List Value := ent 1 0 1 80 ++ ent 2 0 2 78 ++ ent 3 0 3 66 ++ ent 4 0 4 82 ++ ent 5 0 5 81 ++ ent 6 0 6 75 ++ ent 9 1 1 112 ++ ent 10 1 2 110 ++ ent 11 1 3 98 ++ ent 12 1 4 114 ++ ent 13 1 5 113 ++ ent 14 1 6 107
def allA : Array Value := allL.toArray
end R5

set_option maxRecDepth 100000 in
set_option maxHeartbeats 400000 in
theorem r5all_any (w : World) : Calls Try.prog 39 #[] w fun e w' => e = .returned (.slice (some ⟨w.heap.size, 0, none⟩) 12 12) ∧ w' = w.alloc (.cells R5.allA 73) := by
  go_enter Try.func39, Try.ntmps39
  go_wp2
  go_ret
  exact ⟨rfl, rfl⟩

/-- What the table reads as, place by place. -/
def R5.AllEnd (w : World) (e : Ending) (w' : World) : Prop := ∃ b, e = .returned (.slice (some ⟨b, 0, none⟩) 12 12) ∧ w.heap.size ≤ b ∧ b < w'.heap.size ∧
  (∀ i : Nat, i < 12 → w'.cell? ⟨b, i * 4, none⟩ = some (.int .u8 (P.at i)) ∧ w'.cell? ⟨b, i * 4 + 1, none⟩ = some (.int .u8 (P.color (P.at i))) ∧ w'.cell? ⟨b, i * 4 + 2, none⟩ = some (.int .u8 (P.kind (P.at i))) ∧ w'.cell? ⟨b, i * 4 + 3, none⟩ = some (.string (P.letter (P.at i)))) ∧ Below w.heap.size w w'

theorem R5.reads (i : Nat) (h : i < 12) : R5.allA[i * 4]? = some (.int .u8 (P.at i)) ∧ R5.allA[i * 4 + 1]? = some (.int .u8 (P.color (P.at i))) ∧ R5.allA[i * 4 + 2]? = some (.int .u8 (P.kind (P.at i))) ∧ R5.allA[i * 4 + 3]? = some (.string (P.letter (P.at i))) := by
  match i, h with
  | 0, _ => exact ⟨rfl, rfl, rfl, rfl⟩
  | 1, _ => exact ⟨rfl, rfl, rfl, rfl⟩
  | 2, _ => exact ⟨rfl, rfl, rfl, rfl⟩
  | 3, _ => exact ⟨rfl, rfl, rfl, rfl⟩
  | 4, _ => exact ⟨rfl, rfl, rfl, rfl⟩
  | 5, _ => exact ⟨rfl, rfl, rfl, rfl⟩
  | 6, _ => exact ⟨rfl, rfl, rfl, rfl⟩
  | 7, _ => exact ⟨rfl, rfl, rfl, rfl⟩
  | 8, _ => exact ⟨rfl, rfl, rfl, rfl⟩
  | 9, _ => exact ⟨rfl, rfl, rfl, rfl⟩
  | 10, _ => exact ⟨rfl, rfl, rfl, rfl⟩
  | 11, _ => exact ⟨rfl, rfl, rfl, rfl⟩

theorem cell_new (w : World) (A : Array Value) (T : TypeId) (j : Nat) : (w.alloc (.cells A T)).cell? ⟨w.heap.size, j, none⟩ = A[j]? := by
  rw [World.cell?_alloc_at _ _ _ _ rfl]

theorem r5all_end (w : World) : Calls Try.prog 39 #[] w (R5.AllEnd w) := by
  refine (r5all_any w).mono ?_
  rintro e w' ⟨rfl, rfl⟩
  refine ⟨_, rfl, Nat.le_refl _, by simp, fun i hi => ?_, (Below.refl _ _).alloc (Nat.le_refl _) _⟩
  have h := R5.reads i hi
  simp only [cell_new]
  exact h

end Go.Proofs.Ytldpejeodhkgdaa
