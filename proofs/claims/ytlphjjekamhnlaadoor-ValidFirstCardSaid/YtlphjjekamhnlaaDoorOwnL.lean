/- Rows that a call owns: opened, kept. No program in sight. -/
import Derived.Test.YtlphjjekamhnlaaDoorRow
namespace Go.Proofs.YtlphjjekamhnlaaDoor
open Go.RowKit Go.Sort

/-- What a slice owns stands, where its block stands. -/
theorem owns_same {w w' : World} {base : Nat} {e : TypeId} {size : Nat} {v : Value} {n : Nat} {xs : List Value} (ho : w.ownsRow base e size v n xs) (h : ∀ g, v.ownBlock = some g → w'.heap[g]? = w.heap[g]?) : w'.ownsRow base e size v n xs := by
  refine ⟨ho.1, ?_⟩
  rcases ho.2 with ⟨rfl, rfl⟩ | ⟨g, cap, cur, rfl, hb, hg, h1, h2, h3, h4⟩
  · exact .inl ⟨rfl, rfl⟩
  · exact .inr ⟨g, cap, cur, rfl, hb, (h g rfl).trans hg, h1, h2, h3, h4⟩
theorem RowAt.not_own {w : World} {g : Nat} {T : TypeId} {cs : Array Value} {base : Nat} {e : TypeId} {s : Nat} {v : Value} {n : Nat} {xs : List Value} (h : RowAt w g T cs) (h' : w.ownsRow base e s v n xs) (hne : T ≠ e) : v.ownBlock ≠ some g := by
  intro hg
  rcases h'.2 with ⟨rfl, rfl⟩ | ⟨g2, cap', cur', rfl, _, hh', _⟩
  · cases hg
  cases hg
  rw [h.heap] at hh'
  cases hh'
  exact hne rfl
/-- A row of single cells that is owned, or none. -/
theorem row_open1 {w : World} {base : Nat} {e : TypeId} {v : Value} {n : Nat} {xs : List Value} (h : w.ownsRow base e 1 v n xs) :
    ∃ ao cap, v = .slice ao n cap ∧ n ≤ cap ∧ cap ≤ maxLen ∧ (0 < n → ∃ b, ao = some ⟨b, 0, none⟩ ∧ base ≤ b ∧ b < w.heap.size ∧ ∀ j u, xs[j]? = some u → w.cell? ⟨b, j, none⟩ = some u) := by
  rcases h.2 with ⟨rfl, rfl⟩ | ⟨g, cap, cur, rfl, hb, hg, hnc, hcm, hcs, htake⟩
  · exact ⟨_, _, rfl, Nat.le_refl _, by unfold maxLen; omega, fun h => absurd h (by omega)⟩
  · refine ⟨_, cap, rfl, hnc, hcm, fun _ => ⟨g, rfl, hb, (Array.getElem?_eq_some_iff.1 hg).1, ?_⟩⟩
    intro j u hu
    rw [← htake, List.getElem?_take] at hu
    split at hu
    · simp only [World.cell?, hg]
      simpa using hu
    · cases hu
/-- A counter's next step. -/
theorem step_num (m N : Nat) (h : m < N) (hN : N ≤ 1000000) : Value.int .i64 (wrap64 ((m : Int) + 1)) = .int .i64 ((m + 1 : Nat) : Int) ∧ N - (intOf (Value.int .i64 (wrap64 ((m : Int) + 1)))).toNat < N - (intOf (Value.int .i64 (m : Int))).toNat := by
  have hw : wrap64 ((m : Int) + 1) = ((m + 1 : Nat) : Int) := by rw [IntWalk.wrap64_in _ ⟨by omega, by omega⟩]; rfl
  rw [hw]
  refine ⟨rfl, ?_⟩
  show N - (((m + 1 : Nat) : Int)).toNat < N - ((m : Int)).toNat
  rw [Int.toNat_natCast, Int.toNat_natCast]
  omega
theorem step_num' (m N : Nat) (h : m < N) : Value.int .i64 ((m : Int) + 1) = .int .i64 ((m + 1 : Nat) : Int) ∧ N - (intOf (Value.int .i64 ((m : Int) + 1))).toNat < N - (intOf (Value.int .i64 (m : Int))).toNat := by
  have hw : ((m : Int) + 1) = ((m + 1 : Nat) : Int) := rfl
  rw [hw]
  refine ⟨rfl, ?_⟩
  show N - (((m + 1 : Nat) : Int)).toNat < N - ((m : Int)).toNat
  rw [Int.toNat_natCast, Int.toNat_natCast]
  omega
end Go.Proofs.YtlphjjekamhnlaaDoor
