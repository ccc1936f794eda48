/- The laws on pieces: each walk, out of the contracts of what it calls. -/
import Derived.Test.YtldpejeodhkgdaaRef05
import Derived.Lib.Strings
namespace Go.Proofs.Ytldpejeodhkgdaa
open Go.RowKit

theorem parse_eq (s : ByteArray) (p : Int) (ok : Bool) (h : P.Parsed s p ok) (w : World) : Calls Try.prog 20 #[.string s] w fun e w' => e = .returned (.tuple #[.int .u8 p, .bool ok]) ∧ Below w.heap.size w w' := by
  refine (parse_walk s w).mono ?_
  rintro e w' ⟨p', ok', rfl, h', hb⟩
  obtain ⟨rfl, rfl⟩ := P.parsed_one h h'
  exact ⟨rfl, hb⟩

instance (s : ByteArray) (n : Nat) : Decidable (P.noneTo s n) := by unfold P.noneTo; exact inferInstance

theorem P.pq : P.Parsed ⟨#[113]⟩ 13 true := .inl ⟨rfl, 10, by decide, rfl, by decide +kernel, by decide +kernel⟩
theorem P.pK : P.Parsed ⟨#[75]⟩ 6 true := .inl ⟨rfl, 5, by decide, rfl, by decide +kernel, by decide +kernel⟩
theorem P.px : P.Parsed ⟨#[120]⟩ 0 false := .inr ⟨rfl, rfl, by decide +kernel⟩
theorem P.pqq : P.Parsed ⟨#[113, 113]⟩ 0 false := .inr ⟨rfl, rfl, by decide +kernel⟩

theorem P.makes_yes (c k : Int) (h0 : 0 ≤ c) (h1 : c ≤ 1) (h2 : 1 ≤ k) (h3 : k ≤ 6) : P.make c k = 8 * c + k ∧ P.isB (8 * c + k) = true ∧ P.color (8 * c + k) = c ∧ P.kind (8 * c + k) = k ∧ P.other (8 * c + k) = P.make (1 - c) k := by
  have hc : c = 0 ∨ c = 1 := by omega
  have hk : k = 1 ∨ k = 2 ∨ k = 3 ∨ k = 4 ∨ k = 5 ∨ k = 6 := by omega
  rcases hc with rfl | rfl <;> rcases hk with rfl | rfl | rfl | rfl | rfl | rfl <;> decide +kernel
theorem P.makes_no (c k : Int) (h : ¬ ((c ≤ 1 ∧ 1 ≤ k) ∧ k ≤ 6)) : P.make c k = 0 := by unfold P.make; rw [if_neg h]

theorem P.is_at (p : Int) (h0 : 0 ≤ p) (h : P.isB p = true) : ∃ n, n < 12 ∧ p = P.at n := by
  apply Classical.byContradiction
  intro hn
  have := P.none_is p h0 (fun j hj => by
    rw [beq_eq_false_iff_ne]
    intro e
    exact hn ⟨j, hj, e.symm⟩)
  rw [this] at h
  cases h
theorem P.parsed_letter (p : Int) (h0 : 0 ≤ p) (h : P.isB p = true) : P.Parsed (P.letter p) p true := by
  obtain ⟨n, hn, rfl⟩ := P.is_at p h0 h
  have k : ∀ n : Fin 12, ((P.letter (P.at n.val)).toList == (P.letter (P.at n.val)).toList) = true ∧ P.noneTo (P.letter (P.at n.val)) n.val := by decide +kernel
  exact .inl ⟨rfl, n, hn, rfl, (k ⟨n, hn⟩).1, (k ⟨n, hn⟩).2⟩
theorem P.parsed_nothing : P.Parsed ⟨#[]⟩ 0 false := .inr ⟨rfl, rfl, by decide +kernel⟩
theorem P.letter_no (p : Int) (h : P.isB p = false) : P.letter p = ⟨#[]⟩ := by unfold P.letter; rw [h]; rfl
theorem P.color_no (p : Int) (h : P.isB p = false) : P.color p = 2 := by unfold P.color; rw [h]; rfl
theorem P.kind_no (p : Int) (h : P.isB p = false) : P.kind p = 0 := by unfold P.kind; rw [h]; rfl
theorem P.other_no (p : Int) (h : P.isB p = false) : P.other p = 0 := by unfold P.other; rw [h]; rfl
theorem P.make_self (p : Int) (h0 : 0 ≤ p) (h1 : p ≤ 255) : P.isB p = true → P.make (P.color p) (P.kind p) = p :=
  all8 (fun p => P.isB p = true → P.make (P.color p) (P.kind p) = p) (by decide +kernel) p h0 h1
theorem P.letter_size (p : Int) (h0 : 0 ≤ p) (h : P.isB p = true) : (P.letter p).size = 1 := by
  obtain ⟨n, hn, rfl⟩ := P.is_at p h0 h
  have k : ∀ n : Fin 12, (P.letter (P.at n.val)).size = 1 := by decide +kernel
  exact k ⟨n, hn⟩
theorem P.make_20 : P.make 2 0 = 0 := by decide +kernel

theorem P.parsed_any (s : ByteArray) : ∃ p ok, P.Parsed s p ok := by
  by_cases h : P.noneTo s 12
  · exact ⟨0, false, .inr ⟨rfl, rfl, h⟩⟩
  · have key : ∀ m, m ≤ 12 → (P.noneTo s m ∨ ∃ n, n < m ∧ ((P.letter (P.at n)).toList == s.toList) = true ∧ P.noneTo s n) := by
      intro m
      induction m with
      | zero => exact fun _ => .inl fun j hj => by omega
      | succ m ih =>
        intro hm
        rcases ih (by omega) with h | ⟨n, hn, e⟩
        · by_cases e : ((P.letter (P.at m)).toList == s.toList) = true
          · exact .inr ⟨m, by omega, e, h⟩
          · exact .inl (P.noneTo_succ h (by simpa using e))
        · exact .inr ⟨n, by omega, e⟩
    rcases key 12 (by omega) with h' | ⟨n, hn, e, hno⟩
    · exact absurd h' h
    · exact ⟨P.at n, true, .inl ⟨rfl, n, hn, rfl, e, hno⟩⟩
theorem P.parsed_facts {s : ByteArray} {p : Int} {ok : Bool} (h : P.Parsed s p ok) : 0 ≤ p ∧ p ≤ 255 ∧ (ok = true → P.isB p = true ∧ ((P.letter p).toList == s.toList) = true ∧ s.size = 1) ∧ (ok = false → p = 0) := by
  rcases h with ⟨rfl, n, hn, rfl, hy, hno⟩ | ⟨rfl, rfl, hno⟩
  · have hb := P.at_bd n hn
    refine ⟨by omega, by omega, fun _ => ⟨P.at_is n hn, hy, ?_⟩, fun h => by cases h⟩
    have hs := P.letter_size (P.at n) (by omega) (P.at_is n hn)
    rw [← hs]
    have : (P.letter (P.at n)).toList = s.toList := by simpa using hy
    rw [Lib.toList_data, Lib.toList_data] at this
    rw [Lib.size_eq, Lib.size_eq, this]
  · exact ⟨by omega, by omega, (fun h => by cases h), fun _ => rfl⟩

end Go.Proofs.Ytldpejeodhkgdaa
