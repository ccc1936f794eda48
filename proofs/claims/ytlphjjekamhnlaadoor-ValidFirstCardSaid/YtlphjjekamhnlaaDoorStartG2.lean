/- The first positions are well-formed: 3 of 4. -/
import Derived.Test.YtlphjjekamhnlaaDoorStartF
namespace Go.Proofs.YtlphjjekamhnlaaDoor
namespace V
theorem codes6_good : ∀ r ∈ codes6, Good r := by decide +kernel
theorem codes6_at : ∀ n, n < 80 → Two960 (480 + n) := by
  have h : ∀ n, n < 80 → (codes6[n]?.any fun r => (List.range 88).all fun i => start960 (480 + n) i == wideC r i) = true := by decide +kernel
  intro n hn
  obtain ⟨r, hr, h2⟩ := (Option.any_eq_true _ _).1 (h n hn)
  exact two960 _ r (codes6_good r (List.mem_of_getElem? hr)) h2
theorem codes7_good : ∀ r ∈ codes7, Good r := by decide +kernel
theorem codes7_at : ∀ n, n < 80 → Two960 (560 + n) := by
  have h : ∀ n, n < 80 → (codes7[n]?.any fun r => (List.range 88).all fun i => start960 (560 + n) i == wideC r i) = true := by decide +kernel
  intro n hn
  obtain ⟨r, hr, h2⟩ := (Option.any_eq_true _ _).1 (h n hn)
  exact two960 _ r (codes7_good r (List.mem_of_getElem? hr)) h2
theorem codes8_good : ∀ r ∈ codes8, Good r := by decide +kernel
theorem codes8_at : ∀ n, n < 80 → Two960 (640 + n) := by
  have h : ∀ n, n < 80 → (codes8[n]?.any fun r => (List.range 88).all fun i => start960 (640 + n) i == wideC r i) = true := by decide +kernel
  intro n hn
  obtain ⟨r, hr, h2⟩ := (Option.any_eq_true _ _).1 (h n hn)
  exact two960 _ r (codes8_good r (List.mem_of_getElem? hr)) h2
end V
end Go.Proofs.YtlphjjekamhnlaaDoor
