/- The first positions are well-formed: 2 of 4. -/
import Derived.Test.YtlphjjekamhnlaaDoorStartF
namespace Go.Proofs.YtlphjjekamhnlaaDoor
namespace V
theorem codes3_good : ∀ r ∈ codes3, Good r := by decide +kernel
theorem codes3_at : ∀ n, n < 80 → Two960 (240 + n) := by
  have h : ∀ n, n < 80 → (codes3[n]?.any fun r => (List.range 88).all fun i => start960 (240 + n) i == wideC r i) = true := by decide +kernel
  intro n hn
  obtain ⟨r, hr, h2⟩ := (Option.any_eq_true _ _).1 (h n hn)
  exact two960 _ r (codes3_good r (List.mem_of_getElem? hr)) h2
theorem codes4_good : ∀ r ∈ codes4, Good r := by decide +kernel
theorem codes4_at : ∀ n, n < 80 → Two960 (320 + n) := by
  have h : ∀ n, n < 80 → (codes4[n]?.any fun r => (List.range 88).all fun i => start960 (320 + n) i == wideC r i) = true := by decide +kernel
  intro n hn
  obtain ⟨r, hr, h2⟩ := (Option.any_eq_true _ _).1 (h n hn)
  exact two960 _ r (codes4_good r (List.mem_of_getElem? hr)) h2
theorem codes5_good : ∀ r ∈ codes5, Good r := by decide +kernel
theorem codes5_at : ∀ n, n < 80 → Two960 (400 + n) := by
  have h : ∀ n, n < 80 → (codes5[n]?.any fun r => (List.range 88).all fun i => start960 (400 + n) i == wideC r i) = true := by decide +kernel
  intro n hn
  obtain ⟨r, hr, h2⟩ := (Option.any_eq_true _ _).1 (h n hn)
  exact two960 _ r (codes5_good r (List.mem_of_getElem? hr)) h2
end V
end Go.Proofs.YtlphjjekamhnlaaDoor
