/- The first positions are well-formed: 1 of 4. -/
import Derived.Test.YtlphjjekamhnlaaDoorStartF
namespace Go.Proofs.YtlphjjekamhnlaaDoor
namespace V
theorem codes0_good : ∀ r ∈ codes0, Good r := by decide +kernel
theorem codes0_at : ∀ n, n < 80 → Two960 (0 + n) := by
  have h : ∀ n, n < 80 → (codes0[n]?.any fun r => (List.range 88).all fun i => start960 (0 + n) i == wideC r i) = true := by decide +kernel
  intro n hn
  obtain ⟨r, hr, h2⟩ := (Option.any_eq_true _ _).1 (h n hn)
  exact two960 _ r (codes0_good r (List.mem_of_getElem? hr)) h2
theorem codes1_good : ∀ r ∈ codes1, Good r := by decide +kernel
theorem codes1_at : ∀ n, n < 80 → Two960 (80 + n) := by
  have h : ∀ n, n < 80 → (codes1[n]?.any fun r => (List.range 88).all fun i => start960 (80 + n) i == wideC r i) = true := by decide +kernel
  intro n hn
  obtain ⟨r, hr, h2⟩ := (Option.any_eq_true _ _).1 (h n hn)
  exact two960 _ r (codes1_good r (List.mem_of_getElem? hr)) h2
theorem codes2_good : ∀ r ∈ codes2, Good r := by decide +kernel
theorem codes2_at : ∀ n, n < 80 → Two960 (160 + n) := by
  have h : ∀ n, n < 80 → (codes2[n]?.any fun r => (List.range 88).all fun i => start960 (160 + n) i == wideC r i) = true := by decide +kernel
  intro n hn
  obtain ⟨r, hr, h2⟩ := (Option.any_eq_true _ _).1 (h n hn)
  exact two960 _ r (codes2_good r (List.mem_of_getElem? hr)) h2
end V
end Go.Proofs.YtlphjjekamhnlaaDoor
