/- The first positions are well-formed: 4 of 4. -/
import Derived.Test.YtlphjjekamhnlaaDoorStartF
namespace Go.Proofs.YtlphjjekamhnlaaDoor
namespace V
theorem codes9_good : ∀ r ∈ codes9, Good r := by decide +kernel
theorem codes9_at : ∀ n, n < 80 → Two960 (720 + n) := by
  have h : ∀ n, n < 80 → (codes9[n]?.any fun r => (List.range 88).all fun i => start960 (720 + n) i == wideC r i) = true := by decide +kernel
  intro n hn
  obtain ⟨r, hr, h2⟩ := (Option.any_eq_true _ _).1 (h n hn)
  exact two960 _ r (codes9_good r (List.mem_of_getElem? hr)) h2
theorem codes10_good : ∀ r ∈ codes10, Good r := by decide +kernel
theorem codes10_at : ∀ n, n < 80 → Two960 (800 + n) := by
  have h : ∀ n, n < 80 → (codes10[n]?.any fun r => (List.range 88).all fun i => start960 (800 + n) i == wideC r i) = true := by decide +kernel
  intro n hn
  obtain ⟨r, hr, h2⟩ := (Option.any_eq_true _ _).1 (h n hn)
  exact two960 _ r (codes10_good r (List.mem_of_getElem? hr)) h2
theorem codes11_good : ∀ r ∈ codes11, Good r := by decide +kernel
theorem codes11_at : ∀ n, n < 80 → Two960 (880 + n) := by
  have h : ∀ n, n < 80 → (codes11[n]?.any fun r => (List.range 88).all fun i => start960 (880 + n) i == wideC r i) = true := by decide +kernel
  intro n hn
  obtain ⟨r, hr, h2⟩ := (Option.any_eq_true _ _).1 (h n hn)
  exact two960 _ r (codes11_good r (List.mem_of_getElem? hr)) h2
end V
end Go.Proofs.YtlphjjekamhnlaaDoor
