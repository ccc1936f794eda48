/- The first positions are well-formed. -/
import Derived.Test.YtlphjjekamhnlaaDoorStartG0
import Derived.Test.YtlphjjekamhnlaaDoorStartG1
import Derived.Test.YtlphjjekamhnlaaDoorStartG2
import Derived.Test.YtlphjjekamhnlaaDoorStartG3
namespace Go.Proofs.YtlphjjekamhnlaaDoor
namespace V
theorem start960_good (n : Nat) (hn : n < 960) : Two960 n := by
  rcases (show n < 80 ∨ (80 ≤ n ∧ n < 160) ∨ (160 ≤ n ∧ n < 240) ∨ (240 ≤ n ∧ n < 320) ∨ (320 ≤ n ∧ n < 400) ∨ (400 ≤ n ∧ n < 480) ∨ (480 ≤ n ∧ n < 560) ∨ (560 ≤ n ∧ n < 640) ∨ (640 ≤ n ∧ n < 720) ∨ (720 ≤ n ∧ n < 800) ∨ (800 ≤ n ∧ n < 880) ∨ (880 ≤ n ∧ n < 960) by omega) with h | h | h | h | h | h | h | h | h | h | h | h
  · have := codes0_at (n - 0) (by omega); rwa [show 0 + (n - 0) = n by omega] at this
  · have := codes1_at (n - 80) (by omega); rwa [show 80 + (n - 80) = n by omega] at this
  · have := codes2_at (n - 160) (by omega); rwa [show 160 + (n - 160) = n by omega] at this
  · have := codes3_at (n - 240) (by omega); rwa [show 240 + (n - 240) = n by omega] at this
  · have := codes4_at (n - 320) (by omega); rwa [show 320 + (n - 320) = n by omega] at this
  · have := codes5_at (n - 400) (by omega); rwa [show 400 + (n - 400) = n by omega] at this
  · have := codes6_at (n - 480) (by omega); rwa [show 480 + (n - 480) = n by omega] at this
  · have := codes7_at (n - 560) (by omega); rwa [show 560 + (n - 560) = n by omega] at this
  · have := codes8_at (n - 640) (by omega); rwa [show 640 + (n - 640) = n by omega] at this
  · have := codes9_at (n - 720) (by omega); rwa [show 720 + (n - 720) = n by omega] at this
  · have := codes10_at (n - 800) (by omega); rwa [show 800 + (n - 800) = n by omega] at this
  · have := codes11_at (n - 880) (by omega); rwa [show 880 + (n - 880) = n by omega] at this
def Two9 (v : Nat) : Prop := Y.first (startAll v) = 0 ∧ ∀ i, i < 88 → (Lit.int (pk i) (startAll v i)).wf = true
instance (v : Nat) : Decidable (Two9 v) := by unfold Two9; infer_instance
theorem startAll_good : ∀ v, v < 9 → Two9 v := by decide +kernel
end V
end Go.Proofs.YtlphjjekamhnlaaDoor
