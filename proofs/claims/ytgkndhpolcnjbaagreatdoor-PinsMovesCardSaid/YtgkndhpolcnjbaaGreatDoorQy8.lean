/- Several texts in one: Turn08. -/

import Derived.Test.YtgkndhpolcnjbaaGreatDoorQh
namespace Go.Proofs.YtgkndhpolcnjbaaGreatDoor
open Go.RowKit
section
variable {c : Nat → Int} (hc : BdOk c) (hl : lawB c = true)
include hc hl
end
/-- At most one king of a color. -/
def OneK (c : Nat → Int) (color : Int) : Prop := ∀ i j, i < 64 → j < 64 → D.is c i color 6 = true → D.is c j color 6 = true → i = j
theorem find_of (c : Nat → Int) (color : Int) (h1 : OneK c color) (n : Nat) (hn : n < 64) (h : D.is c n color 6 = true) : D.find c color 6 = n := by
  unfold D.find
  rcases dfirst_spec (fun s => D.is c s color 6) 64 0 with ⟨_, hno⟩ | ⟨j, _, h2, h3, h4, _⟩
  · have := hno n (by omega) (by omega)
    rw [h] at this; cases this
  · rw [h3, h1 j n (by omega) hn h4 h]
section
variable {c : Nat → Int} (hc : BdOk c) (hl : lawB c = true)
include hc hl
end
end Go.Proofs.YtgkndhpolcnjbaaGreatDoor
