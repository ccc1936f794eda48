/- The program's package moves: what each function computes. -/
import Derived.Test.YtldpejeodhkgdaaPos
import Derived.Test.YtldpejeodhkgdaaPieces
namespace Go.Proofs.Ytldpejeodhkgdaa
open Go.RowKit Go.Sort

def M.stands (c : Nat → Int) (s : Nat) (k : Int) : Bool := c (1 + s) == P.make (c 78) k

set_option maxRecDepth 100000 in
set_option maxHeartbeats 400000 in
theorem stands_walk (c : Nat → Int) (s : Nat) (k : Int) (w : World) (hs : s < 64) (h0 : 0 ≤ c 78) (h1 : c 78 ≤ 255) (h2 : 0 ≤ k) (h3 : k ≤ 255) :
    Calls Try.prog 31 #[.agg (posC c), .int .i8 (s : Int), .int .u8 k] w fun e w' => e = .returned (.bool (M.stands c s k)) ∧ Below w.heap.size w w' := by
  have hb := posC_board c s hs
  go_enter Try.func31, Try.ntmps31
  go_wp2
  go_outline
  go_quiet ((first | (go_at_call 35; exact quiet_same (make_any _ _ _ (by omega) (by omega) (by omega) (by omega)))))
  go_wp2
  go_ret
  exact ⟨rfl, below_drewN ((Below.refl _ _).alloc (Nat.le_refl _) _) _⟩

end Go.Proofs.Ytldpejeodhkgdaa
