/- The program's package moves: known, home, square, text. -/
import Derived.Test.YtldpejeodhkgdaaMoves
import Derived.Test.YtldpejeodhkgdaaRow
import Derived.Test.YtldpejeodhkgdaaMvS
import Derived.Test.YtldpejeodhkgdaaSqA
namespace Go.Proofs.Ytldpejeodhkgdaa
open Go.RowKit Go.Sort
attribute [local go_sem] Oper.semAt_some

def N.kn (c : Nat → Int) : Bool := decide (c 0 < 9) && decide (c 78 ≤ 1)
set_option maxHeartbeats 1000000 in
theorem mvknown_any (c : Nat → Int) (w : World) :
    Calls Try.prog 6 #[.agg (posC c)] w fun e w' => e = .returned (.bool (N.kn c)) ∧ Below w.heap.size w w' := by
  have hp := PosAt.new w c
  have c0 := hp.cell (i := 0) (by decide)
  have c78 := hp.cell (i := 78) (by decide)
  rw [show pk 0 = .u8 from rfl] at c0
  rw [show pk 78 = .u8 from rfl] at c78
  have hb0 : Below w.heap.size w (w.alloc (.cells (posC c) 31)) := (Below.refl _ _).alloc (Nat.le_refl _) _
  have HE := Lib.hid (show N.kn c = (decide (c 0 < 9) && decide (c 78 ≤ 1)) from rfl)
  cases h0 : decide (c 0 < 9)
  · have E := Lib.hid (show N.kn c = false by rw [HE.out, h0]; rfl)
    go_enter Try.func6, Try.ntmps6
    go_wp2
    go_ret
    exact ⟨by rw [E.out]; rfl, hb0⟩
  · have E := Lib.hid (show N.kn c = decide (c 78 ≤ 1) by rw [HE.out, h0]; rfl)
    go_enter Try.func6, Try.ntmps6
    go_wp2
    go_ret
    exact ⟨by rw [E.out]; rfl, hb0⟩
set_option maxHeartbeats 1000000 in
theorem mvhome_any (c : Nat → Int) (w : World) (h : 0 ≤ c 78 ∧ c 78 ≤ 1) :
    Calls Try.prog 33 #[.agg (posC c)] w fun e w' => e = .returned (.int .i8 (N.home c)) ∧ Below w.heap.size w w' := by
  have hp := PosAt.new w c
  have c78 := hp.cell (i := 78) (by decide)
  rw [show pk 78 = .u8 from rfl] at c78
  have hb0 : Below w.heap.size w (w.alloc (.cells (posC c) 31)) := (Below.refl _ _).alloc (Nat.le_refl _) _
  rcases (show c 78 = 0 ∨ c 78 = 1 by omega) with h | h
  · have E := Lib.hid (show ((N.home c : Nat) : Int) = 0 by unfold N.home; rw [h]; rfl)
    rw [h] at c78
    go_enter Try.func33, Try.ntmps33
    go_wp2
    go_ret
    exact ⟨by rw [E.out]; rfl, hb0⟩
  · have E := Lib.hid (show ((N.home c : Nat) : Int) = 56 by unfold N.home; rw [h]; rfl)
    rw [h] at c78
    go_enter Try.func33, Try.ntmps33
    go_wp2
    go_ret
    exact ⟨by rw [E.out]; rfl, hb0⟩
def N.sq (s : Int) : Bool := decide (0 ≤ s) && decide (s < 64)
theorem mvtext_any (s : Nat) (w : World) (hs : s < 64) : Calls Try.prog 32 #[.int .i8 (s : Int)] w fun e w' => e = .returned (.string (N.tx s)) ∧ Below w.heap.size w w' := by
  have HT : Hid (∀ W, Calls Try.prog 41 #[.int .i64 (s : Int)] W fun e w' => e = .returned (.string (N.tx s)) ∧ Below W.heap.size W w') := Lib.hid (fun W => sqtext_any s W hs)
  have w1 : IntKind.i64.wrap (s : Int) = (s : Int) := by rw [IntKind.wrap_i64]; omega
  go_enter Try.func32, Try.ntmps32
  go_wp2_with (go_at_call 41; (with_reducible refine (HT.out _).mono ?_); rintro e w1 ⟨rfl, hb⟩)
  go_ret
  exact ⟨rfl, hb⟩
end Go.Proofs.Ytldpejeodhkgdaa
