/- The document's answer of layer 8: lines from square to square; Hits. -/
import Derived.Test.YtdfgpbighadplaaDoorRef08d
namespace Go.Proofs.YtdfgpbighadplaaDoor
open Go.RowKit Go.Sort

namespace D
def up (a b : Nat) : Int := (b : Int) / 8 - (a : Int) / 8
def aside (a b : Nat) : Int := abs ((b : Int) % 8 - (a : Int) % 8)
def straight (a b : Nat) : Bool := (up a b == 0) != (aside a b == 0)
def across (a b : Nat) : Bool := (abs (up a b) == aside a b) && decide (0 < aside a b)
def dist (a b : Nat) : Nat := (max (abs (up a b)) (aside a b)).toNat
def at' (a b k : Nat) : Nat := ((a : Int) + k * step a b).toNat
def pathB (a b : Nat) : Bool :=
  (at' a b 0 == a) && ((at' a b (dist a b) == b) && (((List.range (dist a b)).all fun k => ((at' a b (k + 1) : Nat) : Int) == (at' a b k : Int) + step a b) && (((List.range (dist a b + 1)).all fun k => decide (at' a b k < 64)) && (((List.range (dist a b)).all fun k => k == 0 || at' a b k != b) && decide (1 ≤ dist a b)))))
theorem path_of {a b : Nat} (h : pathB a b = true) : Path a b (dist a b) (at' a b) := by
  unfold pathB at h
  simp only [Bool.and_eq_true, beq_iff_eq, List.all_eq_true, List.mem_range, decide_eq_true_eq, Bool.or_eq_true, bne_iff_ne] at h
  obtain ⟨h1, h2, h3, h4, h5, h6⟩ := h
  exact ⟨h1, h2, h3, fun k hk => h4 k (by omega), fun k h0 hk => (h5 k hk).resolve_left (by omega), h6⟩
theorem lines : ∀ a b : Fin 64, (straight a.val b.val || across a.val b.val) = true → pathB a.val b.val = true := by decide +kernel
theorem path (a b : Nat) (ha : a < 64) (hb : b < 64) (h : (straight a b || across a b) = true) : Path a b (dist a b) (at' a b) := path_of (lines ⟨a, ha⟩ ⟨b, hb⟩ h)
/-- Is there nothing between two squares of one line? -/
def clr (c : Nat → Int) (a b : Nat) : Bool := clear c (at' a b) 1 (dist a b - 1)
def hits (c : Nat → Int) (a b : Nat) : Bool :=
  if P.kind (c (1 + a)) = 1 then (if color (c (1 + a)) = 0 then (up a b == 1) && (aside a b == 1) else (up a b == -1) && (aside a b == 1))
  else if P.kind (c (1 + a)) = 2 then ((abs (up a b) == 1) && (aside a b == 2)) || ((abs (up a b) == 2) && (aside a b == 1))
  else if P.kind (c (1 + a)) = 6 then beside a b
  else if P.kind (c (1 + a)) = 4 then straight a b && clr c a b
  else if P.kind (c (1 + a)) = 3 then across a b && clr c a b
  else if P.kind (c (1 + a)) = 5 then (straight a b || across a b) && clr c a b
  else false
end D

theorem d8clr_any (c : Nat → Int) (a b : Nat) (w : World) (hc : BdOk c) (ha : a < 64) (hb : b < 64) (h : (D.straight a b || D.across a b) = true) :
    Calls Tryd.prog 36 #[.agg (posC c), .int .i64 (a : Int), .int .i64 (b : Int)] w fun e w' => e = .returned (.bool (D.clr c a b)) ∧ Below w.heap.size w w' :=
  d8clear_any c a b _ _ w hc (D.path a b ha hb h)

end Go.Proofs.YtdfgpbighadplaaDoor
