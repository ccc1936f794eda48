/- The plain law of lines: the finite tables. No walk. -/
import Derived.Test.YtdfgpbighadplaaDoorPlainA
namespace Go.Proofs.YtdfgpbighadplaaDoor
open Go.RowKit

/-- Is b on the ray of a in direction d? -/
def inRay (a d b : Nat) : Bool :=
  match d with
  | 0 => a % 8 == b % 8 && Nat.blt (a / 8) (b / 8)
  | 1 => Nat.blt (a % 8) (b % 8) && (b / 8 == a / 8 + (b % 8 - a % 8))
  | 2 => a / 8 == b / 8 && Nat.blt (a % 8) (b % 8)
  | 3 => Nat.blt (a % 8) (b % 8) && (a / 8 == b / 8 + (b % 8 - a % 8))
  | 4 => a % 8 == b % 8 && Nat.blt (b / 8) (a / 8)
  | 5 => Nat.blt (b % 8) (a % 8) && (a / 8 == b / 8 + (a % 8 - b % 8))
  | 6 => a / 8 == b / 8 && Nat.blt (b % 8) (a % 8)
  | 7 => Nat.blt (b % 8) (a % 8) && (b / 8 == a / 8 + (a % 8 - b % 8))
  | _ => false

theorem ray_tab : ∀ (a : Fin 64) (d : Fin 8) (b : Fin 64), bit (R.ray (a.val : Int) d.val) b.val = inRay a.val d.val b.val := by decide +kernel
theorem bit_ray (a d b : Nat) (ha : a < 64) (hd : d < 8) (hb : b < 64) : bit (R.ray (a : Int) d) b = inRay a d b := ray_tab ⟨a, ha⟩ ⟨d, hd⟩ ⟨b, hb⟩

/-- Is j strictly between a and b, by the document's steps? -/
def btw (a b j : Nat) : Bool := (List.range (D.dist a b)).any fun k => Nat.blt 0 k && D.at' a b k == j
theorem btw_tab : ∀ (a : Fin 64) (d : Fin 8) (b : Fin 64), inRay a.val d.val b.val = true → ∀ j : Fin 64, btw a.val b.val j.val = (inRay a.val d.val j.val && inRay j.val d.val b.val) := by decide +kernel
theorem btw_ray (a d b j : Nat) (ha : a < 64) (hd : d < 8) (hb : b < 64) (hj : j < 64) (h : inRay a d b = true) : btw a b j = (inRay a d j && inRay j d b) := btw_tab ⟨a, ha⟩ ⟨d, hd⟩ ⟨b, hb⟩ h ⟨j, hj⟩
theorem straight_tab : ∀ (a b : Fin 64), D.straight a.val b.val = (inRay a.val 0 b.val || (inRay a.val 2 b.val || (inRay a.val 4 b.val || inRay a.val 6 b.val))) := by decide +kernel
theorem across_tab : ∀ (a b : Fin 64), D.across a.val b.val = (inRay a.val 1 b.val || (inRay a.val 3 b.val || (inRay a.val 5 b.val || inRay a.val 7 b.val))) := by decide +kernel
theorem king_tab : ∀ (a b : Fin 64), bit (R.king (a.val : Int)) b.val = D.beside a.val b.val := by decide +kernel
theorem knight_tab : ∀ (a b : Fin 64), bit (R.knight (a.val : Int)) b.val = (((D.abs (D.up a.val b.val) == 1) && (D.aside a.val b.val == 2)) || ((D.abs (D.up a.val b.val) == 2) && (D.aside a.val b.val == 1))) := by decide +kernel
theorem pawn0_tab : ∀ (a b : Fin 64), bit (R.pawn 0 (a.val : Int)) b.val = ((D.up a.val b.val == 1) && (D.aside a.val b.val == 1)) := by decide +kernel
theorem pawn1_tab : ∀ (a b : Fin 64), bit (R.pawn 1 (a.val : Int)) b.val = ((D.up a.val b.val == -1) && (D.aside a.val b.val == 1)) := by decide +kernel

end Go.Proofs.YtdfgpbighadplaaDoor
