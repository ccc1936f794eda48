/- The laws on pieces: PiecesTwelve. -/
import Derived.Test.YthnmbjolljpkaaaLaw05b
namespace Go.Proofs.Ythnmbjolljpkaaa
open Go.RowKit

/-- The number behind i steps. -/
def P.nth (a : Int) (i : Nat) : Int := (a + (i : Int)) % 256
def P.cnt (a : Int) : Nat → Nat
  | 0 => 0
  | i + 1 => P.cnt a i + if P.isB (P.nth a i) then 1 else 0
def P.wht (a : Int) : Nat → Nat
  | 0 => 0
  | i + 1 => P.wht a i + if P.isB (P.nth a i) && P.color (P.nth a i) == 0 then 1 else 0
def P.ltr (a : Int) : Nat → ByteArray
  | 0 => ⟨#[]⟩
  | i + 1 => if P.isB (P.nth a i) then P.ltr a i ++ P.letter (P.nth a i) else P.ltr a i

theorem P.cnt_le (a : Int) (i : Nat) : P.cnt a i ≤ i := by
  induction i with
  | zero => exact Nat.le_refl _
  | succ i ih => unfold P.cnt; split <;> omega
theorem P.wht_le (a : Int) (i : Nat) : P.wht a i ≤ i := by
  induction i with
  | zero => exact Nat.le_refl _
  | succ i ih => unfold P.wht; split <;> omega
theorem P.nth_bd (a : Int) (i : Nat) : 0 ≤ P.nth a i ∧ P.nth a i ≤ 255 := by unfold P.nth; omega
theorem P.ltr_size (a : Int) (i : Nat) : (P.ltr a i).size = P.cnt a i := by
  induction i with
  | zero => rfl
  | succ i ih =>
    unfold P.ltr P.cnt
    by_cases h : P.isB (P.nth a i) = true
    · rw [if_pos h, if_pos h, ByteArray.size_append, ih, P.letter_size _ (P.nth_bd a i).1 h]
    · rw [if_neg h, if_neg h, ih]; rfl

theorem P.cnt_all : ∀ a : Fin 256, P.cnt ((a.val : Nat) : Int) 256 = 12 ∧ P.wht ((a.val : Nat) : Int) 256 = 6 := by decide +kernel

end Go.Proofs.Ythnmbjolljpkaaa
