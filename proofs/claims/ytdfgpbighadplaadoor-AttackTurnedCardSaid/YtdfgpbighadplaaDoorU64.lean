/- Sets of squares: 64 bits as a BitVec; what the model's operations do to them. No program in sight. -/
import Derived.WalkKit
import Derived.Laws.BitsAllLaws
namespace Go.Proofs.YtdfgpbighadplaaDoor
open Go.RowKit

/-- A set as the number that a slot holds; the operations on sets. (Definitions of their own, so that the walk leaves them as they stand.) -/
def U (x : BitVec 64) : Int := (x.toNat : Int)
def bAnd (x y : BitVec 64) : BitVec 64 := x &&& y
def bOr (x y : BitVec 64) : BitVec 64 := x ||| y
def bXor (x y : BitVec 64) : BitVec 64 := x ^^^ y
def bAndn (x y : BitVec 64) : BitVec 64 := x &&& ~~~y
def bShl (x : BitVec 64) (n : Nat) : BitVec 64 := x <<< n
def bShr (x : BitVec 64) (n : Nat) : BitVec 64 := x >>> n

theorem bv_lt (x : BitVec 64) : x.toNat < 18446744073709551616 := x.isLt
@[go_sem] theorem bv_and (x y : BitVec 64) : bits .and .u64 (U x) (U y) = U (bAnd x y) := by
  unfold U bAnd; rw [u64_and_nat _ _ (bv_lt x) (bv_lt y), BitVec.toNat_and]
@[go_sem] theorem bv_or (x y : BitVec 64) : bits .or .u64 (U x) (U y) = U (bOr x y) := by
  unfold U bOr; rw [u64_or_nat _ _ (bv_lt x) (bv_lt y), BitVec.toNat_or]
@[go_sem] theorem bv_xor (x y : BitVec 64) : bits .xor .u64 (U x) (U y) = U (bXor x y) := by
  unfold U bXor; rw [u64_xor_nat _ _ (bv_lt x) (bv_lt y), BitVec.toNat_xor]
@[go_sem] theorem bv_andNot (x y : BitVec 64) : bits .andNot .u64 (U x) (U y) = U (bAndn x y) := by
  unfold U bAndn; rw [u64_andNot_nat _ _ (bv_lt x) (bv_lt y), BitVec.toNat_and, BitVec.toNat_not]
theorem bv_shl_nat (x : BitVec 64) (n : Nat) : IntKind.u64.wrap (U x * 2 ^ min n 64) = U (bShl x n) := by
  unfold U bShl
  rw [IntKind.wrap_u64, BitVec.toNat_shiftLeft, Nat.shiftLeft_eq]
  by_cases h : n ≤ 64
  · rw [Nat.min_eq_left h, show ((2 : Int) ^ n) = ((2 ^ n : Nat) : Int) from (Int.natCast_pow 2 n).symm ▸ rfl, ← Int.natCast_mul]
    exact (Int.natCast_emod _ 18446744073709551616).symm
  · rw [Nat.min_eq_right (by omega)]
    have e : x.toNat * 2 ^ n = x.toNat * 2 ^ (n - 64) * 2 ^ 64 := by
      rw [Nat.mul_assoc, ← Nat.pow_add, Nat.sub_add_cancel (by omega)]
    rw [e, Nat.mul_mod_left]
    have e2 : ((x.toNat : Int) * 2 ^ 64) % 18446744073709551616 = 0 := Int.mul_emod_left _ _
    exact e2
@[go_sem high] theorem bv_shl (yk : IntKind) (x : BitVec 64) (y : Int) (h : 0 ≤ y) : Op.shift .shl .u64 (U x) yk y = pure (.int .u64 (U (bShl x y.toNat))) := by
  rw [shift_shl_any _ _ _ _ h]
  congr 2
  exact bv_shl_nat x y.toNat
theorem bv_shr_nat (x : BitVec 64) (n : Nat) : U x / 2 ^ min n 64 = U (bShr x n) := by
  unfold U bShr
  rw [BitVec.toNat_ushiftRight, Nat.shiftRight_eq_div_pow]
  by_cases h : n ≤ 64
  · rw [Nat.min_eq_left h, show ((2 : Int) ^ n) = ((2 ^ n : Nat) : Int) from (Int.natCast_pow 2 n).symm ▸ rfl]
    exact (Int.natCast_ediv _ _).symm
  · rw [Nat.min_eq_right (by omega)]
    have e : x.toNat / 2 ^ n = 0 := Nat.div_eq_of_lt (Nat.lt_of_lt_of_le x.isLt (Nat.pow_le_pow_right (by decide) (by omega)))
    rw [e]
    have e2 : (x.toNat : Int) / 2 ^ 64 = 0 := by
      have := bv_lt x
      omega
    exact e2
@[go_sem high] theorem bv_shr (yk : IntKind) (x : BitVec 64) (y : Int) (h : 0 ≤ y) : Op.shift .shr .u64 (U x) yk y = pure (.int .u64 (U (bShr x y.toNat))) := by
  rw [shift_shr_any _ _ _ _ h]
  congr 2
  exact bv_shr_nat x y.toNat
theorem U_zero (x : BitVec 64) : (U x == 0) = decide (x = 0#64) := by
  unfold U
  by_cases h : x = 0#64
  · subst h; rfl
  · have : x.toNat ≠ 0 := fun e => h (BitVec.eq_of_toNat_eq e)
    rw [decide_eq_false h]
    simp; omega
theorem U_bd (x : BitVec 64) : 0 ≤ U x := by unfold U; omega
theorem U_inj {x y : BitVec 64} (h : U x = U y) : x = y := by
  unfold U at h; exact BitVec.eq_of_toNat_eq (by omega)

end Go.Proofs.YtdfgpbighadplaaDoor
