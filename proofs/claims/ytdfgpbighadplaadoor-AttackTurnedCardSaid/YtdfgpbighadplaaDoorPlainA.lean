/- Sets of squares by their squares; the least and the greatest. No walk. -/
import Derived.Test.YtdfgpbighadplaaDoorFromAny
import Derived.Test.YtdfgpbighadplaaDoorRef08l
import Derived.Lib.ItoaNum
namespace Go.Proofs.YtdfgpbighadplaaDoor
open Go.RowKit

def bit (x : BitVec 64) (n : Nat) : Bool := x.getLsbD n
theorem bit_zero (n : Nat) : bit 0#64 n = false := by simp [bit]
theorem bit_and (x y : BitVec 64) (n : Nat) : bit (bAnd x y) n = (bit x n && bit y n) := by simp [bit, bAnd]
theorem bit_or (x y : BitVec 64) (n : Nat) : bit (bOr x y) n = (bit x n || bit y n) := by simp [bit, bOr]
theorem bit_lt {x : BitVec 64} {n : Nat} (h : bit x n = true) : n < 64 := BitVec.lt_of_getLsbD h
theorem bit_andn (x y : BitVec 64) (n : Nat) : bit (bAndn x y) n = (bit x n && !bit y n) := by
  cases h : bit x n
  · unfold bit at *; unfold bAndn; rw [BitVec.getLsbD_and, h]; rfl
  · have := bit_lt h
    unfold bit at *; unfold bAndn; rw [BitVec.getLsbD_and, h, BitVec.getLsbD_not]; simp [this]
theorem bit_one (s n : Nat) (hs : s < 64) : bit (B.one (s : Int)) n = decide (n = s) := by
  unfold bit B.one
  rw [if_pos (by omega), BitVec.getLsbD_shiftLeft, BitVec.getLsbD_one, Int.toNat_natCast]
  by_cases h : n = s
  · subst h; simp; omega
  · simp [h]; omega
theorem bit_ext {x y : BitVec 64} (h : ∀ n, n < 64 → bit x n = bit y n) : x = y := BitVec.eq_of_getLsbD_eq h
theorem zero_of {x : BitVec 64} (h : ∀ n, n < 64 → bit x n = false) : x = 0#64 := bit_ext fun n hn => by rw [h n hn, bit_zero]
theorem some_of {x : BitVec 64} (h : x ≠ 0#64) : ∃ n, n < 64 ∧ bit x n = true := by
  apply Classical.byContradiction
  intro hn
  exact h (zero_of fun n h64 => by
    cases hb : bit x n
    · rfl
    · exact absurd ⟨n, h64, hb⟩ hn)
theorem bit_test (x : BitVec 64) (n : Nat) : bit x n = x.toNat.testBit n := rfl

theorem first_spec (b : BitVec 64) (h : b ≠ 0#64) : ∃ n : Nat, B.first b = (n : Int) ∧ n < 64 ∧ bit b n = true ∧ ∀ m, m < n → bit b m = false := by
  have h0 : b.toNat ≠ 0 := fun e => h (BitVec.eq_of_toNat_eq e)
  have hs := Lib.ctzFrom_spec 64 b.toNat (by omega) b.isLt
  obtain ⟨m, hm, hlt⟩ := hs
  have hc : Lib.ctz 64 b.toNat = Lib.ctzFrom 64 b.toNat := by unfold Lib.ctz; rw [if_neg h0]
  refine ⟨Lib.ctzFrom 64 b.toNat, by unfold B.first; rw [if_neg h, hc], hlt, ?_, fun j hj => ?_⟩
  · rw [bit_test]
    generalize Lib.ctzFrom 64 b.toNat = k at *
    rw [hm, Nat.testBit_two_pow_mul]
    simp
  · rw [bit_test]
    generalize Lib.ctzFrom 64 b.toNat = k at *
    rw [hm, Nat.testBit_two_pow_mul]
    simp
    omega

theorem last_spec (b : BitVec 64) (h : b ≠ 0#64) : ∃ n : Nat, B.last b = (n : Int) ∧ n < 64 ∧ bit b n = true ∧ ∀ m, n < m → bit b m = false := by
  have h0 : b.toNat ≠ 0 := fun e => h (BitVec.eq_of_toNat_eq e)
  obtain ⟨h1, h2, h3⟩ := Lib.bitLenAux_bounds 64 b.toNat b.isLt h0
  have hl := B.last_bd b
  unfold Lib.bitLen at hl
  refine ⟨Lib.bitLenAux 64 b.toNat - 1, by unfold B.last Lib.bitLen; omega, by omega, ?_, fun j hj => ?_⟩
  · rw [bit_test]
    exact Nat.testBit_of_two_pow_le_and_two_pow_add_one_gt h2 (by rw [Nat.sub_add_cancel h1]; exact h3)
  · rw [bit_test]
    exact Nat.testBit_lt_two_pow (Nat.lt_of_lt_of_le h3 (Nat.pow_le_pow_right (by decide) (by omega)))

theorem bit_upTo (c : Nat → Int) (g : Int → Bool) (j : Nat) (hj : j < 64) : ∀ n, n ≤ 64 → bit (S.upTo c g n) j = (decide (j < n) && (P.isB (c (1 + j)) && g (c (1 + j))))
  | 0, _ => by simp [S.upTo, bit_zero]
  | n + 1, hn => by
    have ih := bit_upTo c g j hj n (by omega)
    rw [S.upTo]
    split
    · rename_i hg
      unfold B.put
      rw [bit_or, ih, bit_one n j (by omega)]
      by_cases e : j = n
      · subst e; simp at hg ⊢; simp [hg]
      · have : decide (j < n + 1) = decide (j < n) := by simp; omega
        simp [e, this]
    · rename_i hg
      rw [ih]
      by_cases e : j = n
      · subst e; simp at hg ⊢; exact hg
      · have : decide (j < n + 1) = decide (j < n) := by simp; omega
        rw [this]
theorem bit_all (c : Nat → Int) (j : Nat) (hj : j < 64) : bit (S.all c) j = P.isB (c (1 + j)) := by
  unfold S.all S.set; rw [bit_upTo c _ j hj 64 (by omega)]; simp [hj]
theorem bit_of (c : Nat → Int) (color kind : Int) (j : Nat) (hj : j < 64) : bit (S.of c color kind) j = (P.isB (c (1 + j)) && S.ofG color kind (c (1 + j))) := by
  unfold S.of S.set; rw [bit_upTo c _ j hj 64 (by omega)]; simp [hj]

theorem bit_fromTo (c : Nat → Int) (a j : Nat) (hj : j < 64) : ∀ n, n ≤ 64 → bit (D.fromTo c a n) j = (decide (j < n) && D.hits c a j)
  | 0, _ => by simp [D.fromTo, bit_zero]
  | n + 1, hn => by
    have ih := bit_fromTo c a j hj n (by omega)
    rw [D.fromTo]
    split
    · rename_i hg
      rw [bit_or, ih, bit_one n j (by omega)]
      by_cases e : j = n
      · subst e; simp [hg]
      · have : decide (j < n + 1) = decide (j < n) := by simp; omega
        simp [e, this]
    · rename_i hg
      rw [ih]
      by_cases e : j = n
      · subst e; simp [hg]
      · have : decide (j < n + 1) = decide (j < n) := by simp; omega
        rw [this]
theorem bit_byTo (c : Nat → Int) (s : Nat) (color : Int) (j : Nat) (hj : j < 64) : ∀ n, n ≤ 64 → bit (D.byTo c s color n) j = (decide (j < n) && (P.kind (c (1 + j)) != 0 && (D.color (c (1 + j)) == color && D.hits c j s)))
  | 0, _ => by simp [D.byTo, bit_zero]
  | n + 1, hn => by
    have ih := bit_byTo c s color j hj n (by omega)
    rw [D.byTo]
    split
    · rename_i hg
      rw [bit_or, ih, bit_one n j (by omega)]
      by_cases e : j = n
      · subst e; rw [hg]; simp
      · have : decide (j < n + 1) = decide (j < n) := by simp; omega
        simp [e, this]
    · rename_i hg
      rw [ih]
      by_cases e : j = n
      · subst e; rw [Bool.not_eq_true] at hg; rw [hg]; simp
      · have : decide (j < n + 1) = decide (j < n) := by simp; omega
        rw [this]

end Go.Proofs.YtdfgpbighadplaaDoor
