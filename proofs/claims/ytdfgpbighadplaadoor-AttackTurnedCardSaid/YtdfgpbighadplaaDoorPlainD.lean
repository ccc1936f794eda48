/- The plain law of checks: what the program computes is the document's answer. No walk. -/
import Derived.Test.YtdfgpbighadplaaDoorPlainC
namespace Go.Proofs.YtdfgpbighadplaaDoor
open Go.RowKit

theorem dfirst_spec (p : Nat → Bool) : ∀ n k, (D.first p k n = -1 ∧ ∀ j, k ≤ j → j < k + n → p j = false) ∨ ∃ j, k ≤ j ∧ j < k + n ∧ D.first p k n = (j : Int) ∧ p j = true ∧ ∀ i, k ≤ i → i < j → p i = false
  | 0, k => .inl ⟨rfl, fun j h1 h2 => by omega⟩
  | n + 1, k => by
    rw [D.first]
    cases hp : p k
    · rw [if_neg (by simp)]
      rcases dfirst_spec p n (k + 1) with ⟨h, hn⟩ | ⟨j, h1, h2, h3, h4, h5⟩
      · refine .inl ⟨h, fun j h1 h2 => ?_⟩
        by_cases e : j = k
        · rw [e]; exact hp
        · exact hn j (by omega) (by omega)
      · refine .inr ⟨j, by omega, by omega, h3, h4, fun i hi1 hi2 => ?_⟩
        by_cases e : i = k
        · rw [e]; exact hp
        · exact h5 i (by omega) hi2
    · exact .inr ⟨k, by omega, by omega, by rw [if_pos rfl], hp, fun i h1 h2 => by omega⟩

theorem bit_is (c : Nat → Int) (color : Int) (kind : Int) (hk : 1 ≤ kind) (hc : BdOk c) (j : Nat) (hj : j < 64) : bit (S.of c color kind) j = D.is c j color kind := by
  obtain ⟨x0, x1⟩ := hc j hj
  rw [bit_of c color kind j hj]
  unfold S.ofG D.is
  cases hb : P.isB (c (1 + j))
  · rw [isB_false _ hb, show ((0 : Int) == kind) = false by simp; omega]; simp
  · rw [color_eq _ hb, show (kind == 0) = false by simp; omega, Bool.true_and, Bool.false_or, Bool.and_comm]

theorem find_eq (c : Nat → Int) (color : Int) (hc : BdOk c) : S.find c color 6 = D.find c color 6 := by
  unfold S.find D.find
  rcases dfirst_spec (fun s => D.is c s color 6) 64 0 with ⟨h, hn⟩ | ⟨j, _, h2, h3, h4, h5⟩
  · rw [h, zero_of (x := S.of c color 6) fun n h64 => by rw [bit_is c color 6 (by omega) hc n h64]; exact hn n (by omega) (by omega)]
    rfl
  · have hne : S.of c color 6 ≠ 0#64 := by
      intro e
      have := bit_is c color 6 (by omega) hc j (by omega)
      rw [e, bit_zero, h4] at this
      cases this
    obtain ⟨n, e, h64, hb, hl⟩ := first_spec _ hne
    rw [e, h3]
    rw [bit_is c color 6 (by omega) hc n h64] at hb
    have h6 : n = j := by
      rcases Nat.lt_trichotomy n j with h | h | h
      · have := h5 n (by omega) h
        rw [hb] at this; cases this
      · exact h
      · have := hl j h
        rw [bit_is c color 6 (by omega) hc j (by omega), h4] at this; cases this
    rw [h6]

theorem near_spec' (c : Nat → Int) (color s : Int) : ∀ n k, D.near c color s k n = true ↔ ∃ j, k ≤ j ∧ j < k + n ∧ D.is c j (K.oc color) 6 = true ∧ D.beside j s = true
  | 0, k => by simp [D.near]; intro j h1 h2; omega
  | n + 1, k => by
    rw [D.near, Bool.or_eq_true, near_spec' c color s n (k + 1), Bool.and_eq_true]
    constructor
    · rintro (⟨h1, h2⟩ | ⟨j, h1, h2, h3, h4⟩)
      · exact ⟨k, by omega, by omega, h1, h2⟩
      · exact ⟨j, by omega, by omega, h3, h4⟩
    · rintro ⟨j, h1, h2, h3, h4⟩
      by_cases e : j = k
      · subst e; exact .inl ⟨h3, h4⟩
      · exact .inr ⟨j, by omega, by omega, h3, h4⟩

theorem U_ne (x : BitVec 64) : (U x != 0) = decide (x ≠ 0#64) := by
  rw [bne, U_zero]
  by_cases h : x = 0#64 <;> simp [h]
theorem near_eq (c : Nat → Int) (color : Int) (n : Nat) (hc : BdOk c) (hn : n < 64) : (U (bAnd (R.king (n : Int)) (S.of c (K.oc color) 6)) != 0) = D.near c color n 0 64 := by
  rw [U_ne, Bool.eq_iff_iff, decide_eq_true_eq, near_spec' c color n 64 0]
  constructor
  · intro h
    obtain ⟨j, hj, hb⟩ := some_of h
    rw [bit_and, Bool.and_eq_true, bit_is c _ 6 (by omega) hc j hj, king_tab ⟨n, hn⟩ ⟨j, hj⟩] at hb
    exact ⟨j, by omega, by omega, hb.2, by rw [beside_back n j]; exact hb.1⟩
  · rintro ⟨j, _, hj, h1, h2⟩ e
    have := congrArg (fun x => bit x j) e
    simp only [bit_and, bit_zero, bit_is c _ 6 (by omega) hc j (by omega), h1, king_tab ⟨n, hn⟩ ⟨j, by omega⟩, Bool.and_true] at this
    rw [← beside_back n j, h2] at this
    cases this

theorem royal_eq (v color : Int) (h0 : 0 ≤ color) : V.royal v color = D.royal v color := by
  unfold V.royal D.royal
  have e : decide (color = 0 ∨ color = 1) = decide (color < 2) := by rw [decide_eq_decide]; omega
  rw [e]

/-- The king that may be in check, by both. -/
theorem king_eq (c : Nat → Int) (color : Int) (hc : BdOk c) (h0 : 0 ≤ color) : K.kingOk c color = decide (0 ≤ D.king c color) ∧ (K.kingOk c color = true → K.kingAt c color = D.king c color) := by
  unfold K.kingAt
  have key : K.kingOk c color = decide (0 ≤ D.king c color) ∧ (K.kingOk c color = true → S.find c color 6 = D.king c color) := by
    unfold K.kingOk K.lost D.king
    rw [royal_eq _ _ h0, find_eq c color hc]
    cases hr : D.royal (c 0) color
    · exact ⟨rfl, fun h => by simp at h⟩
    · rcases D.find_bd c color 6 with hf | ⟨n, hn, hf⟩
      · rw [hf]; exact ⟨rfl, fun h => by simp at h⟩
      · rw [hf, near_eq c color n hc hn, show decide ((n : Int) < 0) = false by simp]
        simp only [Bool.not_true, Bool.false_or, Bool.true_and]
        rw [if_neg (by simp)]
        cases hq : (c 0 == 3 && D.near c color n 0 64)
        · rw [if_neg (by simp)]; exact ⟨by simp, fun _ => rfl⟩
        · rw [if_pos rfl]; exact ⟨rfl, fun h => by simp at h⟩
  refine ⟨key.1, fun h => ?_⟩
  rw [if_pos h]
  exact key.2 h

theorem kingOk_color (c : Nat → Int) (color : Int) (h : K.kingOk c color = true) : color = 0 ∨ color = 1 := by
  unfold K.kingOk V.royal at h
  simp only [Bool.and_eq_true, decide_eq_true_eq] at h
  exact h.1.2.1

theorem check_eq (c : Nat → Int) (color : Int) (hc : BdOk c) (h0 : 0 ≤ color) : K.check c color = D.check c color := by
  obtain ⟨h1, h2⟩ := king_eq c color hc h0
  unfold K.check D.check
  rw [← h1]
  cases hk : K.kingOk c color
  · simp
  · have hcol := kingOk_color c color hk
    have hoc : K.oc color = 1 - color := by unfold K.oc; omega
    rw [decide_eq_true (show color ≤ 1 by omega), h2 hk]
    unfold K.on
    rw [by_eq c _ _ hc (by omega), if_pos (by omega)]
    simp

theorem checkers_eq (c : Nat → Int) (hc : BdOk c) (h0 : 0 ≤ c 78) : K.checkers c = D.checkers c := by
  obtain ⟨h1, h2⟩ := king_eq c (c 78) hc h0
  unfold K.checkers D.checkers
  cases hk : K.kingOk c (c 78)
  · rw [hk] at h1
    rw [if_neg (by simp)]
    split
    · rw [if_neg (by simpa using h1)]
    · rfl
  · rw [hk] at h1
    have hcol := kingOk_color c _ hk
    have hoc : K.oc (c 78) = 1 - c 78 := by unfold K.oc; omega
    rw [if_pos rfl, if_pos (show c 78 ≤ 1 by omega), if_pos (by simpa using h1), h2 hk, by_eq c _ _ hc (by omega), if_pos (by omega)]

end Go.Proofs.YtdfgpbighadplaaDoor
