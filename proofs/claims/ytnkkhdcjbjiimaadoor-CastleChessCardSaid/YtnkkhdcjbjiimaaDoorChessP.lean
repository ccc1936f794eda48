/- Castling in chess, in plain Lean. -/
import Derived.Test.YtnkkhdcjbjiimaaDoorCastR
import Derived.Test.YtnkkhdcjbjiimaaDoorCastZ
namespace Go.Proofs.YtnkkhdcjbjiimaaDoor
open Go.RowKit Go.Sort

theorem btw_up (a b j : Nat) (ha : 8 ≤ a) (ha2 : a < 64) (hb : b < 8) (hj : j < 64) (hl : (D.straight a b || D.across a b) = true) (h : btw a b j = true) : 8 ≤ j := by
  obtain ⟨d, hd, hr⟩ := line_dir a b ha2 (by omega) hl
  rw [btw_ray a d b j ha2 hd (by omega) hj hr, Bool.and_eq_true] at h
  obtain ⟨h1, h2⟩ := h
  match d, hd with
  | 0, _ | 1, _ | 2, _ | 3, _ | 4, _ | 5, _ | 6, _ | 7, _ =>
    simp only [inRay, Nat.blt_eq, Bool.and_eq_true, beq_iff_eq] at hr h1 h2
    omega
theorem free_up (x y : BitVec 64) (a b : Nat) (ha : 8 ≤ a) (ha2 : a < 64) (hb : b < 8) (hl : (D.straight a b || D.across a b) = true) (h : ∀ j, 8 ≤ j → j < 64 → bit x j = bit y j) : free x a b = free y a b := by
  rw [Bool.eq_iff_iff, free_iff, free_iff]
  constructor
  · intro hf j hj hb'
    rw [← h j (btw_up a b j ha ha2 hb hj hl hb') hj]; exact hf j hj hb'
  · intro hf j hj hb'
    rw [h j (btw_up a b j ha ha2 hb hj hl hb') hj]; exact hf j hj hb'
theorem hitsK_up (k color : Int) (x y : BitVec 64) (a b : Nat) (ha : 8 ≤ a) (ha2 : a < 64) (hb : b < 8) (h : ∀ j, 8 ≤ j → j < 64 → bit x j = bit y j) : D.hitsK k color x a b = D.hitsK k color y a b := by
  unfold D.hitsK
  split
  · rfl
  · split
    · rfl
    · split
      · rfl
      · split
        · exact and_clr fun hs => free_up x y a b ha ha2 hb (by rw [hs]; rfl) h
        · split
          · exact and_clr fun hs => free_up x y a b ha ha2 hb (by rw [hs, Bool.or_true]) h
          · split
            · exact and_clr fun hs => free_up x y a b ha ha2 hb hs h
            · rfl
/-- On the first rank, where no piece of Black stands there, what attacks hangs on the other ranks alone. -/
theorem by_up (c c' : Nat → Int) (x : Nat) (hc : BdOk c) (hc' : BdOk c') (hx : x < 8) (h : ∀ s, 8 ≤ s → s < 64 → c (1 + s) = c' (1 + s)) (h1 : ∀ s, s < 8 → c (1 + s) < 8) (h2 : ∀ s, s < 8 → c' (1 + s) < 8) : K.by c x 1 = K.by c' x 1 := by
  refine bit_ext fun a ha => ?_
  rw [bit_by c a x 1 hc ha (by omega) (by omega) (by omega), bit_by c' a x 1 hc' ha (by omega) (by omega) (by omega)]
  by_cases ha8 : a < 8
  · have e1 : (D.color (c (1 + a)) == 1) = false := by have := h1 a ha8; have := (hc a ha).1; unfold D.color; simp; omega
    have e2 : (D.color (c' (1 + a)) == 1) = false := by have := h2 a ha8; have := (hc' a ha).1; unfold D.color; simp; omega
    rw [e1, e2]; simp
  · rw [hits_K c a x hc ha (by omega), hits_K c' a x hc' ha (by omega), h a (by omega) ha]
    rw [hitsK_up _ _ (S.all c) (S.all c') a x (by omega) ha hx (fun j hj hj2 => by rw [bit_all c j hj2, bit_all c' j hj2, h j hj hj2])]

namespace T
/-- The square's piece of CastleChess's position. -/
def chV (b : Nat → Int) (s : Nat) : Int :=
  if firstP (1 + s) ≠ 0 then firstP (1 + s)
  else if 1 ≤ (b s % 16) % 8 ∧ (b s % 16) % 8 ≤ 5 then (if s < 8 ∧ 8 < b s % 16 then b s % 16 - 8 else b s % 16) else 0
/-- The position, filled up to a square. -/
def chC (b : Nat → Int) (n : Nat) : Nat → Int := fun i => if 1 ≤ i ∧ i ≤ n then chV b (i - 1) else firstP i
theorem chC_zero (b : Nat → Int) : chC b 0 = firstP := by funext i; unfold chC; rw [if_neg (by omega)]
theorem chC_succ (b : Nat → Int) (n : Nat) : chC b (n + 1) = upd (chC b n) (1 + n) (chV b n) := by
  funext i
  unfold upd
  by_cases h : i = 1 + n
  · rw [if_pos h]; unfold chC; rw [if_pos (by omega), h, show 1 + n - 1 = n by omega]
  · rw [if_neg h]; unfold chC
    by_cases h2 : 1 ≤ i ∧ i ≤ n
    · rw [if_pos h2, if_pos (by omega)]
    · rw [if_neg h2, if_neg (by omega)]
theorem chC_next (b : Nat → Int) (n : Nat) : chC b n (1 + n) = firstP (1 + n) := by unfold chC; rw [if_neg (by omega)]
theorem upd_self (c : Nat → Int) (i : Nat) : upd c i (c i) = c := by funext j; unfold upd; split <;> simp_all
theorem chC_skip (b : Nat → Int) (n : Nat) (h : chV b n = firstP (1 + n)) : chC b (n + 1) = chC b n := by
  rw [chC_succ, h, ← chC_next b n, upd_self]
theorem first_tab : ∀ s : Fin 64, firstP (1 + s.val) = if s.val = 4 then 6 else if s.val = 0 then 4 else if s.val = 7 then 4 else if s.val = 60 then 14 else 0 := by decide +kernel
theorem first_at (s : Nat) (hs : s < 64) : firstP (1 + s) = if s = 4 then 6 else if s = 0 then 4 else if s = 7 then 4 else if s = 60 then 14 else 0 := first_tab ⟨s, hs⟩
section
variable (b : Nat → Int)
theorem chF (s : Nat) (hs : s < 64) : chC b 64 (1 + s) = chV b s := by unfold chC; rw [if_pos (by omega), show 1 + s - 1 = s by omega]
theorem chO (i : Nat) (hi : 65 ≤ i ∨ i = 0) : chC b 64 i = firstP i := by unfold chC; rw [if_neg (by omega)]
theorem chV_bd (s : Nat) (hs : s < 64) : 0 ≤ chV b s ∧ chV b s ≤ 14 := by
  unfold chV
  rw [first_at s hs]
  split
  · split <;> omega
  · split
    · split <;> omega
    · omega
theorem chV_low (s : Nat) (hs : s < 8) : chV b s < 8 := by
  unfold chV
  rw [first_at s (by omega)]
  split
  · split <;> omega
  · split
    · split <;> omega
    · omega
theorem chV_king (s : Nat) (hs : s < 64) : chV b s = 6 ↔ s = 4 := by
  unfold chV
  rw [first_at s hs]
  constructor
  · split
    · split <;> omega
    · split
      · split <;> omega
      · omega
  · rintro rfl
    simp
theorem chV_ne (s : Nat) (hs : s < 64) : chV b s ≠ 7 ∧ chV b s ≠ 8 := by
  unfold chV
  rw [first_at s hs]
  split
  · split <;> omega
  · split
    · split <;> omega
    · omega
theorem chV_isB (s : Nat) (hs : s < 64) : P.isB (chV b s) = !(chV b s == 0) := by
  have h1 := chV_bd b s hs
  have h2 := chV_ne b s hs
  generalize chV b s = x at *
  unfold P.isB
  rw [Bool.eq_iff_iff]
  simp only [decide_eq_true_eq, Bool.not_eq_true', beq_eq_false_iff_ne]
  omega
theorem ch_bd : BdOk (chC b 64) := fun s hs => by rw [chF b s hs]; have := chV_bd b s hs; omega
theorem ch_ok : PosOk (chC b 64) := fun i hi => by
  by_cases h : 1 ≤ i ∧ i ≤ 64
  · obtain ⟨s, rfl⟩ : ∃ s, i = 1 + s := ⟨i - 1, by omega⟩
    rw [pk_board (by omega), chF b s (by omega)]
    have := chV_bd b s (by omega)
    simp [Lit.wf, IntKind.min, IntKind.max, IntKind.bits, IntKind.signed]; omega
  · rw [chO b i (by omega)]
    exact first_ok i hi
end
end T

end Go.Proofs.YtnkkhdcjbjiimaaDoor
