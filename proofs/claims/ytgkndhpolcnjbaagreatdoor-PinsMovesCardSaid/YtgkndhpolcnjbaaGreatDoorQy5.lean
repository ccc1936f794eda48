/- Several texts in one: Law18b, Law18c, Law18d, Ref18d, Ref18da, Ref18e, Law18e. -/

import Derived.Test.YtgkndhpolcnjbaaGreatDoorQy4
import Derived.Test.YtgkndhpolcnjbaaGreatDoorQy3
namespace Go.Proofs.YtgkndhpolcnjbaaGreatDoor
open Go.RowKit
namespace N
end N
end Go.Proofs.YtgkndhpolcnjbaaGreatDoor
namespace Go.Proofs.YtgkndhpolcnjbaaGreatDoor
open Go.RowKit Go.Sort
end Go.Proofs.YtgkndhpolcnjbaaGreatDoor
namespace Go.Proofs.YtgkndhpolcnjbaaGreatDoor
open Go.RowKit Go.Sort
end Go.Proofs.YtgkndhpolcnjbaaGreatDoor
namespace Go.Proofs.YtgkndhpolcnjbaaGreatDoor
open Go.RowKit Go.Sort
namespace N
theorem below_drew {B : Nat} {a w : World} (h : Below B a w) (n : Nat) : Below B a (w.drewN n) := ⟨h.os, h.tape, h.output, h.size, h.block⟩
end N
theorem step_ok (r f p q : Int) (hr : 0 ≤ r ∧ r ≤ 7) (hf : 0 ≤ f ∧ f ≤ 7) (hp : -7 ≤ p ∧ p ≤ 7) (hq : -7 ≤ q ∧ q ≤ 7) :
    wrap64 (r + p) = r + p ∧ wrap64 (8 * (r + p)) = 8 * (r + p) ∧ wrap64 (8 * (r + p) + f) = 8 * (r + p) + f ∧
    wrap64 (8 * (r + p) + f + q) = 8 * (r + p) + f + q :=
  ⟨IntWalk.wrap64_in _ ⟨by omega, by omega⟩, IntWalk.wrap64_in _ ⟨by omega, by omega⟩, IntWalk.wrap64_in _ ⟨by omega, by omega⟩, IntWalk.wrap64_in _ ⟨by omega, by omega⟩⟩
end Go.Proofs.YtgkndhpolcnjbaaGreatDoor
namespace Go.Proofs.YtgkndhpolcnjbaaGreatDoor
open Go.RowKit Go.Sort
namespace N
end N
end Go.Proofs.YtgkndhpolcnjbaaGreatDoor
namespace Go.Proofs.YtgkndhpolcnjbaaGreatDoor
open Go.RowKit Go.Sort
namespace N
/-- Does the piece on s, of another color than the one given, hit k? -/
def foe (c : Nat → Int) (color : Int) (k s : Nat) : Bool := P.kind (c (1 + s)) != 0 && (D.color (c (1 + s)) != color && D.hits c s k)
def foes (c : Nat → Int) (color : Int) (k : Nat) : Nat → Nat
  | 0 => 0
  | n + 1 => foes c color k n + if foe c color k n = true then 1 else 0
def lastFoe (c : Nat → Int) (color : Int) (k : Nat) : Nat → Int
  | 0 => -1
  | n + 1 => if foe c color k n = true then (n : Int) else lastFoe c color k n
theorem last_spec (c : Nat → Int) (color : Int) (k : Nat) : ∀ n, (foes c color k n = 0 ∧ lastFoe c color k n = -1) ∨ ∃ j : Nat, j < n ∧ lastFoe c color k n = (j : Int) ∧ foe c color k j = true
  | 0 => .inl ⟨rfl, rfl⟩
  | n + 1 => by
    rw [foes, lastFoe]
    by_cases h : foe c color k n = true
    · right; exact ⟨n, by omega, by rw [if_pos h], h⟩
    · rw [if_neg h, if_neg h]
      rcases last_spec c color k n with ⟨h1, h2⟩ | ⟨j, h1, h2, h3⟩
      · left; exact ⟨by omega, h2⟩
      · right; exact ⟨j, by omega, h2, h3⟩
theorem slider_line (c : Nat → Int) (a b : Nat) (h : D.hits c a b = true) (hs : slider (P.kind (c (1 + a))) = true) : (D.straight a b || D.across a b) = true := by
  unfold slider at hs
  unfold D.hits at h
  simp only [Bool.or_eq_true, beq_iff_eq] at hs
  rcases hs with e | e | e
  · rw [e] at h; simp at h; simp [h.1]
  · rw [e] at h; simp at h; simp [h.1]
  · rw [e] at h; simp at h; simpa using h.1
theorem line_back (a b : Nat) : (D.straight b a || D.across b a) = (D.straight a b || D.across a b) := by rw [straight_back, across_back]
end N
end Go.Proofs.YtgkndhpolcnjbaaGreatDoor
namespace Go.Proofs.YtgkndhpolcnjbaaGreatDoor
open Go.RowKit Go.Sort
namespace N
theorem inRay_self_tab : ∀ (a : Fin 64) (d : Fin 8), inRay a.val d.val a.val = false := by decide +kernel
theorem inRay_self (a d : Nat) (ha : a < 64) (hd : d < 8) : inRay a d a = false := inRay_self_tab ⟨a, ha⟩ ⟨d, hd⟩
theorem tow_some (a b : Int) : ∀ n k j, k ≤ j → j < k + n → B.has (R.ray a j) b = true → R.towFrom a b k n ≠ -1
  | 0, k, j, h1, h2, _ => by omega
  | n + 1, k, j, h1, h2, h => by
    rw [R.towFrom]
    split
    · omega
    · rename_i hn
      by_cases e : j = k
      · subst e; exact absurd h hn
      · exact tow_some a b n (k + 1) j (by omega) (by omega) h
theorem bit_between (a b j : Nat) (ha : a < 64) (hb : b < 64) (hj : j < 64) (h : (D.straight a b || D.across a b) = true) : bit (R.between (a : Int) (b : Int)) j = btw a b j := by
  obtain ⟨d0, hd0, hr0⟩ := line_dir a b ha hb h
  have hne : R.towards (a : Int) b ≠ -1 := tow_some a b 8 0 d0 (by omega) (by omega) (by rw [has_bit _ b hb, bit_ray a d0 b ha hd0 hb]; exact hr0)
  rcases R.tow_bd (a : Int) b 8 0 with h1 | ⟨d, _, hd, h1, h2⟩
  · exact absurd h1 hne
  · have ht : R.towards (a : Int) b = (d : Int) := h1
    have hd8 : d < 8 := by omega
    rw [has_bit _ b hb, bit_ray a d b ha hd8 hb] at h2
    unfold R.between
    rw [ht, if_neg (by omega), Int.toNat_natCast, bit_and, bit_ray a d j ha hd8 hj, bit_ray b _ j hb (by omega) hj, inRay_back j d b hd8, btw_ray a d b j ha hd8 hb hj h2]
theorem bit_foe (c : Nat → Int) (color : Int) (k s : Nat) (hc : BdOk c) (hk : k < 64) (hs : s < 64) (h0 : 0 ≤ color) (h1 : color ≤ 1) :
    bit (K.by c (k : Int) (K.oc color)) s = foe c color k s := by
  have ho : K.oc color = 1 - color := by unfold K.oc; omega
  rw [ho, bit_by c s k (1 - color) hc hs hk (by omega) (by omega)]
  unfold foe
  obtain ⟨x0, x1⟩ := hc s hs
  cases hz : (P.kind (c (1 + s)) != 0)
  · rfl
  · rw [isB_kind _ x0 x1] at hz
    have h2 := (isB_true _ x0 x1 hz).2.2
    rw [color_eq _ hz] at h2
    have : (D.color (c (1 + s)) == 1 - color) = (D.color (c (1 + s)) != color) := by
      rw [Bool.eq_iff_iff, beq_iff_eq, bne_iff_ne]; omega
    rw [this]
end N
end Go.Proofs.YtgkndhpolcnjbaaGreatDoor
