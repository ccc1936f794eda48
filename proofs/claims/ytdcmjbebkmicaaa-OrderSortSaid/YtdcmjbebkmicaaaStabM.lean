/- Stable merging in place, in plain Lean: what the halves give. -/
import Derived.Test.YtdcmjbebkmicaaaStabArr
namespace Go.Proofs.Ytdcmjbebkmicaaa
namespace Stab
section
variable {L : Nat → Nat → Prop} {g g2 g3 g4 : Nat → Nat} {a m b mid s en : Nat}
/-- Behind the rotation. -/
def Mid (L : Nat → Nat → Prop) (g g2 : Nat → Nat) (a m b mid s en : Nat) : Prop :=
  (a ≤ s ∧ s ≤ m ∧ s ≤ mid ∧ m ≤ en ∧ mid ≤ en ∧ en ≤ b) ∧ Srt L g2 a s ∧ Srt L g2 s mid ∧ Srt L g2 mid en ∧ Srt L g2 en b ∧ Cross L g2 a mid b ∧
  (∀ x y, a ≤ x → x < s → s ≤ y → y < mid → g2 x < g2 y) ∧ (∀ x y, mid ≤ x → x < en → en ≤ y → y < b → g2 x < g2 y) ∧ Prm a b g g2
theorem merge_mid (hL : Ord L) (mid s en p : Nat) (hmid : mid = (a + b) / 2) (ham : a < m) (hp : mid + m - 1 = p) (hen : mid + m - s = en) (hs1 : Srt L g a m) (hs2 : Srt L g m b) (hx : ∀ x y, a ≤ x → x < m → m ≤ y → y < b → g x < g y)
    (hlo : (if mid < m then mid + m - b else a) ≤ s) (hhi : s ≤ (if mid < m then mid else m))
    (h1 : ∀ c, (if mid < m then mid + m - b else a) ≤ c → c < s → L (g c) (g (p - c))) (h2 : ∀ c, s ≤ c → c < (if mid < m then mid else m) → L (g (p - c)) (g c)) (g2 : Nat → Nat) (hg : rot g s m en = g2) : Mid L g g2 a m b mid s en := by
  subst hp hen hg
  obtain ⟨hb, k1, k2, k3, k4, k5⟩ := split_ok hL mid s hmid ham hs1 hs2 hlo hhi h1 h2
  refine ⟨hb, k1, k2, k3, k4, k5, fun x y h1 h2 h3 h4 => ?_, fun x y h1 h2 h3 h4 => ?_, (Prm.rot g s m _ hb.2.1 hb.2.2.2.1).mono hb.1 hb.2.2.2.2.2⟩
  · unfold rot
    rw [if_neg (by omega), if_neg (by omega), if_pos (by omega)]
    exact hx _ _ h1 (by omega) (by omega) (by omega)
  · unfold rot
    rw [if_neg (by omega), if_pos (by omega), if_neg (by omega), if_neg (by omega)]
    exact hx _ _ (by omega) (by omega) (by omega) h4
theorem srt_joint (h1 : Srt L g a m) (h2 : Srt L g m b) (h : m ≤ a ∨ b ≤ m) : Srt L g a b := fun x y hx hxy hy => by
  rcases h with h | h
  · exact h2 x y (by omega) hxy hy
  · exact h1 x y hx hxy (by omega)
theorem merge_right (h : Mid L g g2 a m b mid s en) (hp : Prm a mid g2 g3) : Srt L g3 mid en ∧ Srt L g3 en b ∧ (∀ x y, mid ≤ x → x < en → en ≤ y → y < b → g3 x < g3 y) := by
  obtain ⟨hb, k1, k2, k3, k4, k5, k6, k7, k8⟩ := h
  refine ⟨fun x y h1 h2 h3 => ?_, fun x y h1 h2 h3 => ?_, fun x y h1 h2 h3 h4 => ?_⟩
  · rw [hp.stays x (by omega), hp.stays y (by omega)]; exact k3 x y h1 h2 h3
  · rw [hp.stays x (by omega), hp.stays y (by omega)]; exact k4 x y h1 h2 h3
  · rw [hp.stays x (by omega), hp.stays y (by omega)]; exact k7 x y h1 h2 h3 h4
theorem merge_prm (h : Mid L g g2 a m b mid s en) (h3 : Prm a mid g2 g3) (h4 : Prm mid b g3 g4) (hm : a ≤ mid ∧ mid ≤ b) : Prm a b g g4 :=
  h.2.2.2.2.2.2.2.2.trans ((h3.mono (Nat.le_refl _) hm.2).trans (h4.mono hm.1 (Nat.le_refl _)))
theorem merge_srt (h : Mid L g g2 a m b mid s en) (h3 : Prm a mid g2 g3 ∧ Srt L g3 a mid) (h4 : Prm mid b g3 g4 ∧ Srt L g4 mid b) : Srt L g4 a b :=
  (srt_stays h4.1 h3.2).join h4.2 ((h.2.2.2.2.2.1.left h3.1).right h4.1)
end
end Stab
end Go.Proofs.Ytdcmjbebkmicaaa
