/- Stable merging in place, in plain Lean: exchanges, rotations and the merge of two runs, over places. No program in sight. -/
import Derived.WalkKit
namespace Go.Proofs.Ytdcmjbebkmicaaa
namespace Stab

/-- An exchange. -/
def sw (f : Nat → Nat) (i j : Nat) : Nat → Nat := fun x => if x = i then f j else if x = j then f i else f x
/-- Two runs of n exchanged. -/
def swr (f : Nat → Nat) (a b n : Nat) : Nat → Nat := fun x => if a ≤ x ∧ x < a + n then f (x - a + b) else if b ≤ x ∧ x < b + n then f (x - b + a) else f x
/-- The runs from a to m, from m to b change places. -/
def rot (f : Nat → Nat) (a m b : Nat) : Nat → Nat := fun x => if a ≤ x ∧ x < a + (b - m) then f (x - a + m) else if a + (b - m) ≤ x ∧ x < b then f (x - (b - m)) else f x

theorem swr_zero (f : Nat → Nat) (a b : Nat) : swr f a b 0 = f := by funext x; unfold swr; rw [if_neg (by omega), if_neg (by omega)]
theorem swr_succ (f : Nat → Nat) (a b n : Nat) (h : a + n < b) : sw (swr f a b n) (a + n) (b + n) = swr f a b (n + 1) := by
  funext x
  unfold sw swr
  repeat' split
  all_goals first | rfl | (exfalso; omega) | (congr 1; omega)
theorem rot_big (f : Nat → Nat) (i j m : Nat) (h : j < i) (hm : i ≤ m) : rot (swr f (m - i) m j) (m - i + j) m (m + j) = rot f (m - i) m (m + j) := by
  funext x
  unfold rot swr
  repeat' split
  all_goals first | rfl | (exfalso; omega) | (congr 1; omega)
theorem rot_small (f : Nat → Nat) (i j m : Nat) (h : i < j) (hm : i ≤ m) : rot (swr f (m - i) (m + j - i) i) (m - i) m (m + (j - i)) = rot f (m - i) m (m + j) := by
  funext x
  unfold rot swr
  repeat' split
  all_goals first | rfl | (exfalso; omega) | (congr 1; omega)
theorem rot_even (f : Nat → Nat) (i m : Nat) (hm : i ≤ m) : swr f (m - i) m i = rot f (m - i) m (m + i) := by
  funext x
  unfold rot swr
  repeat' split
  all_goals first | rfl | (exfalso; omega) | (congr 1; omega)
theorem rot_none (f : Nat → Nat) (a m b : Nat) (h : a = m ∨ b = m) (ha : a ≤ m) (hb : m ≤ b) : rot f a m b = f := by
  funext x
  unfold rot
  rcases h with rfl | rfl
  all_goals
    repeat' split
    all_goals first | rfl | (exfalso; omega) | (congr 1; omega)
/-- One goes up by steps. -/
theorem rot_up (f : Nat → Nat) (a k : Nat) (h : a ≤ k) : sw (rot f a (a + 1) (k + 1)) k (k + 1) = rot f a (a + 1) (k + 2) := by
  funext x
  unfold sw rot
  repeat' split
  all_goals first | rfl | (exfalso; omega) | (congr 1; omega)
/-- One goes down by steps. -/
theorem rot_down (f : Nat → Nat) (k m : Nat) (h : k < m) : sw (rot f (k + 1) m (m + 1)) (k + 1) k = rot f k m (m + 1) := by
  funext x
  unfold sw rot
  repeat' split
  all_goals first | rfl | (exfalso; omega) | (congr 1; omega)
/-- The same in another order, between two places. -/
def Prm (a b : Nat) (f g : Nat → Nat) : Prop := ∃ p q : Nat → Nat, (∀ x, q (p x) = x) ∧ (∀ x, p (q x) = x) ∧ (∀ x, ¬ (a ≤ x ∧ x < b) → p x = x) ∧ ∀ x, g x = f (p x)
theorem Prm.refl (a b : Nat) (f : Nat → Nat) : Prm a b f f := ⟨id, id, fun _ => rfl, fun _ => rfl, fun _ _ => rfl, fun _ => rfl⟩
theorem Prm.trans {a b : Nat} {f g h : Nat → Nat} (x : Prm a b f g) (y : Prm a b g h) : Prm a b f h := by
  obtain ⟨p, q, h1, h2, h3, h4⟩ := x
  obtain ⟨p', q', k1, k2, k3, k4⟩ := y
  exact ⟨fun x => p (p' x), fun x => q' (q x), fun x => by show q' (q (p (p' x))) = x; rw [h1, k1], fun x => by show p (p' (q' (q x))) = x; rw [k2, h2], fun x hx => by show p (p' x) = x; rw [k3 x hx, h3 x hx], fun x => by rw [k4, h4]⟩
theorem Prm.mono {a b a' b' : Nat} {f g : Nat → Nat} (x : Prm a b f g) (ha : a' ≤ a) (hb : b ≤ b') : Prm a' b' f g := by
  obtain ⟨p, q, h1, h2, h3, h4⟩ := x
  exact ⟨p, q, h1, h2, fun x hx => h3 x (by omega), h4⟩
theorem Prm.stays {a b : Nat} {f g : Nat → Nat} (h : Prm a b f g) (x : Nat) (hx : ¬ (a ≤ x ∧ x < b)) : g x = f x := by
  obtain ⟨p, q, h1, h2, h3, h4⟩ := h
  rw [h4, h3 x hx]
theorem Prm.within {a b : Nat} {f g : Nat → Nat} (h : Prm a b f g) (x : Nat) (hx : a ≤ x ∧ x < b) : ∃ y, (a ≤ y ∧ y < b) ∧ g x = f y := by
  obtain ⟨p, q, h1, h2, h3, h4⟩ := h
  refine ⟨p x, ?_, h4 x⟩
  have := Decidable.em (a ≤ p x ∧ p x < b)
  rcases this with h | h
  · exact h
  · have e := h3 (p x) h
    have e2 : p x = x := by have := congrArg q e; rwa [h1, h1] at this
    rw [e2] at h; exact absurd hx h
theorem Prm.symm {a b : Nat} {f g : Nat → Nat} (h : Prm a b f g) : Prm a b g f := by
  obtain ⟨p, q, h1, h2, h3, h4⟩ := h
  exact ⟨q, p, h2, h1, fun x hx => by have := h3 x hx; have := congrArg q this; rw [h1] at this; exact this.symm, fun x => by rw [h4, h2]⟩
theorem rot_id (a m b x : Nat) : (a ≤ x ∧ x < a + (b - m) → Stab.rot id a m b x = x - a + m) ∧ (a + (b - m) ≤ x ∧ x < b → Stab.rot id a m b x = x - (b - m)) ∧ (¬ (a ≤ x ∧ x < a + (b - m)) → ¬ (a + (b - m) ≤ x ∧ x < b) → Stab.rot id a m b x = x) := by
  unfold Stab.rot
  refine ⟨fun h => by rw [if_pos h]; rfl, fun h => by rw [if_neg (by omega), if_pos h]; rfl, fun h1 h2 => by rw [if_neg h1, if_neg h2]; rfl⟩
theorem rot_back (a m b x : Nat) (ha : a ≤ m) (hb : m ≤ b) : Stab.rot id a (a + (b - m)) b (Stab.rot id a m b x) = x := by
  obtain ⟨r1, r2, r3⟩ := rot_id a m b x
  by_cases h1 : a ≤ x ∧ x < a + (b - m)
  · rw [r1 h1, (rot_id a (a + (b - m)) b _).2.1 (by omega)]; omega
  · by_cases h2 : a + (b - m) ≤ x ∧ x < b
    · rw [r2 h2, (rot_id a (a + (b - m)) b _).1 (by omega)]; omega
    · rw [r3 h1 h2, (rot_id a (a + (b - m)) b _).2.2 (by omega) (by omega)]
theorem Prm.rot (f : Nat → Nat) (a m b : Nat) (ha : a ≤ m) (hb : m ≤ b) : Prm a b f (rot f a m b) := by
  refine ⟨Stab.rot id a m b, Stab.rot id a (a + (b - m)) b, fun x => rot_back a m b x ha hb, fun x => ?_, fun x hx => (rot_id a m b x).2.2 (by omega) (by omega), fun x => ?_⟩
  · have := rot_back a (a + (b - m)) b x (by omega) (by omega)
    rwa [show a + (b - (a + (b - m))) = m by omega] at this
  · unfold Stab.rot
    simp only [id]
    split
    · rfl
    · split <;> rfl
theorem sw_id (i j x : Nat) : Stab.sw id i j x = if x = i then j else if x = j then i else x := rfl
theorem sw_back (i j x : Nat) : Stab.sw id i j (Stab.sw id i j x) = x := by
  by_cases h1 : x = i
  · subst h1
    rw [sw_id x j x, if_pos rfl, sw_id]
    by_cases h : j = x
    · rw [if_pos h, h]
    · rw [if_neg h, if_pos rfl]
  · by_cases h2 : x = j
    · subst h2
      rw [sw_id i x x, if_neg h1, if_pos rfl, sw_id, if_pos rfl]
    · rw [sw_id i j x, if_neg h1, if_neg h2, sw_id, if_neg h1, if_neg h2]
theorem Prm.sw (f : Nat → Nat) (a b i j : Nat) (hi : a ≤ i ∧ i < b) (hj : a ≤ j ∧ j < b) : Prm a b f (sw f i j) := by
  refine ⟨Stab.sw id i j, Stab.sw id i j, sw_back i j, sw_back i j, fun x hx => ?_, fun x => ?_⟩
  · rw [sw_id, if_neg (by omega), if_neg (by omega)]
  · unfold Stab.sw
    simp only [id]
    split
    · rfl
    · split <;> rfl

/-- A strict total order. -/
structure Ord (L : Nat → Nat → Prop) : Prop where
  irr : ∀ x, ¬ L x x
  trans : ∀ x y z, L x y → L y z → L x z
  total : ∀ x y, x ≠ y → L x y ∨ L y x
/-- In order, between two places. -/
def Srt (L : Nat → Nat → Prop) (g : Nat → Nat) (a b : Nat) : Prop := ∀ x y, a ≤ x → x < y → y < b → L (g x) (g y)
def Cross (L : Nat → Nat → Prop) (g : Nat → Nat) (a m b : Nat) : Prop := ∀ x y, a ≤ x → x < m → m ≤ y → y < b → L (g x) (g y)
section
variable {L : Nat → Nat → Prop} {g g1 g2 g3 : Nat → Nat} {a m b : Nat}
theorem Srt.sub {a' b' : Nat} (h : Srt L g a b) (ha : a ≤ a') (hb : b' ≤ b) : Srt L g a' b' := fun x y hx hxy hy => h x y (by omega) hxy (by omega)
theorem Srt.join (h1 : Srt L g a m) (h2 : Srt L g m b) (hc : Cross L g a m b) : Srt L g a b := fun x y hx hxy hy => by
  by_cases h : y < m
  · exact h1 x y hx hxy h
  · by_cases h' : x < m
    · exact hc x y hx h' (by omega) hy
    · exact h2 x y (by omega) hxy hy
theorem Srt.le (h : Srt L g a b) {x y : Nat} (hx : a ≤ x) (hxy : x ≤ y) (hy : y < b) : g x = g y ∨ L (g x) (g y) := by
  by_cases e : x = y
  · exact .inl (by rw [e])
  · exact .inr (h x y hx (by omega) hy)
theorem Cross.left (h : Cross L g1 a m b) (hp : Prm a m g1 g2) : Cross L g2 a m b := fun x y hx hxm hmy hy => by
  obtain ⟨z, hz, e⟩ := hp.within x ⟨hx, hxm⟩
  rw [e, hp.stays y (by omega)]
  exact h z y hz.1 hz.2 hmy hy
theorem Cross.right (h : Cross L g1 a m b) (hp : Prm m b g1 g2) : Cross L g2 a m b := fun x y hx hxm hmy hy => by
  obtain ⟨z, hz, e⟩ := hp.within y ⟨hmy, hy⟩
  rw [e, hp.stays x (by omega)]
  exact h x z hx hxm hz.1 hz.2
theorem srt_stays (hp : Prm m b g1 g2) (h : Srt L g1 a m) : Srt L g2 a m := fun x y hx hxy hy => by
  rw [hp.stays x (by omega), hp.stays y (by omega)]; exact h x y hx hxy hy
theorem srt_stays' (hp : Prm a m g1 g2) (h : Srt L g1 m b) : Srt L g2 m b := fun x y hx hxy hy => by
  rw [hp.stays x (by omega), hp.stays y (by omega)]; exact h x y hx hxy hy
/-- One goes up among those behind it. -/
theorem ins_up (i : Nat) (hi : a + 1 ≤ i) (hib : i ≤ b) (hs : Srt L g (a + 1) b) (h1 : ∀ c, a + 1 ≤ c → c < i → L (g c) (g a)) (h2 : ∀ c, i ≤ c → c < b → L (g a) (g c)) : Srt L (rot g a (a + 1) i) a b := fun x y hx hxy hy => by
  unfold rot
  by_cases hx1 : x < i - 1
  · rw [if_pos (by omega)]
    by_cases hy1 : y < i - 1
    · rw [if_pos (by omega)]; exact hs _ _ (by omega) (by omega) (by omega)
    · rw [if_neg (by omega)]
      by_cases hy2 : y = i - 1
      · rw [if_pos (by omega), show y - (i - (a + 1)) = a by omega]; exact h1 _ (by omega) (by omega)
      · rw [if_neg (by omega)]; exact hs _ _ (by omega) (by omega) hy
  · rw [if_neg (by omega)]
    by_cases hx2 : x = i - 1
    · rw [if_pos (by omega), show x - (i - (a + 1)) = a by omega, if_neg (by omega), if_neg (by omega)]; exact h2 _ (by omega) hy
    · rw [if_neg (by omega), if_neg (by omega), if_neg (by omega)]; exact hs _ _ (by omega) hxy hy
/-- One goes down among those ahead of it. -/
theorem ins_down (i : Nat) (hi : a ≤ i) (him : i ≤ m) (hs : Srt L g a m) (h1 : ∀ c, a ≤ c → c < i → L (g c) (g m)) (h2 : ∀ c, i ≤ c → c < m → L (g m) (g c)) : Srt L (rot g i m (m + 1)) a (m + 1) := fun x y hx hxy hy => by
  unfold rot
  by_cases hx1 : x < i
  · rw [if_neg (by omega), if_neg (by omega)]
    by_cases hy1 : y < i
    · rw [if_neg (by omega), if_neg (by omega)]; exact hs _ _ hx hxy (by omega)
    · by_cases hy2 : y = i
      · rw [if_pos (by omega), show y - i + m = m by omega]; exact h1 _ hx hx1
      · rw [if_neg (by omega), if_pos (by omega)]; exact hs _ _ hx (by omega) (by omega)
  · by_cases hx2 : x = i
    · rw [if_pos (by omega), show x - i + m = m by omega, if_neg (by omega), if_pos (by omega)]; exact h2 _ (by omega) (by omega)
    · rw [if_neg (by omega), if_pos (by omega), if_neg (by omega), if_pos (by omega)]; exact hs _ _ (by omega) (by omega) (by omega)
/-- Behind the rotation: two halves, each of two runs, and all of the first ahead of all of the second. -/
theorem split_ok (hL : Ord L) (mid s : Nat) (hmid : mid = (a + b) / 2) (ham : a < m) (hs1 : Srt L g a m) (hs2 : Srt L g m b)
    (hlo : (if mid < m then mid + m - b else a) ≤ s) (hhi : s ≤ (if mid < m then mid else m))
    (h1 : ∀ c, (if mid < m then mid + m - b else a) ≤ c → c < s → L (g c) (g (mid + m - 1 - c))) (h2 : ∀ c, s ≤ c → c < (if mid < m then mid else m) → L (g (mid + m - 1 - c)) (g c)) :
    (a ≤ s ∧ s ≤ m ∧ s ≤ mid ∧ m ≤ mid + m - s ∧ mid ≤ mid + m - s ∧ mid + m - s ≤ b) ∧
    Srt L (rot g s m (mid + m - s)) a s ∧ Srt L (rot g s m (mid + m - s)) s mid ∧ Srt L (rot g s m (mid + m - s)) mid (mid + m - s) ∧ Srt L (rot g s m (mid + m - s)) (mid + m - s) b ∧ Cross L (rot g s m (mid + m - s)) a mid b := by
  have hb : a ≤ s ∧ s ≤ m ∧ s ≤ mid ∧ m ≤ mid + m - s ∧ mid ≤ mid + m - s ∧ mid + m - s ≤ b := by
    split at hlo <;> split at hhi <;> omega
  obtain ⟨e1, e2, e3, e4, e5, e6⟩ := hb
  have g1 : ∀ x, x < s → rot g s m (mid + m - s) x = g x := fun x hx => by unfold rot; rw [if_neg (by omega), if_neg (by omega)]
  have g2 : ∀ x, s ≤ x → x < mid → rot g s m (mid + m - s) x = g (x - s + m) := fun x h hx => by unfold rot; rw [if_pos (by omega)]
  have g3 : ∀ x, mid ≤ x → x < mid + m - s → rot g s m (mid + m - s) x = g (x - (mid - s)) := fun x h hx => by
    unfold rot; rw [if_neg (by omega), if_pos (by omega)]; congr 1; omega
  have g4 : ∀ x, mid + m - s ≤ x → rot g s m (mid + m - s) x = g x := fun x h => by unfold rot; rw [if_neg (by omega), if_neg (by omega)]
  refine ⟨⟨e1, e2, e3, e4, e5, e6⟩, fun x y hx hxy hy => ?_, fun x y hx hxy hy => ?_, fun x y hx hxy hy => ?_, fun x y hx hxy hy => ?_, fun x y hx hxm hmy hy => ?_⟩
  · rw [g1 x (by omega), g1 y hy]; exact hs1 x y hx hxy (by omega)
  · rw [g2 x hx (by omega), g2 y (by omega) hy]; exact hs2 _ _ (by omega) (by omega) (by omega)
  · rw [g3 x hx (by omega), g3 y (by omega) hy]; exact hs1 _ _ (by omega) (by omega) (by omega)
  · rw [g4 x hx, g4 y (by omega)]; exact hs2 x y (by omega) hxy hy
  · by_cases hxs : x < s
    · rw [g1 x hxs]
      by_cases hye : y < mid + m - s
      · rw [g3 y hmy hye]; exact hs1 _ _ hx (by omega) (by omega)
      · rw [g4 y (by omega)]
        have hlt : (if mid < m then mid + m - b else a) < s := by split at hlo <;> (rename_i hq; first | rw [if_pos hq] | rw [if_neg hq]) <;> omega
        have hk := h1 (s - 1) (by omega) (by omega)
        rw [show mid + m - 1 - (s - 1) = mid + m - s by omega] at hk
        rcases hs1.le hx (show x ≤ s - 1 by omega) (by omega) with e | e <;> rcases hs2.le (show m ≤ mid + m - s by omega) (show mid + m - s ≤ y by omega) hy with e' | e'
        · rw [e, ← e']; exact hk
        · rw [e]; exact hL.trans _ _ _ hk e'
        · rw [← e']; exact hL.trans _ _ _ e hk
        · exact hL.trans _ _ _ e (hL.trans _ _ _ hk e')
    · rw [g2 x (by omega) hxm]
      by_cases hye : y < mid + m - s
      · rw [g3 y hmy hye]
        have hlt : s < (if mid < m then mid else m) := by split at hhi <;> (rename_i hq; first | rw [if_pos hq] | rw [if_neg hq]) <;> omega
        have hk := h2 s (Nat.le_refl _) hlt
        rcases hs2.le (show m ≤ x - s + m by omega) (show x - s + m ≤ mid + m - 1 - s by omega) (by omega) with e | e <;> rcases hs1.le (show a ≤ s by omega) (show s ≤ y - (mid - s) by omega) (by omega) with e' | e'
        · rw [e, ← e']; exact hk
        · rw [e]; exact hL.trans _ _ _ hk e'
        · rw [← e']; exact hL.trans _ _ _ e hk
        · exact hL.trans _ _ _ e (hL.trans _ _ _ hk e')
      · rw [g4 y (by omega)]; exact hs2 _ _ (by omega) (by omega) hy
/-- The places that a search of halves finds: what holds below one place and not above it. -/
theorem unique (hL : Ord L) {n : Nat} (h1 : Prm 0 n id g1) (h2 : Prm 0 n id g2) (s1 : Srt L g1 0 n) (s2 : Srt L g2 0 n) : ∀ x, x < n → g1 x = g2 x := by
  intro x
  induction x using Nat.strongRecOn with
  | _ x ih =>
    intro hx
    have find : ∀ {f h : Nat → Nat}, Prm 0 n id f → Prm 0 n id h → ∀ x, x < n → ∃ z, z < n ∧ h z = f x := fun hf hh x hx => by
      obtain ⟨y, hy, e⟩ := (hh.symm.trans hf).within x ⟨Nat.zero_le _, hx⟩
      exact ⟨y, hy.2, e.symm⟩
    have inj : ∀ {f : Nat → Nat}, Srt L f 0 n → ∀ u v, u < n → v < n → f u = f v → u = v := fun hs u v hu hv e => by
      rcases Nat.lt_trichotomy u v with h | h | h
      · have := hs u v (Nat.zero_le _) h hv; rw [e] at this; exact absurd this (hL.irr _)
      · exact h
      · have := hs v u (Nat.zero_le _) h hu; rw [e] at this; exact absurd this (hL.irr _)
    obtain ⟨z, hz, ez⟩ := find h1 h2 x hx
    obtain ⟨u, hu, eu⟩ := find h2 h1 x hx
    have hzx : x ≤ z := by
      have := Nat.lt_or_ge z x
      rcases this with h | h
      · have e := ih z h (by omega)
        rw [ez] at e
        have := inj s1 z x (by omega) hx e
        omega
      · exact h
    have hux : x ≤ u := by
      have := Nat.lt_or_ge u x
      rcases this with h | h
      · have e := ih u h (by omega)
        rw [eu] at e
        have := inj s2 x u hx (by omega) e
        omega
      · exact h
    rcases Nat.eq_or_lt_of_le hzx with h | h
    · rw [← h] at ez; exact ez.symm
    · rcases Nat.eq_or_lt_of_le hux with h' | h'
      · rw [← h'] at eu; exact eu
      · have a1 := s2 x z (Nat.zero_le _) h hz
        have a2 := s1 x u (Nat.zero_le _) h' hu
        rw [ez] at a1
        rw [eu] at a2
        exact absurd (hL.trans _ _ _ a1 a2) (hL.irr _)
end

end Stab
end Go.Proofs.Ytdcmjbebkmicaaa
