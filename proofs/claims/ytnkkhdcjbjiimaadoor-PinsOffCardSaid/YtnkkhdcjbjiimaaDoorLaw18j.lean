/- The laws of layer 18: what PinsOff says, plainly. No walk. -/
import Derived.Test.YtnkkhdcjbjiimaaDoorLaw18i
namespace Go.Proofs.YtnkkhdcjbjiimaaDoor
open Go.RowKit Go.Sort

namespace N
/-- The position with the man on s taken off. -/
def off (c : Nat → Int) (s : Nat) : Nat → Int := upd c (1 + s) 0
theorem off_bd (c : Nat → Int) (s : Nat) (hc : BdOk c) : BdOk (off c s) := fun j hj => by
  unfold off upd
  split
  · omega
  · exact hc j hj
theorem off_at (c : Nat → Int) (s j : Nat) (h : j ≠ s) : off c s (1 + j) = c (1 + j) := by
  unfold off; exact upd_other _ _ _ _ (by omega)
theorem off_same (c : Nat → Int) (s : Nat) : off c s (1 + s) = 0 := by
  unfold off; exact upd_same _ _ _
theorem bit_all_off (c : Nat → Int) (s j : Nat) (hj : j < 64) : bit (S.all (off c s)) j = (bit (S.all c) j && !decide (j = s)) := by
  rw [bit_all _ j hj, bit_all _ j hj]
  by_cases e : j = s
  · subst e; rw [off_same]; simp; rfl
  · rw [off_at c s j e]; simp [e]
/-- A line is free without the man just if it was, or he alone stood on it. -/
theorem free_off (c : Nat → Int) (s a k : Nat) (hs : s < 64) : free (S.all (off c s)) a k = true ↔ (∀ j, j < 64 → j ≠ s → btw a k j = true → bit (S.all c) j = false) := by
  rw [free_iff]
  constructor
  · intro h j hj hne hb
    have := h j hj hb
    rw [bit_all_off c s j hj] at this
    simpa [hne] using this
  · intro h j hj hb
    rw [bit_all_off c s j hj]
    by_cases e : j = s
    · subst e; simp
    · rw [h j hj e hb]; rfl
/-- Along which lines a kind goes. -/
def lineK (kind : Int) (a b : Nat) : Bool := kind == 5 && (D.straight a b || D.across a b) || (kind == 4 && D.straight a b || kind == 3 && D.across a b)
theorem ray_even (k d a : Nat) (hk : k < 64) (hd : d < 8) (ha : a < 64) (h : inRay k d a = true) : D.straight k a = (d % 2 == 0) ∧ D.across k a = (d % 2 == 1) := by
  have hne : ∀ e, e < 8 → inRay k e a = true → e = d := fun e he h2 => inRay_one k e d a he hd h2 h
  rw [straight_ray k a hk ha, across_ray k a hk ha]
  rcases (show d = 0 ∨ d = 1 ∨ d = 2 ∨ d = 3 ∨ d = 4 ∨ d = 5 ∨ d = 6 ∨ d = 7 by omega) with rfl | rfl | rfl | rfl | rfl | rfl | rfl | rfl
  all_goals
    constructor <;> rw [Bool.eq_iff_iff] <;> simp only [Bool.or_eq_true, beq_iff_eq]
    all_goals
      constructor
      · rintro (h2 | h2 | h2 | h2) <;> have h9 := hne _ (by decide) h2 <;> first | decide | trivial | simp | (exfalso; revert h9; decide)
      · intro h2; first | omega | simp [h]
theorem lineK_goes (kind : Int) (k d a : Nat) (hk : k < 64) (hd : d < 8) (ha : a < 64) (h : inRay k d a = true) : lineK kind k a = goes kind d := by
  obtain ⟨h1, h2⟩ := ray_even k d a hk hd ha h
  unfold lineK goes
  rw [h1, h2]
  have : (d % 2 == 0 || d % 2 == 1) = true := by simp; omega
  rw [this, Bool.and_true, Bool.and_comm (kind == 4), Bool.and_comm (kind == 3)]
theorem lineK_back (kind : Int) (a b : Nat) : lineK kind b a = lineK kind a b := by unfold lineK; rw [straight_back, across_back]
theorem lineK_line (kind : Int) (a b : Nat) (h : lineK kind a b = true) : (D.straight a b || D.across a b) = true := by
  unfold lineK at h
  simp only [Bool.or_eq_true, Bool.and_eq_true] at h ⊢
  rcases h with ⟨_, h⟩ | ⟨_, h⟩ | ⟨_, h⟩
  · exact h
  · exact .inl h
  · exact .inr h
/-- Two boards: a kind hits alike, unless it goes along a line on which they part. -/
theorem hitsK_two (kind color : Int) (o1 o2 : BitVec 64) (a b : Nat) :
    (lineK kind a b = true ∧ D.hitsK kind color o1 a b = free o1 a b ∧ D.hitsK kind color o2 a b = free o2 a b) ∨ (lineK kind a b = false ∧ D.hitsK kind color o1 a b = D.hitsK kind color o2 a b) := by
  unfold D.hitsK lineK
  by_cases k1 : kind = 1
  · subst k1; right; exact ⟨rfl, rfl⟩
  · by_cases k2 : kind = 2
    · subst k2; right; exact ⟨rfl, rfl⟩
    · by_cases k6 : kind = 6
      · subst k6; right; exact ⟨rfl, rfl⟩
      · by_cases k4 : kind = 4
        · subst k4
          cases h : D.straight a b
          · right; exact ⟨by simp, by simp⟩
          · left; exact ⟨by simp, by simp, by simp⟩
        · by_cases k3 : kind = 3
          · subst k3
            cases h : D.across a b
            · right; exact ⟨by simp, by simp⟩
            · left; exact ⟨by simp, by simp, by simp⟩
          · by_cases k5 : kind = 5
            · subst k5
              cases h : (D.straight a b || D.across a b)
              · right; exact ⟨by simp, by simp⟩
              · left; exact ⟨by simp, by simp, by simp⟩
            · right
              have e5 : (kind == 5) = false := by simpa using k5
              have e4 : (kind == 4) = false := by simpa using k4
              have e3 : (kind == 3) = false := by simpa using k3
              refine ⟨by rw [e5, e4, e3]; rfl, ?_⟩
              simp only [if_neg k1, if_neg k2, if_neg k6, if_neg k4, if_neg k3, if_neg k5]
/-- The line from k to a is free but for s, and s stands on it: s is pinned by a. -/
theorem pin_of_free (c : Nat → Int) (color : Int) (k s a d : Nat) (hc : BdOk c) (hk : k < 64) (hs : s < 64) (ha : a < 64) (hd : d < 8) (hne : a ≠ s) (hr : inRay k d a = true)
    (hms : mine c color s = true) (hma : mine c color a = false) (hka : P.kind (c (1 + a)) ≠ 0) (hg : goes (P.kind (c (1 + a))) d = true)
    (hf : ∀ j, j < 64 → j ≠ s → btw k a j = true → bit (S.all c) j = false) (hb : btw k a s = true) : PinAt c color k d s a := by
  have ob : ∀ j, j < 64 → bit (S.all c) j = (P.kind (c (1 + j)) != 0) := fun j hj => by
    obtain ⟨x0, x1⟩ := hc j hj
    rw [bit_all c j hj, isB_kind _ x0 x1]
  have hks : P.kind (c (1 + s)) ≠ 0 := by
    unfold mine at hms; rw [Bool.and_eq_true, bne_iff_ne] at hms; exact hms.1
  rw [btw_ray k d a s hk hd ha hs hr, Bool.and_eq_true] at hb
  obtain ⟨h1, h2, h3⟩ := rl_spec k d hk hd
  have hsl : s ∈ rl k d := (h1 s hs).2 hb.1
  have hal : a ∈ rl k d := (h1 a ha).2 hr
  have empty : ∀ j, j < 64 → P.kind (c (1 + j)) ≠ 0 → inRay k d j = true → inRay j d a = true → j = s := fun j hj hkj r1 r2 => by
    by_cases e : j = s
    · exact e
    · have := hf j hj e (by rw [btw_ray k d a j hk hd ha hj hr, r1, r2]; rfl)
      rw [ob j hj] at this
      simp at this; exact absurd this hkj
  rcases ray_ways c k d hc hk hd with ⟨pre, m, pre2, s', rest2, hl, g1, g2, g3, g4, hm, hs', _, _, _⟩ | ⟨pre, m, rest, hl, g1, g2, g3, hm, _, _⟩ | ⟨hno, _⟩
  · obtain ⟨q1, q2, q3, q4, q5, q6, q7⟩ := rl_split k d hk hd pre (pre2 ++ s' :: rest2) m hl
    have hmr : inRay k d m = true := (q1 m hm).2 (.inr (.inl rfl))
    have hms' : m = s := by
      rcases (q1 s hs).1 hb.1 with h | h | h
      · exact absurd (g1 s h) hks
      · exact h.symm
      · exact empty m hm g2 hmr (inRay_trans m d s a (q3 s h) hb.2)
    subst hms'
    have has : a ∈ pre2 ++ s' :: rest2 := by
      rcases (q1 a ha).1 hr with h | h | h
      · exact absurd (g1 a h) hka
      · exact absurd h hne
      · exact h
    have hl2 : rl k d = (pre ++ m :: pre2) ++ s' :: rest2 := by rw [hl]; simp
    obtain ⟨p1, p2, p3, p4, p5, p6, p7⟩ := rl_split k d hk hd (pre ++ m :: pre2) rest2 s' hl2
    have hsm : s' ≠ m := fun e => by
      have := p2 m (by simp)
      rw [e] at p5; rw [e] at this; rw [p5] at this; cases this
    have : a = s' := by
      rcases List.mem_append.1 has with h | h
      · exact absurd (g3 a h) hka
      · rcases List.mem_cons.1 h with h | h
        · exact h
        · have := empty s' hs' g4 ((p1 s' hs').2 (.inr (.inl rfl))) (p3 a h)
          exact absurd this hsm
    subst this
    exact ⟨pre, pre2, rest2, hl, g1, g2, g3, g4, hms, hma, hg⟩
  · exfalso
    rw [hl] at hsl hal
    have one : ∀ j, j ∈ pre ++ m :: rest → P.kind (c (1 + j)) ≠ 0 → j = m := fun j hj hkj => by
      rcases List.mem_append.1 hj with h | h
      · exact absurd (g1 j h) hkj
      · rcases List.mem_cons.1 h with h | h
        · exact h
        · exact absurd (g3 j h) hkj
    exact hne ((one a hal hka).trans (one s hsl hks).symm)
  · exact absurd (hno a hal) hka
/-- A pin: the line is free but for the man. -/
theorem PinAt.free {c : Nat → Int} {color : Int} {k s a d : Nat} (hc : BdOk c) (hk : k < 64) (hd : d < 8) (ha : a < 64) (h : PinAt c color k d s a) :
    (∀ j, j < 64 → j ≠ s → btw k a j = true → bit (S.all c) j = false) := by
  obtain ⟨pre, pre2, rest2, hl, g1, g2, g3, g4, _⟩ := h
  intro j hj hne hb
  have hl2 : rl k d = (pre ++ s :: pre2) ++ a :: rest2 := by rw [hl]; simp
  obtain ⟨p1, p2, p3, p4, p5, p6, p7⟩ := rl_split k d hk hd (pre ++ s :: pre2) rest2 a hl2
  have hr : inRay k d a = true := (p1 a ha).2 (.inr (.inl rfl))
  rw [btw_ray k d a j hk hd ha hj hr, Bool.and_eq_true] at hb
  obtain ⟨x0, x1⟩ := hc j hj
  rw [bit_all c j hj, ← isB_kind _ x0 x1]
  rcases (p1 j hj).1 hb.1 with h | h | h
  · rcases List.mem_append.1 h with h | h
    · rw [g1 j h]; rfl
    · rcases List.mem_cons.1 h with h | h
      · exact absurd h hne
      · rw [g3 j h]; rfl
  · subst h; rw [p5] at hb; cases hb.2
  · rw [p7 j h] at hb; cases hb.2
end N

end Go.Proofs.YtnkkhdcjbjiimaaDoor
