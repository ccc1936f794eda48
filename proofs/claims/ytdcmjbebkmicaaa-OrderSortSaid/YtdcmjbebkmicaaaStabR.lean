/- Stable sorting by runs, in plain Lean: blocks of twenty, then merges of ever longer runs. -/
import Derived.Test.YtdcmjbebkmicaaaStabM
namespace Go.Proofs.Ytdcmjbebkmicaaa
namespace Stab
section
variable {L : Nat → Nat → Prop} {g g' : Nat → Nat} {N bs a : Nat}
/-- Runs of this length: each in order, each of its own elements. -/
def Full (L : Nat → Nat → Prop) (g : Nat → Nat) (N bs : Nat) : Prop :=
  Prm 0 N id g ∧ (∀ x, x < N → g x / bs = x / bs) ∧ ∀ i a b, a = i * bs → b ≤ a + bs → b ≤ N → Srt L g a b
/-- Merged up to a. -/
def Half (L : Nat → Nat → Prop) (g : Nat → Nat) (N bs a : Nat) : Prop :=
  (∃ q, a = q * (2 * bs)) ∧ Prm 0 N id g ∧ (∀ x, x < N → g x / (2 * bs) = x / (2 * bs)) ∧ (∀ x, a ≤ x → x < N → g x / bs = x / bs) ∧
  (∀ i c, c = i * (2 * bs) → c + 2 * bs ≤ a → Srt L g c (c + 2 * bs)) ∧ ∀ i c b, c = i * bs → a ≤ c → b ≤ c + bs → b ≤ N → Srt L g c b
theorem half_start (h : Full L g N bs) : Half L g N bs 0 := by
  obtain ⟨h1, h2, h3⟩ := h
  refine ⟨⟨0, by rw [Nat.zero_mul]⟩, h1, fun x hx => ?_, fun x _ hx => h2 x hx, fun i c hc hl => ?_, fun i c b hc _ hb hN => h3 i c b hc hb hN⟩
  · rw [Nat.mul_comm, ← Nat.div_div_eq_div_mul, ← Nat.div_div_eq_div_mul, h2 x hx]
  · have hz : c = 0 ∧ bs = 0 := by omega
    intro x y hx hxy hy
    omega
theorem half_runs (hb0 : 0 < bs) (h : Half L g N bs a) (b : Nat) (hb : b ≤ a + 2 * bs) (hN : b ≤ N) (ham : a + bs ≤ b) :
    Srt L g a (a + bs) ∧ Srt L g (a + bs) b ∧ ∀ x y, a ≤ x → x < a + bs → a + bs ≤ y → y < b → g x < g y := by
  obtain ⟨⟨q, hq⟩, h1, h2, h3, h4, h5⟩ := h
  have e1 : a = 2 * q * bs := by rw [hq, ← Nat.mul_assoc, Nat.mul_comm q 2]
  have e2 : a + bs = (2 * q + 1) * bs := by rw [Nat.add_mul, Nat.one_mul, ← e1]
  refine ⟨h5 _ a (a + bs) e1 (Nat.le_refl _) (Nat.le_refl _) (by omega), h5 _ (a + bs) b e2 (by omega) (by omega) hN, fun x y hx1 hx2 hy1 hy2 => ?_⟩
  have k1 : x / bs = 2 * q := Nat.div_eq_of_lt_le (by rw [← e1]; exact hx1) (by rw [← e2]; exact hx2)
  have k2 : y / bs = 2 * q + 1 := Nat.div_eq_of_lt_le (by rw [← e2]; exact hy1) (by rw [Nat.add_mul, Nat.one_mul, ← e2]; omega)
  have k3 := h3 x hx1 (by omega)
  have k4 := h3 y (by omega) (by omega)
  rcases Nat.lt_or_ge (g x) (g y) with h | h
  · exact h
  · have := Nat.div_le_div_right (c := bs) h
    omega
theorem loc_step (c : Nat) {b : Nat} (hp : Prm a b g g') (h : ∀ x, x < N → g x / c = x / c) (hb : b ≤ N) (hc : ∀ x y, a ≤ x → x < b → a ≤ y → y < b → x / c = y / c) : ∀ x, x < N → g' x / c = x / c := by
  intro x hx
  by_cases hab : a ≤ x ∧ x < b
  · obtain ⟨y, hy, e⟩ := hp.within x hab
    rw [e, h y (by omega), hc y x hy.1 hy.2 hab.1 hab.2]
  · rw [hp.stays x hab]; exact h x hx
theorem half_step (hb0 : 0 < bs) (h : Half L g N bs a) (hN : a + 2 * bs ≤ N) (hp : Prm a (a + 2 * bs) g g') (hs : Srt L g' a (a + 2 * bs)) : Half L g' N bs (a + 2 * bs) := by
  obtain ⟨⟨q, hq⟩, h1, h2, h3, h4, h5⟩ := h
  have e1 : a + 2 * bs = (q + 1) * (2 * bs) := by rw [Nat.add_mul, Nat.one_mul, ← hq]
  have hdv : ∀ x, a ≤ x → x < a + 2 * bs → x / (2 * bs) = q := fun x hx hy => Nat.div_eq_of_lt_le (by rw [← hq]; exact hx) (by rw [← e1]; exact hy)
  refine ⟨⟨q + 1, e1⟩, h1.trans (hp.mono (Nat.zero_le _) hN), loc_step _ hp h2 hN (fun x y p1 p2 p3 p4 => by rw [hdv x p1 p2, hdv y p3 p4]), fun x hx hxN => ?_, fun i c hc hl => ?_, fun i c b hc hl hb hbN => ?_⟩
  · rw [hp.stays x (by omega)]; exact h3 x (by omega) hxN
  · by_cases hlt : c + 2 * bs ≤ a
    · intro x y hx hxy hy
      rw [hp.stays x (by omega), hp.stays y (by omega)]; exact h4 i c hc hlt x y hx hxy hy
    · have : c = a := by
        have : i = q := by
          have k1 : i < q + 1 := by
            have : i * (2 * bs) < (q + 1) * (2 * bs) := by rw [← hc, ← e1]; omega
            exact Nat.lt_of_mul_lt_mul_right this
          have k2 : q < i + 1 := by
            have : q * (2 * bs) < (i + 1) * (2 * bs) := by rw [← hq, Nat.add_mul, Nat.one_mul, ← hc]; omega
            exact Nat.lt_of_mul_lt_mul_right this
          omega
        rw [hc, this, ← hq]
      rw [this]; exact hs
  · intro x y hx hxy hy
    rw [hp.stays x (by omega), hp.stays y (by omega)]; exact h5 i c b hc (by omega) hb hbN x y hx hxy hy
theorem full_of (h : Half L g N bs a) (hN : N < a + 2 * bs) (hs : Srt L g a N) : Full L g N (2 * bs) := by
  obtain ⟨⟨q, hq⟩, h1, h2, h3, h4, h5⟩ := h
  refine ⟨h1, h2, fun i c b hc hb hbN => ?_⟩
  by_cases hlt : c + 2 * bs ≤ a
  · exact (h4 i c hc hlt).sub (Nat.le_refl _) hb
  · by_cases hca : c = a
    · rw [hca]; exact hs.sub (Nat.le_refl _) hbN
    · have : N ≤ c := by
        have k : q < i := by
          have k2 : q < i + 1 := by
            have : q * (2 * bs) < (i + 1) * (2 * bs) := by rw [← hq, Nat.add_mul, Nat.one_mul, ← hc]; omega
            exact Nat.lt_of_mul_lt_mul_right this
          have : q ≠ i := fun e => hca (by rw [hc, hq, e])
          omega
        have := Nat.mul_le_mul_right (2 * bs) (show q + 1 ≤ i from k)
        rw [Nat.add_mul, Nat.one_mul, ← hq, ← hc] at this
        omega
      intro x y hx hxy hy
      omega
theorem half_last (h : Half L g N bs a) (hN : N < a + 2 * bs) (hp : Prm a N g g') (hs : Srt L g' a N) : Full L g' N (2 * bs) := by
  obtain ⟨⟨q, hq⟩, h1, h2, h3, h4, h5⟩ := h
  have hdv : ∀ x, a ≤ x → x < a + 2 * bs → x / (2 * bs) = q := fun x hx hy => Nat.div_eq_of_lt_le (by rw [← hq]; exact hx) (by rw [Nat.add_mul, Nat.one_mul, ← hq]; exact hy)
  refine ⟨h1.trans (hp.mono (Nat.zero_le _) (Nat.le_refl _)), loc_step _ hp h2 (Nat.le_refl _) (fun x y p1 p2 p3 p4 => by rw [hdv x p1 (by omega), hdv y p3 (by omega)]), fun i c b hc hb hbN => ?_⟩
  by_cases hlt : c + 2 * bs ≤ a
  · intro x y hx hxy hy
    rw [hp.stays x (by omega), hp.stays y (by omega)]; exact h4 i c hc hlt x y hx hxy (by omega)
  · by_cases hca : c = a
    · rw [hca]; exact hs.sub (Nat.le_refl _) hbN
    · have : N ≤ c := by
        have k : q < i := by
          have k2 : q < i + 1 := by
            have : q * (2 * bs) < (i + 1) * (2 * bs) := by rw [← hq, Nat.add_mul, Nat.one_mul, ← hc]; omega
            exact Nat.lt_of_mul_lt_mul_right this
          have : q ≠ i := fun e => hca (by rw [hc, hq, e])
          omega
        have := Nat.mul_le_mul_right (2 * bs) (show q + 1 ≤ i from k)
        rw [Nat.add_mul, Nat.one_mul, ← hq, ← hc] at this
        omega
      intro x y hx hxy hy
      omega
theorem half_none (hb0 : 0 < bs) (h : Half L g N bs a) (hN : N ≤ a + bs) : Full L g N (2 * bs) := by
  have hh := h
  obtain ⟨⟨q, hq⟩, h1, h2, h3, h4, h5⟩ := h
  exact full_of hh (by omega) (h5 (2 * q) a N (by rw [hq, ← Nat.mul_assoc, Nat.mul_comm q 2]) (Nat.le_refl _) hN (Nat.le_refl _))
theorem full_end (h : Full L g N bs) (hN : N ≤ bs) : Prm 0 N id g ∧ Srt L g 0 N := ⟨h.1, h.2.2 0 0 N (by rw [Nat.zero_mul]) (by omega) (Nat.le_refl _)⟩
/-- Sorted in blocks up to a. -/
def Blk (L : Nat → Nat → Prop) (g : Nat → Nat) (N bs a : Nat) : Prop :=
  (∃ q, a = q * bs) ∧ Prm 0 a id g ∧ (∀ x, x < N → g x / bs = x / bs) ∧ ∀ i c, c = i * bs → c + bs ≤ a → Srt L g c (c + bs)
theorem blk_start : Blk L id N bs 0 := ⟨⟨0, by rw [Nat.zero_mul]⟩, Prm.refl _ _ _, fun _ _ => rfl, fun i c hc hl x y hx hxy hy => by omega⟩
theorem blk_own (h : Blk L g N bs a) : ∀ x y, a ≤ x → x < y → g x < g y := fun x y hx hxy => by
  rw [h.2.1.stays x (by omega), h.2.1.stays y (by omega)]; exact hxy
theorem blk_step (h : Blk L g N bs a) (hN : a + bs ≤ N) (hp : Prm a (a + bs) g g') (hs : Srt L g' a (a + bs)) : Blk L g' N bs (a + bs) := by
  obtain ⟨⟨q, hq⟩, h1, h2, h3⟩ := h
  have e1 : a + bs = (q + 1) * bs := by rw [Nat.add_mul, Nat.one_mul, ← hq]
  have hdv : ∀ x, a ≤ x → x < a + bs → x / bs = q := fun x hx hy => Nat.div_eq_of_lt_le (by rw [← hq]; exact hx) (by rw [← e1]; exact hy)
  refine ⟨⟨q + 1, e1⟩, (h1.mono (Nat.le_refl _) (by omega)).trans (hp.mono (Nat.zero_le _) (Nat.le_refl _)), loc_step _ hp h2 hN (fun x y p1 p2 p3 p4 => by rw [hdv x p1 p2, hdv y p3 p4]), fun i c hc hl => ?_⟩
  by_cases hlt : c + bs ≤ a
  · intro x y hx hxy hy
    rw [hp.stays x (by omega), hp.stays y (by omega)]; exact h3 i c hc hlt x y hx hxy hy
  · have : c = a := by
      have : i = q := by
        have k1 : i < q + 1 := by
          have : i * bs < (q + 1) * bs := by rw [← hc, ← e1]; omega
          exact Nat.lt_of_mul_lt_mul_right this
        have k2 : q < i + 1 := by
          have : q * bs < (i + 1) * bs := by rw [← hq, Nat.add_mul, Nat.one_mul, ← hc]; omega
          exact Nat.lt_of_mul_lt_mul_right this
        omega
      rw [hc, this, ← hq]
    rw [this]; exact hs
theorem blk_last (h : Blk L g N bs a) (hN : N < a + bs) (haN : a ≤ N) (hp : Prm a N g g') (hs : Srt L g' a N) : Full L g' N bs := by
  obtain ⟨⟨q, hq⟩, h1, h2, h3⟩ := h
  have hdv : ∀ x, a ≤ x → x < a + bs → x / bs = q := fun x hx hy => Nat.div_eq_of_lt_le (by rw [← hq]; exact hx) (by rw [Nat.add_mul, Nat.one_mul, ← hq]; exact hy)
  refine ⟨(h1.mono (Nat.le_refl _) haN).trans (hp.mono (Nat.zero_le _) (Nat.le_refl _)), loc_step _ hp h2 (Nat.le_refl _) (fun x y p1 p2 p3 p4 => by rw [hdv x p1 (by omega), hdv y p3 (by omega)]), fun i c b hc hb hbN => ?_⟩
  by_cases hlt : c + bs ≤ a
  · intro x y hx hxy hy
    rw [hp.stays x (by omega), hp.stays y (by omega)]; exact h3 i c hc hlt x y hx hxy (by omega)
  · by_cases hca : c = a
    · rw [hca]; exact hs.sub (Nat.le_refl _) hbN
    · have : N ≤ c := by
        have k : q < i := by
          have k2 : q < i + 1 := by
            have : q * bs < (i + 1) * bs := by rw [← hq, Nat.add_mul, Nat.one_mul, ← hc]; omega
            exact Nat.lt_of_mul_lt_mul_right this
          have : q ≠ i := fun e => hca (by rw [hc, hq, e])
          omega
        have := Nat.mul_le_mul_right bs (show q + 1 ≤ i from k)
        rw [Nat.add_mul, Nat.one_mul, ← hq, ← hc] at this
        omega
      intro x y hx hxy hy
      omega
end
end Stab
end Go.Proofs.Ytdcmjbebkmicaaa
