/- Stable sorting in place, in plain Lean: rows of elements that are told apart by the places they came from; sorting by insertion. -/
import Derived.Test.YtdcmjbebkmicaaaStab
import Derived.Sort.Defs
namespace Go.Proofs.Ytdcmjbebkmicaaa
namespace Stab
section
variable {α : Type} [Inhabited α]
/-- The row of the elements that came from these places. -/
def row (o : Nat → α) (n : Nat) (g : Nat → Nat) : Array α := ((List.range n).map fun x => o (g x)).toArray
variable (o : Nat → α) (n : Nat) (g : Nat → Nat)
omit [Inhabited α] in
theorem row_size : (row o n g).size = n := by simp [row]
omit [Inhabited α] in
theorem row_get? (x : Nat) : (row o n g)[x]? = if x < n then some (o (g x)) else none := by
  unfold row
  simp only [List.getElem?_toArray, List.getElem?_map]
  by_cases h : x < n
  · rw [if_pos h, List.getElem?_range h]; rfl
  · rw [if_neg h, List.getElem?_eq_none (by simpa using h)]; rfl
theorem row_at (x : Nat) (hx : x < n) : (row o n g)[x]! = o (g x) := by
  rw [getElem!_def, row_get? o n g x, if_pos hx]
theorem row_swp (i j : Nat) (hi : i < n) (hj : j < n) : Sort.swp (row o n g) i j = row o n (sw g i j) := by
  unfold Sort.swp
  rw [row_at o n g i hi, row_at o n g j hj]
  apply Array.ext_getElem?
  intro x
  rw [Array.getElem?_setIfInBounds, Array.getElem?_setIfInBounds, Array.size_setIfInBounds, row_size, row_get?, row_get?]
  unfold sw
  by_cases h1 : j = x
  · subst h1
    rw [if_pos rfl, if_pos hj, if_pos hj]
    by_cases h2 : j = i
    · subst h2; rw [if_pos rfl]
    · rw [if_neg h2, if_pos rfl]
  · rw [if_neg h1]
    by_cases h2 : i = x
    · subst h2
      rw [if_pos rfl, if_pos hi, if_pos hi, if_pos rfl]
    · rw [if_neg h2, if_neg (show ¬ x = i from fun e => h2 e.symm), if_neg (show ¬ x = j from fun e => h1 e.symm)]
end

section
variable {α : Type} [Inhabited α] {o : Nat → α} {n : Nat} {L : Nat → Nat → Prop} {lt : α → α → Bool}
/-- What the order says of two elements of which one came from behind the other. -/
structure Tells (L : Nat → Nat → Prop) (lt : α → α → Bool) (o : Nat → α) : Prop where
  ord : Ord L
  yes : ∀ x y, x < y → lt (o y) (o x) = true → L y x
  no : ∀ x y, x < y → lt (o y) (o x) = false → L x y
theorem rot_at (g : Nat → Nat) (j i : Nat) : rot g j i (i + 1) j = g i := by
  unfold rot; rw [if_pos (by omega)]; congr 1; omega
theorem rot_low (g : Nat → Nat) (j i x : Nat) (h : x < j) : rot g j i (i + 1) x = g x := by
  unfold rot; rw [if_neg (by omega), if_neg (by omega)]
theorem rot_self (g : Nat → Nat) (i : Nat) : rot g i i (i + 1) = g := by
  funext x
  unfold rot
  repeat' split
  all_goals first | rfl | (exfalso; omega) | (congr 1; omega)
/-- One element goes down. -/
theorem inner (hT : Tells L lt o) (g : Nat → Nat) (a i : Nat) (hi : i < n) (hix : ∀ x, a ≤ x → x < i → g x < g i) :
    ∀ j, a ≤ j → j ≤ i → (∀ c, j ≤ c → c < i → L (g i) (g c)) → ∃ p, a ≤ p ∧ p ≤ j ∧ Sort.insInner lt a j (row o n (rot g j i (i + 1))) = row o n (rot g p i (i + 1)) ∧ (∀ c, p ≤ c → c < i → L (g i) (g c)) ∧ (a < p → L (g (p - 1)) (g i)) := by
  intro j
  induction j with
  | zero =>
    intro ha _ hc
    exact ⟨0, ha, Nat.le_refl _, rfl, hc, fun h => by omega⟩
  | succ j ih =>
    intro ha hji hc
    by_cases h : a < j + 1
    · have e1 : (row o n (rot g (j + 1) i (i + 1)))[j + 1]! = o (g i) := by rw [row_at _ _ _ _ (by omega), rot_at g (j + 1) i]
      have e2 : (row o n (rot g (j + 1) i (i + 1)))[j]! = o (g j) := by rw [row_at _ _ _ _ (by omega), rot_low g (j + 1) i j (by omega)]
      cases hl : lt (o (g i)) (o (g j))
      · refine ⟨j + 1, ha, Nat.le_refl _, ?_, hc, fun _ => hT.no _ _ (hix j (by omega) (by omega)) hl⟩
        unfold Sort.insInner
        rw [e1, e2, hl, if_neg (by simp)]
      · have hL := hT.yes _ _ (hix j (by omega) (by omega)) hl
        obtain ⟨p, p1, p2, p3, p4, p5⟩ := ih (by omega) (by omega) (fun c c1 c2 => by
          rcases Nat.eq_or_lt_of_le c1 with rfl | h'
          · exact hL
          · exact hc c h' c2)
        refine ⟨p, p1, by omega, ?_, p4, p5⟩
        rw [← p3]
        conv => lhs; unfold Sort.insInner
        rw [e1, e2, hl, if_pos (by simpa using h), row_swp _ _ _ _ _ (by omega) (by omega), rot_down g j i (by omega)]
    · have : a = j + 1 := by omega
      refine ⟨j + 1, ha, Nat.le_refl _, ?_, hc, fun h' => by omega⟩
      unfold Sort.insInner
      rw [if_neg (by simp; omega)]
theorem inner_ok (hT : Tells L lt o) (g : Nat → Nat) (a i : Nat) (ha : a ≤ i) (hi : i < n) (hix : ∀ x, a ≤ x → x < i → g x < g i) (hs : Srt L g a i) :
    ∃ g', Sort.insInner lt a i (row o n g) = row o n g' ∧ Prm a (i + 1) g g' ∧ Srt L g' a (i + 1) := by
  obtain ⟨p, p1, p2, p3, p4, p5⟩ := inner (n := n) hT g a i hi hix i ha (Nat.le_refl _) (fun c c1 c2 => by omega)
  rw [rot_self] at p3
  refine ⟨_, p3, (Prm.rot g p i (i + 1) p2 (by omega)).mono p1 (Nat.le_refl _), ins_down p p1 p2 hs (fun c c1 c2 => ?_) p4⟩
  have hk := p5 (by omega)
  rcases hs.le c1 (show c ≤ p - 1 by omega) (by omega) with e | e
  · rw [e]; exact hk
  · exact hT.ord.trans _ _ _ e hk
theorem outer_ok (hT : Tells L lt o) (a b : Nat) (hb : b ≤ n) (g0 : Nat → Nat) (h0 : ∀ x y, a ≤ x → x < y → y < b → g0 x < g0 y) :
    ∀ k i g, b - i ≤ k → a ≤ i → i ≤ b → Prm a i g0 g → Srt L g a i → ∃ g', Sort.insOuter lt a b i (row o n g) = row o n g' ∧ Prm a b g0 g' ∧ Srt L g' a b := by
  intro k
  induction k with
  | zero =>
    intro i g hk hai hib hp hs
    have : i = b := by omega
    subst this
    exact ⟨g, by unfold Sort.insOuter; rw [if_neg (by omega)], hp, hs⟩
  | succ k ih =>
    intro i g hk hai hib hp hs
    by_cases h : i < b
    · obtain ⟨g1, e1, p1, s1⟩ := inner_ok (n := n) hT g a i hai (by omega) (fun x h1 h2 => by
        obtain ⟨z, hz, e⟩ := hp.within x ⟨h1, h2⟩
        rw [e, hp.stays i (by omega)]
        exact h0 z i hz.1 hz.2 h) hs
      obtain ⟨g2, e2, p2, s2⟩ := ih (i + 1) g1 (by omega) (by omega) (by omega) ((hp.mono (Nat.le_refl _) (by omega)).trans p1) s1
      refine ⟨g2, ?_, p2, s2⟩
      conv => lhs; unfold Sort.insOuter
      rw [if_pos h, e1, e2]
    · have : i = b := by omega
      subst this
      exact ⟨g, by unfold Sort.insOuter; rw [if_neg (by omega)], hp, hs⟩
/-- Sorting by insertion. -/
theorem insertion_ok (hT : Tells L lt o) (a b : Nat) (hab : a ≤ b) (hb : b ≤ n) (g : Nat → Nat) (h0 : ∀ x y, a ≤ x → x < y → y < b → g x < g y) :
    ∃ g', Sort.insertionSort lt (row o n g) a b = row o n g' ∧ Prm a b g g' ∧ Srt L g' a b := by
  unfold Sort.insertionSort
  by_cases h : a + 1 ≤ b
  · exact outer_ok hT a b hb g h0 b (a + 1) g (by omega) (by omega) h (Prm.refl _ _ _) (fun x y h1 h2 h3 => by omega)
  · refine ⟨g, by unfold Sort.insOuter; rw [if_neg (by omega)], Prm.refl _ _ _, fun x y h1 h2 h3 => by omega⟩
end
end Stab
end Go.Proofs.Ytdcmjbebkmicaaa
