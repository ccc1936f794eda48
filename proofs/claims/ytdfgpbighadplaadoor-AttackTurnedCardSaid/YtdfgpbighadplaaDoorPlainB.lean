/- The plain law of lines: rays, what lies between, what is seen along a line. No walk. -/
import Derived.Test.YtdfgpbighadplaaDoorPlainB0
namespace Go.Proofs.YtdfgpbighadplaaDoor
open Go.RowKit

/-- The direction back. -/
theorem inRay_back (a d b : Nat) (hd : d < 8) : inRay b ((d + 4) % 8) a = inRay a d b := by
  rcases (show d = 0 ∨ d = 1 ∨ d = 2 ∨ d = 3 ∨ d = 4 ∨ d = 5 ∨ d = 6 ∨ d = 7 by omega) with rfl | rfl | rfl | rfl | rfl | rfl | rfl | rfl <;> (unfold inRay; rw [Bool.eq_iff_iff]; simp <;> omega)
theorem inRay_trans (a d n b : Nat) (h1 : inRay a d n = true) (h2 : inRay n d b = true) : inRay a d b = true := by
  by_cases hd : d < 8
  · rcases (show d = 0 ∨ d = 1 ∨ d = 2 ∨ d = 3 ∨ d = 4 ∨ d = 5 ∨ d = 6 ∨ d = 7 by omega) with rfl | rfl | rfl | rfl | rfl | rfl | rfl | rfl <;> simp [inRay] at h1 h2 ⊢ <;> omega
  · unfold inRay at h1; split at h1 <;> first | omega | cases h1
/-- Up a ray the squares rise, down it they fall. -/
theorem inRay_up (a d n j : Nat) (hd : ¬ (3 ≤ d ∧ d ≤ 6)) (h1 : inRay a d n = true) (h2 : inRay a d j = true) (h : n < j) : inRay n d j = true := by
  by_cases hd8 : d < 8
  · rcases (show d = 0 ∨ d = 1 ∨ d = 2 ∨ d = 7 by omega) with rfl | rfl | rfl | rfl <;> simp [inRay] at h1 h2 ⊢ <;> omega
  · unfold inRay at h1; split at h1 <;> first | omega | cases h1
theorem inRay_down (a d n j : Nat) (hd : 3 ≤ d ∧ d ≤ 6) (h1 : inRay a d n = true) (h2 : inRay a d j = true) (h : j < n) : inRay n d j = true := by
  rcases (show d = 3 ∨ d = 4 ∨ d = 5 ∨ d = 6 by omega) with rfl | rfl | rfl | rfl <;> simp [inRay] at h1 h2 ⊢ <;> omega

/-- The first square of a set on a ray: all others of the set are behind it. -/
theorem near_spec (a d : Nat) (occ : BitVec 64) (ha : a < 64) (hd : d < 8) (h : bAnd (R.ray (a : Int) d) occ ≠ 0#64) :
    ∃ n : Nat, L.near (d : Int) (bAnd (R.ray (a : Int) d) occ) = (n : Int) ∧ n < 64 ∧ inRay a d n = true ∧ bit occ n = true ∧ ∀ j, j < 64 → inRay a d j = true → bit occ j = true → j = n ∨ inRay n d j = true := by
  unfold L.near
  split
  · rename_i h36
    obtain ⟨n, hn, h64, hb, hl⟩ := last_spec _ h
    rw [bit_and, bit_ray a d n ha hd h64, Bool.and_eq_true] at hb
    refine ⟨n, hn, h64, hb.1, hb.2, fun j hj h1 h2 => ?_⟩
    by_cases e : j = n
    · exact .inl e
    · refine .inr (inRay_down a d n j (by omega) hb.1 h1 ?_)
      apply Classical.byContradiction
      intro hlt
      have := hl j (by omega)
      rw [bit_and, bit_ray a d j ha hd hj, h1, h2] at this
      cases this
  · rename_i h36
    obtain ⟨n, hn, h64, hb, hl⟩ := first_spec _ h
    rw [bit_and, bit_ray a d n ha hd h64, Bool.and_eq_true] at hb
    refine ⟨n, hn, h64, hb.1, hb.2, fun j hj h1 h2 => ?_⟩
    by_cases e : j = n
    · exact .inl e
    · refine .inr (inRay_up a d n j (by omega) hb.1 h1 ?_)
      apply Classical.byContradiction
      intro hlt
      have := hl j (by omega)
      rw [bit_and, bit_ray a d j ha hd hj, h1, h2] at this
      cases this

/-- Is nothing of a set between a and b? -/
def free (occ : BitVec 64) (a b : Nat) : Bool := (List.range 64).all fun j => !(btw a b j && bit occ j)
theorem free_iff (occ : BitVec 64) (a b : Nat) : free occ a b = true ↔ ∀ j, j < 64 → btw a b j = true → bit occ j = false := by
  unfold free
  rw [List.all_eq_true]
  constructor
  · intro h j hj hb
    have := h j (List.mem_range.2 hj)
    rw [hb] at this
    simpa using this
  · intro h j hj
    cases hb : btw a b j
    · rfl
    · rw [h j (List.mem_range.1 hj) hb]; rfl
theorem free_false (occ : BitVec 64) (a b : Nat) (j : Nat) (hj : j < 64) (h1 : btw a b j = true) (h2 : bit occ j = true) : free occ a b = false := by
  cases h : free occ a b
  · rfl
  · rw [(free_iff _ _ _).1 h j hj h1] at h2; cases h2

/-- What is seen along a line. -/
theorem bit_dir (a d b : Nat) (occ : BitVec 64) (ha : a < 64) (hd : d < 8) (hb : b < 64) : bit (L.dir (a : Int) d occ) b = (inRay a d b && free occ a b) := by
  unfold L.dir
  cases hr : inRay a d b
  · split
    · rw [bit_ray a d b ha hd hb, hr]; rfl
    · rw [bit_andn, bit_ray a d b ha hd hb, hr]; rfl
  · split
    · rename_i h0
      rw [bit_ray a d b ha hd hb, hr, Bool.true_and]
      refine ((free_iff _ _ _).2 fun j hj hbt => ?_).symm
      rw [btw_ray a d b j ha hd hb hj hr, Bool.and_eq_true] at hbt
      have := congrArg (fun x => bit x j) h0
      simp only [bit_and, bit_zero, bit_ray a d j ha hd hj, hbt.1, Bool.true_and] at this
      exact this
    · rename_i h0
      obtain ⟨n, hn, h64, h1, h2, h3⟩ := near_spec a d occ ha hd h0
      rw [hn, bit_andn, bit_ray a d b ha hd hb, bit_ray n d b h64 hd hb, hr, Bool.true_and, Bool.true_and]
      cases hnb : inRay n d b
      · refine ((free_iff _ _ _).2 fun j hj hbt => ?_).symm
        rw [btw_ray a d b j ha hd hb hj hr, Bool.and_eq_true] at hbt
        cases ho : bit occ j
        · rfl
        · rcases h3 j hj hbt.1 ho with rfl | h
          · rw [hbt.2] at hnb; cases hnb
          · rw [inRay_trans n d j b h hbt.2] at hnb; cases hnb
      · refine (free_false occ a b n h64 ?_ h2).symm
        rw [btw_ray a d b n ha hd hb h64 hr, h1, hnb]; rfl

theorem straight_ray (a b : Nat) (ha : a < 64) (hb : b < 64) : D.straight a b = (inRay a 0 b || (inRay a 2 b || (inRay a 4 b || inRay a 6 b))) := straight_tab ⟨a, ha⟩ ⟨b, hb⟩
theorem across_ray (a b : Nat) (ha : a < 64) (hb : b < 64) : D.across a b = (inRay a 1 b || (inRay a 3 b || (inRay a 5 b || inRay a 7 b))) := across_tab ⟨a, ha⟩ ⟨b, hb⟩
theorem and4 (a b c d f : Bool) : ((((false || (a && f)) || (b && f)) || (c && f)) || (d && f)) = ((a || (b || (c || d))) && f) := by cases a <;> cases b <;> cases c <;> cases d <;> cases f <;> rfl
theorem bit_rook (a b : Nat) (occ : BitVec 64) (ha : a < 64) (hb : b < 64) : bit (L.rook (a : Int) occ) b = (D.straight a b && free occ a b) := by
  unfold L.rook L.seen
  simp only [List.foldl_cons, List.foldl_nil]
  rw [bit_or, bit_or, bit_or, bit_or, bit_zero, bit_dir a 0 b occ ha (by omega) hb, bit_dir a 2 b occ ha (by omega) hb, bit_dir a 4 b occ ha (by omega) hb, bit_dir a 6 b occ ha (by omega) hb, straight_ray a b ha hb, and4]
theorem bit_bishop (a b : Nat) (occ : BitVec 64) (ha : a < 64) (hb : b < 64) : bit (L.bishop (a : Int) occ) b = (D.across a b && free occ a b) := by
  unfold L.bishop L.seen
  simp only [List.foldl_cons, List.foldl_nil]
  rw [bit_or, bit_or, bit_or, bit_or, bit_zero, bit_dir a 1 b occ ha (by omega) hb, bit_dir a 3 b occ ha (by omega) hb, bit_dir a 5 b occ ha (by omega) hb, bit_dir a 7 b occ ha (by omega) hb, across_ray a b ha hb, and4]
theorem bit_queen (a b : Nat) (occ : BitVec 64) (ha : a < 64) (hb : b < 64) : bit (L.queen (a : Int) occ) b = ((D.straight a b || D.across a b) && free occ a b) := by
  unfold L.queen
  rw [bit_or, bit_rook a b occ ha hb, bit_bishop a b occ ha hb]
  cases D.straight a b <;> cases D.across a b <;> cases free occ a b <;> rfl

end Go.Proofs.YtdfgpbighadplaaDoor
