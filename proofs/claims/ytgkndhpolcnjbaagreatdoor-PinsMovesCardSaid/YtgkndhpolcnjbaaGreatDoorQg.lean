/- Several texts in one: DocB. -/
import Derived.Lib.ItoaNum
import Derived.Test.YtgkndhpolcnjbaaGreatDoorQf
import Derived.Test.YtgkndhpolcnjbaaGreatDoorQc
namespace Go.Proofs.YtgkndhpolcnjbaaGreatDoor
open Go.RowKit Go.Sort
namespace D
def by' (c : Nat → Int) (s color : Int) : BitVec 64 := if K.there s = true then byTo c s.toNat color 64 else 0#64
end D
end Go.Proofs.YtgkndhpolcnjbaaGreatDoor
namespace Go.Proofs.YtgkndhpolcnjbaaGreatDoor
open Go.RowKit Go.Sort
theorem there_nat (s : Int) (h : K.there s = true) : ∃ n : Nat, s = (n : Int) ∧ n < 64 ∧ s.toNat = n := by
  unfold K.there at h
  simp at h
  exact ⟨s.toNat, by omega, by omega, rfl⟩
theorem there_out (s : Int) (h : K.there s = false) : s < 0 ∨ 64 ≤ s := by
  unfold K.there at h
  simp at h
  omega
end Go.Proofs.YtgkndhpolcnjbaaGreatDoor
namespace Go.Proofs.YtgkndhpolcnjbaaGreatDoor
open Go.RowKit Go.Sort
namespace D
def check (c : Nat → Int) (color : Int) : Bool := decide (color ≤ 1) && (decide (0 ≤ king c color) && (U (by' c (king c color) (K.oc color)) != 0))
end D
end Go.Proofs.YtgkndhpolcnjbaaGreatDoor
namespace Go.Proofs.YtgkndhpolcnjbaaGreatDoor
open Go.RowKit
def bit (x : BitVec 64) (n : Nat) : Bool := x.getLsbD n
theorem bit_zero (n : Nat) : bit 0#64 n = false := by simp [bit]
theorem bit_and (x y : BitVec 64) (n : Nat) : bit (bAnd x y) n = (bit x n && bit y n) := by simp [bit, bAnd]
theorem bit_or (x y : BitVec 64) (n : Nat) : bit (bOr x y) n = (bit x n || bit y n) := by simp [bit, bOr]
theorem bit_lt {x : BitVec 64} {n : Nat} (h : bit x n = true) : n < 64 := BitVec.lt_of_getLsbD h
theorem bit_andn (x y : BitVec 64) (n : Nat) : bit (bAndn x y) n = (bit x n && !bit y n) := by
  cases h : bit x n
  · unfold bit at *; unfold bAndn; rw [BitVec.getLsbD_and, h]; rfl
  · have := bit_lt h
    unfold bit at *; unfold bAndn; rw [BitVec.getLsbD_and, h, BitVec.getLsbD_not]; simp [this]
theorem bit_one (s n : Nat) (hs : s < 64) : bit (B.one (s : Int)) n = decide (n = s) := by
  unfold bit B.one
  rw [if_pos (by omega), BitVec.getLsbD_shiftLeft, BitVec.getLsbD_one, Int.toNat_natCast]
  by_cases h : n = s
  · subst h; simp; omega
  · simp [h]; omega
theorem bit_ext {x y : BitVec 64} (h : ∀ n, n < 64 → bit x n = bit y n) : x = y := BitVec.eq_of_getLsbD_eq h
theorem zero_of {x : BitVec 64} (h : ∀ n, n < 64 → bit x n = false) : x = 0#64 := bit_ext fun n hn => by rw [h n hn, bit_zero]
theorem some_of {x : BitVec 64} (h : x ≠ 0#64) : ∃ n, n < 64 ∧ bit x n = true := by
  apply Classical.byContradiction
  intro hn
  exact h (zero_of fun n h64 => by
    cases hb : bit x n
    · rfl
    · exact absurd ⟨n, h64, hb⟩ hn)
theorem bit_test (x : BitVec 64) (n : Nat) : bit x n = x.toNat.testBit n := rfl
theorem first_spec (b : BitVec 64) (h : b ≠ 0#64) : ∃ n : Nat, B.first b = (n : Int) ∧ n < 64 ∧ bit b n = true ∧ ∀ m, m < n → bit b m = false := by
  have h0 : b.toNat ≠ 0 := fun e => h (BitVec.eq_of_toNat_eq e)
  have hs := Lib.ctzFrom_spec 64 b.toNat (by omega) b.isLt
  obtain ⟨m, hm, hlt⟩ := hs
  have hc : Lib.ctz 64 b.toNat = Lib.ctzFrom 64 b.toNat := by unfold Lib.ctz; rw [if_neg h0]
  refine ⟨Lib.ctzFrom 64 b.toNat, by unfold B.first; rw [if_neg h, hc], hlt, ?_, fun j hj => ?_⟩
  · rw [bit_test]
    generalize Lib.ctzFrom 64 b.toNat = k at *
    rw [hm, Nat.testBit_two_pow_mul]
    simp
  · rw [bit_test]
    generalize Lib.ctzFrom 64 b.toNat = k at *
    rw [hm, Nat.testBit_two_pow_mul]
    simp
    omega
theorem last_spec (b : BitVec 64) (h : b ≠ 0#64) : ∃ n : Nat, B.last b = (n : Int) ∧ n < 64 ∧ bit b n = true ∧ ∀ m, n < m → bit b m = false := by
  have h0 : b.toNat ≠ 0 := fun e => h (BitVec.eq_of_toNat_eq e)
  obtain ⟨h1, h2, h3⟩ := Lib.bitLenAux_bounds 64 b.toNat b.isLt h0
  have hl := B.last_bd b
  unfold Lib.bitLen at hl
  refine ⟨Lib.bitLenAux 64 b.toNat - 1, by unfold B.last Lib.bitLen; omega, by omega, ?_, fun j hj => ?_⟩
  · rw [bit_test]
    exact Nat.testBit_of_two_pow_le_and_two_pow_add_one_gt h2 (by rw [Nat.sub_add_cancel h1]; exact h3)
  · rw [bit_test]
    exact Nat.testBit_lt_two_pow (Nat.lt_of_lt_of_le h3 (Nat.pow_le_pow_right (by decide) (by omega)))
theorem bit_upTo (c : Nat → Int) (g : Int → Bool) (j : Nat) (hj : j < 64) : ∀ n, n ≤ 64 → bit (S.upTo c g n) j = (decide (j < n) && (P.isB (c (1 + j)) && g (c (1 + j))))
  | 0, _ => by simp [S.upTo, bit_zero]
  | n + 1, hn => by
    have ih := bit_upTo c g j hj n (by omega)
    rw [S.upTo]
    split
    · rename_i hg
      unfold B.put
      rw [bit_or, ih, bit_one n j (by omega)]
      by_cases e : j = n
      · subst e; simp at hg ⊢; simp [hg]
      · have : decide (j < n + 1) = decide (j < n) := by simp; omega
        simp [e, this]
    · rename_i hg
      rw [ih]
      by_cases e : j = n
      · subst e; simp at hg ⊢; exact hg
      · have : decide (j < n + 1) = decide (j < n) := by simp; omega
        rw [this]
theorem bit_all (c : Nat → Int) (j : Nat) (hj : j < 64) : bit (S.all c) j = P.isB (c (1 + j)) := by
  unfold S.all S.set; rw [bit_upTo c _ j hj 64 (by omega)]; simp [hj]
theorem bit_of (c : Nat → Int) (color kind : Int) (j : Nat) (hj : j < 64) : bit (S.of c color kind) j = (P.isB (c (1 + j)) && S.ofG color kind (c (1 + j))) := by
  unfold S.of S.set; rw [bit_upTo c _ j hj 64 (by omega)]; simp [hj]
theorem bit_byTo (c : Nat → Int) (s : Nat) (color : Int) (j : Nat) (hj : j < 64) : ∀ n, n ≤ 64 → bit (D.byTo c s color n) j = (decide (j < n) && (P.kind (c (1 + j)) != 0 && (D.color (c (1 + j)) == color && D.hits c j s)))
  | 0, _ => by simp [D.byTo, bit_zero]
  | n + 1, hn => by
    have ih := bit_byTo c s color j hj n (by omega)
    rw [D.byTo]
    split
    · rename_i hg
      rw [bit_or, ih, bit_one n j (by omega)]
      by_cases e : j = n
      · subst e; rw [hg]; simp
      · have : decide (j < n + 1) = decide (j < n) := by simp; omega
        simp [e, this]
    · rename_i hg
      rw [ih]
      by_cases e : j = n
      · subst e; rw [Bool.not_eq_true] at hg; rw [hg]; simp
      · have : decide (j < n + 1) = decide (j < n) := by simp; omega
        rw [this]
end Go.Proofs.YtgkndhpolcnjbaaGreatDoor
namespace Go.Proofs.YtgkndhpolcnjbaaGreatDoor
open Go.RowKit
/-- Is b on the ray of a in direction d? -/
def inRay (a d b : Nat) : Bool :=
  match d with
  | 0 => a % 8 == b % 8 && Nat.blt (a / 8) (b / 8)
  | 1 => Nat.blt (a % 8) (b % 8) && (b / 8 == a / 8 + (b % 8 - a % 8))
  | 2 => a / 8 == b / 8 && Nat.blt (a % 8) (b % 8)
  | 3 => Nat.blt (a % 8) (b % 8) && (a / 8 == b / 8 + (b % 8 - a % 8))
  | 4 => a % 8 == b % 8 && Nat.blt (b / 8) (a / 8)
  | 5 => Nat.blt (b % 8) (a % 8) && (a / 8 == b / 8 + (a % 8 - b % 8))
  | 6 => a / 8 == b / 8 && Nat.blt (b % 8) (a % 8)
  | 7 => Nat.blt (b % 8) (a % 8) && (b / 8 == a / 8 + (a % 8 - b % 8))
  | _ => false
theorem ray_tab : ∀ (a : Fin 64) (d : Fin 8) (b : Fin 64), bit (R.ray (a.val : Int) d.val) b.val = inRay a.val d.val b.val := by decide +kernel
theorem bit_ray (a d b : Nat) (ha : a < 64) (hd : d < 8) (hb : b < 64) : bit (R.ray (a : Int) d) b = inRay a d b := ray_tab ⟨a, ha⟩ ⟨d, hd⟩ ⟨b, hb⟩
/-- Is j strictly between a and b, by the document's steps? -/
def btw (a b j : Nat) : Bool := (List.range (D.dist a b)).any fun k => Nat.blt 0 k && D.at' a b k == j
theorem btw_tab : ∀ (a : Fin 64) (d : Fin 8) (b : Fin 64), inRay a.val d.val b.val = true → ∀ j : Fin 64, btw a.val b.val j.val = (inRay a.val d.val j.val && inRay j.val d.val b.val) := by decide +kernel
theorem btw_ray (a d b j : Nat) (ha : a < 64) (hd : d < 8) (hb : b < 64) (hj : j < 64) (h : inRay a d b = true) : btw a b j = (inRay a d j && inRay j d b) := btw_tab ⟨a, ha⟩ ⟨d, hd⟩ ⟨b, hb⟩ h ⟨j, hj⟩
theorem straight_tab : ∀ (a b : Fin 64), D.straight a.val b.val = (inRay a.val 0 b.val || (inRay a.val 2 b.val || (inRay a.val 4 b.val || inRay a.val 6 b.val))) := by decide +kernel
theorem across_tab : ∀ (a b : Fin 64), D.across a.val b.val = (inRay a.val 1 b.val || (inRay a.val 3 b.val || (inRay a.val 5 b.val || inRay a.val 7 b.val))) := by decide +kernel
theorem king_tab : ∀ (a b : Fin 64), bit (R.king (a.val : Int)) b.val = D.beside a.val b.val := by decide +kernel
theorem knight_tab : ∀ (a b : Fin 64), bit (R.knight (a.val : Int)) b.val = (((D.abs (D.up a.val b.val) == 1) && (D.aside a.val b.val == 2)) || ((D.abs (D.up a.val b.val) == 2) && (D.aside a.val b.val == 1))) := by decide +kernel
theorem pawn0_tab : ∀ (a b : Fin 64), bit (R.pawn 0 (a.val : Int)) b.val = ((D.up a.val b.val == 1) && (D.aside a.val b.val == 1)) := by decide +kernel
theorem pawn1_tab : ∀ (a b : Fin 64), bit (R.pawn 1 (a.val : Int)) b.val = ((D.up a.val b.val == -1) && (D.aside a.val b.val == 1)) := by decide +kernel
end Go.Proofs.YtgkndhpolcnjbaaGreatDoor
namespace Go.Proofs.YtgkndhpolcnjbaaGreatDoor
open Go.RowKit
/-- The direction back. -/
theorem inRay_back (a d b : Nat) (hd : d < 8) : inRay b ((d + 4) % 8) a = inRay a d b := by
  rcases (show d = 0 ∨ d = 1 ∨ d = 2 ∨ d = 3 ∨ d = 4 ∨ d = 5 ∨ d = 6 ∨ d = 7 by omega) with rfl | rfl | rfl | rfl | rfl | rfl | rfl | rfl <;> (unfold inRay; rw [Bool.eq_iff_iff]; simp <;> omega)
theorem inRay_trans (a d n b : Nat) (h1 : inRay a d n = true) (h2 : inRay n d b = true) : inRay a d b = true := by
  by_cases hd : d < 8
  · rcases (show d = 0 ∨ d = 1 ∨ d = 2 ∨ d = 3 ∨ d = 4 ∨ d = 5 ∨ d = 6 ∨ d = 7 by omega) with rfl | rfl | rfl | rfl | rfl | rfl | rfl | rfl <;> simp [inRay] at h1 h2 ⊢ <;> omega
  · unfold inRay at h1; split at h1 <;> first | omega | cases h1
/-- Up a ray the squares rise, down it they fall. -/
theorem inRay_up (a d n j : Nat) (hd : ¬ (3 ≤ d ∧ d ≤ 6)) (h1 : inRay a d n = true) (h2 : inRay a d j = true) (h : n < j) : inRay n d j = true := by
  by_cases hd8 : d < 8
  · rcases (show d = 0 ∨ d = 1 ∨ d = 2 ∨ d = 7 by omega) with rfl | rfl | rfl | rfl <;> simp [inRay] at h1 h2 ⊢ <;> omega
  · unfold inRay at h1; split at h1 <;> first | omega | cases h1
theorem inRay_down (a d n j : Nat) (hd : 3 ≤ d ∧ d ≤ 6) (h1 : inRay a d n = true) (h2 : inRay a d j = true) (h : j < n) : inRay n d j = true := by
  rcases (show d = 3 ∨ d = 4 ∨ d = 5 ∨ d = 6 by omega) with rfl | rfl | rfl | rfl <;> simp [inRay] at h1 h2 ⊢ <;> omega
/-- The first square of a set on a ray: all others of the set are behind it. -/
theorem near_spec (a d : Nat) (occ : BitVec 64) (ha : a < 64) (hd : d < 8) (h : bAnd (R.ray (a : Int) d) occ ≠ 0#64) :
    ∃ n : Nat, L.near (d : Int) (bAnd (R.ray (a : Int) d) occ) = (n : Int) ∧ n < 64 ∧ inRay a d n = true ∧ bit occ n = true ∧ ∀ j, j < 64 → inRay a d j = true → bit occ j = true → j = n ∨ inRay n d j = true := by
  unfold L.near
  split
  · rename_i h36
    obtain ⟨n, hn, h64, hb, hl⟩ := last_spec _ h
    rw [bit_and, bit_ray a d n ha hd h64, Bool.and_eq_true] at hb
    refine ⟨n, hn, h64, hb.1, hb.2, fun j hj h1 h2 => ?_⟩
    by_cases e : j = n
    · exact .inl e
    · refine .inr (inRay_down a d n j (by omega) hb.1 h1 ?_)
      apply Classical.byContradiction
      intro hlt
      have := hl j (by omega)
      rw [bit_and, bit_ray a d j ha hd hj, h1, h2] at this
      cases this
  · rename_i h36
    obtain ⟨n, hn, h64, hb, hl⟩ := first_spec _ h
    rw [bit_and, bit_ray a d n ha hd h64, Bool.and_eq_true] at hb
    refine ⟨n, hn, h64, hb.1, hb.2, fun j hj h1 h2 => ?_⟩
    by_cases e : j = n
    · exact .inl e
    · refine .inr (inRay_up a d n j (by omega) hb.1 h1 ?_)
      apply Classical.byContradiction
      intro hlt
      have := hl j (by omega)
      rw [bit_and, bit_ray a d j ha hd hj, h1, h2] at this
      cases this
/-- Is nothing of a set between a and b? -/
def free (occ : BitVec 64) (a b : Nat) : Bool := (List.range 64).all fun j => !(btw a b j && bit occ j)
theorem free_iff (occ : BitVec 64) (a b : Nat) : free occ a b = true ↔ ∀ j, j < 64 → btw a b j = true → bit occ j = false := by
  unfold free
  rw [List.all_eq_true]
  constructor
  · intro h j hj hb
    have := h j (List.mem_range.2 hj)
    rw [hb] at this
    simpa using this
  · intro h j hj
    cases hb : btw a b j
    · rfl
    · rw [h j (List.mem_range.1 hj) hb]; rfl
theorem free_false (occ : BitVec 64) (a b : Nat) (j : Nat) (hj : j < 64) (h1 : btw a b j = true) (h2 : bit occ j = true) : free occ a b = false := by
  cases h : free occ a b
  · rfl
  · rw [(free_iff _ _ _).1 h j hj h1] at h2; cases h2
/-- What is seen along a line. -/
theorem bit_dir (a d b : Nat) (occ : BitVec 64) (ha : a < 64) (hd : d < 8) (hb : b < 64) : bit (L.dir (a : Int) d occ) b = (inRay a d b && free occ a b) := by
  unfold L.dir
  cases hr : inRay a d b
  · split
    · rw [bit_ray a d b ha hd hb, hr]; rfl
    · rw [bit_andn, bit_ray a d b ha hd hb, hr]; rfl
  · split
    · rename_i h0
      rw [bit_ray a d b ha hd hb, hr, Bool.true_and]
      refine ((free_iff _ _ _).2 fun j hj hbt => ?_).symm
      rw [btw_ray a d b j ha hd hb hj hr, Bool.and_eq_true] at hbt
      have := congrArg (fun x => bit x j) h0
      simp only [bit_and, bit_zero, bit_ray a d j ha hd hj, hbt.1, Bool.true_and] at this
      exact this
    · rename_i h0
      obtain ⟨n, hn, h64, h1, h2, h3⟩ := near_spec a d occ ha hd h0
      rw [hn, bit_andn, bit_ray a d b ha hd hb, bit_ray n d b h64 hd hb, hr, Bool.true_and, Bool.true_and]
      cases hnb : inRay n d b
      · refine ((free_iff _ _ _).2 fun j hj hbt => ?_).symm
        rw [btw_ray a d b j ha hd hb hj hr, Bool.and_eq_true] at hbt
        cases ho : bit occ j
        · rfl
        · rcases h3 j hj hbt.1 ho with rfl | h
          · rw [hbt.2] at hnb; cases hnb
          · rw [inRay_trans n d j b h hbt.2] at hnb; cases hnb
      · refine (free_false occ a b n h64 ?_ h2).symm
        rw [btw_ray a d b n ha hd hb h64 hr, h1, hnb]; rfl
theorem straight_ray (a b : Nat) (ha : a < 64) (hb : b < 64) : D.straight a b = (inRay a 0 b || (inRay a 2 b || (inRay a 4 b || inRay a 6 b))) := straight_tab ⟨a, ha⟩ ⟨b, hb⟩
theorem across_ray (a b : Nat) (ha : a < 64) (hb : b < 64) : D.across a b = (inRay a 1 b || (inRay a 3 b || (inRay a 5 b || inRay a 7 b))) := across_tab ⟨a, ha⟩ ⟨b, hb⟩
theorem and4 (a b c d f : Bool) : ((((false || (a && f)) || (b && f)) || (c && f)) || (d && f)) = ((a || (b || (c || d))) && f) := by cases a <;> cases b <;> cases c <;> cases d <;> cases f <;> rfl
theorem bit_rook (a b : Nat) (occ : BitVec 64) (ha : a < 64) (hb : b < 64) : bit (L.rook (a : Int) occ) b = (D.straight a b && free occ a b) := by
  unfold L.rook L.seen
  simp only [List.foldl_cons, List.foldl_nil]
  rw [bit_or, bit_or, bit_or, bit_or, bit_zero, bit_dir a 0 b occ ha (by omega) hb, bit_dir a 2 b occ ha (by omega) hb, bit_dir a 4 b occ ha (by omega) hb, bit_dir a 6 b occ ha (by omega) hb, straight_ray a b ha hb, and4]
theorem bit_bishop (a b : Nat) (occ : BitVec 64) (ha : a < 64) (hb : b < 64) : bit (L.bishop (a : Int) occ) b = (D.across a b && free occ a b) := by
  unfold L.bishop L.seen
  simp only [List.foldl_cons, List.foldl_nil]
  rw [bit_or, bit_or, bit_or, bit_or, bit_zero, bit_dir a 1 b occ ha (by omega) hb, bit_dir a 3 b occ ha (by omega) hb, bit_dir a 5 b occ ha (by omega) hb, bit_dir a 7 b occ ha (by omega) hb, across_ray a b ha hb, and4]
theorem bit_queen (a b : Nat) (occ : BitVec 64) (ha : a < 64) (hb : b < 64) : bit (L.queen (a : Int) occ) b = ((D.straight a b || D.across a b) && free occ a b) := by
  unfold L.queen
  rw [bit_or, bit_rook a b occ ha hb, bit_bishop a b occ ha hb]
  cases D.straight a b <;> cases D.across a b <;> cases free occ a b <;> rfl
end Go.Proofs.YtgkndhpolcnjbaaGreatDoor
namespace Go.Proofs.YtgkndhpolcnjbaaGreatDoor
open Go.RowKit
namespace D
/-- Does a piece of a kind and a color on a attack b? -/
def hitsK (k : Int) (color : Int) (occ : BitVec 64) (a b : Nat) : Bool :=
  if k = 1 then (if color = 0 then (up a b == 1) && (aside a b == 1) else (up a b == -1) && (aside a b == 1))
  else if k = 2 then ((abs (up a b) == 1) && (aside a b == 2)) || ((abs (up a b) == 2) && (aside a b == 1))
  else if k = 6 then beside a b
  else if k = 4 then straight a b && free occ a b
  else if k = 3 then across a b && free occ a b
  else if k = 5 then (straight a b || across a b) && free occ a b
  else false
end D
theorem isB_kind (x : Int) (h0 : 0 ≤ x) (h1 : x ≤ 255) : (P.kind x != 0) = P.isB x := all8 (fun x => (P.kind x != 0) = P.isB x) (by decide +kernel) x h0 h1
theorem color_eq (x : Int) (h : P.isB x = true) : P.color x = D.color x := by unfold P.color D.color; rw [h]; rfl
theorem isB_false (x : Int) (h : P.isB x = false) : P.kind x = 0 := by unfold P.kind; rw [h]; rfl
theorem isB_true (x : Int) (h0 : 0 ≤ x) (h1 : x ≤ 255) (h : P.isB x = true) : 1 ≤ P.kind x ∧ P.kind x ≤ 6 ∧ (P.color x = 0 ∨ P.color x = 1) := by
  have h2 := P.kind_is x h0 h1 h
  have h3 := P.color_is x h0 h1 h
  omega
/-- Nothing stands between, by the document's steps and by the set. -/
theorem clear_iff (c : Nat → Int) (q : Nat → Nat) : ∀ n k, D.clear c q k n = true ↔ ∀ j, k ≤ j → j < k + n → P.kind (c (1 + q j)) = 0
  | 0, k => by simp [D.clear]; intro j h1 h2; omega
  | n + 1, k => by
    rw [D.clear, Bool.and_eq_true, beq_iff_eq, clear_iff c q n (k + 1)]
    constructor
    · intro ⟨h, hr⟩ j h1 h2
      by_cases e : j = k
      · rw [e]; exact h
      · exact hr j (by omega) (by omega)
    · intro h
      exact ⟨h k (by omega) (by omega), fun j h1 h2 => h j (by omega) (by omega)⟩
theorem btw_iff (a b j : Nat) : btw a b j = true ↔ ∃ k, 0 < k ∧ k < D.dist a b ∧ D.at' a b k = j := by
  unfold btw
  rw [List.any_eq_true]
  constructor
  · rintro ⟨k, hk, h⟩
    rw [Bool.and_eq_true, beq_iff_eq] at h
    exact ⟨k, by simpa using h.1, List.mem_range.1 hk, h.2⟩
  · rintro ⟨k, h0, hk, h⟩
    exact ⟨k, List.mem_range.2 hk, by rw [Bool.and_eq_true, beq_iff_eq]; exact ⟨by simpa using h0, h⟩⟩
theorem clr_free (c : Nat → Int) (a b : Nat) (hc : BdOk c) (ha : a < 64) (hb : b < 64) (h : (D.straight a b || D.across a b) = true) : D.clr c a b = free (S.all c) a b := by
  rw [Bool.eq_iff_iff]
  unfold D.clr
  rw [clear_iff, free_iff]
  have hp := D.path a b ha hb h
  constructor
  · intro hk j hj hbt
    obtain ⟨k, h0, h1, rfl⟩ := (btw_iff a b j).1 hbt
    rw [bit_all c _ hj]
    have := hk k h0 (by omega)
    obtain ⟨x0, x1⟩ := hc _ hj
    rw [← isB_kind _ x0 x1, this]; rfl
  · intro hf k h0 h1
    have h64 := hp.bd k (by omega)
    have := hf _ h64 ((btw_iff a b _).2 ⟨k, h0, by omega, rfl⟩)
    rw [bit_all c _ h64] at this
    obtain ⟨x0, x1⟩ := hc _ h64
    exact isB_false _ this
theorem and_clr {s : Bool} {x y : Bool} (h : s = true → x = y) : (s && x) = (s && y) := by cases s; rfl; rw [h rfl]
theorem hits_K (c : Nat → Int) (a b : Nat) (hc : BdOk c) (ha : a < 64) (hb : b < 64) : D.hits c a b = D.hitsK (P.kind (c (1 + a))) (D.color (c (1 + a))) (S.all c) a b := by
  unfold D.hits D.hitsK
  rw [and_clr (s := D.straight a b) (fun h => clr_free c a b hc ha hb (by rw [h]; rfl)), and_clr (s := D.across a b) (fun h => clr_free c a b hc ha hb (by rw [h, Bool.or_true])), and_clr (s := D.straight a b || D.across a b) (fun h => clr_free c a b hc ha hb h)]
/-- What a kind attacks from a square. -/
theorem bit_hits (k : Nat) (color : Int) (occ : BitVec 64) (a b : Nat) (hcol : color = 0 ∨ color = 1) (ha : a < 64) (hb : b < 64) : bit (K.hits k color (a : Int) occ) b = D.hitsK (k : Int) color occ a b := by
  by_cases h6 : k ≤ 6
  · rcases (show k = 0 ∨ k = 1 ∨ k = 2 ∨ k = 3 ∨ k = 4 ∨ k = 5 ∨ k = 6 by omega) with rfl | rfl | rfl | rfl | rfl | rfl | rfl
    · exact bit_zero b
    · rcases hcol with rfl | rfl
      · exact pawn0_tab ⟨a, ha⟩ ⟨b, hb⟩
      · exact pawn1_tab ⟨a, ha⟩ ⟨b, hb⟩
    · exact knight_tab ⟨a, ha⟩ ⟨b, hb⟩
    · exact bit_bishop a b occ ha hb
    · exact bit_rook a b occ ha hb
    · exact bit_queen a b occ ha hb
    · exact king_tab ⟨a, ha⟩ ⟨b, hb⟩
  · have e1 : K.hits k color (a : Int) occ = 0#64 := by
      unfold K.hits
      split <;> first | omega | rfl
    rw [e1, bit_zero]
    unfold D.hitsK
    rw [if_neg (by omega), if_neg (by omega), if_neg (by omega), if_neg (by omega), if_neg (by omega), if_neg (by omega)]
/-- Attacks go both ways. -/
theorem up_back (a b : Nat) : D.up b a = -D.up a b := by unfold D.up; omega
theorem abs_neg (n : Int) : D.abs (-n) = D.abs n := by unfold D.abs; split <;> split <;> omega
theorem aside_back (a b : Nat) : D.aside b a = D.aside a b := by
  unfold D.aside
  rw [show (a : Int) % 8 - (b : Int) % 8 = -((b : Int) % 8 - (a : Int) % 8) by omega, abs_neg]
theorem straight_back (a b : Nat) : D.straight b a = D.straight a b := by
  unfold D.straight
  rw [up_back, aside_back]
  congr 1
  rw [Bool.eq_iff_iff]; simp
theorem across_back (a b : Nat) : D.across b a = D.across a b := by
  unfold D.across
  rw [up_back, aside_back, abs_neg]
theorem beside_back (a b : Nat) : D.beside (b : Int) a = D.beside a b := by
  unfold D.beside
  rw [show (b : Int) / 8 - (a : Int) / 8 = -((a : Int) / 8 - (b : Int) / 8) by omega, abs_neg, show (b : Int) % 8 - (a : Int) % 8 = -((a : Int) % 8 - (b : Int) % 8) by omega, abs_neg]
  congr 1
  rw [decide_eq_decide]; omega
theorem line_dir (a b : Nat) (ha : a < 64) (hb : b < 64) (h : (D.straight a b || D.across a b) = true) : ∃ d, d < 8 ∧ inRay a d b = true := by
  rw [straight_ray a b ha hb, across_ray a b ha hb] at h
  simp only [Bool.or_eq_true] at h
  rcases h with (h | h | h | h) | (h | h | h | h)
  · exact ⟨0, by omega, h⟩
  · exact ⟨2, by omega, h⟩
  · exact ⟨4, by omega, h⟩
  · exact ⟨6, by omega, h⟩
  · exact ⟨1, by omega, h⟩
  · exact ⟨3, by omega, h⟩
  · exact ⟨5, by omega, h⟩
  · exact ⟨7, by omega, h⟩
theorem btw_back (a b j : Nat) (ha : a < 64) (hb : b < 64) (hj : j < 64) (h : (D.straight a b || D.across a b) = true) : btw b a j = btw a b j := by
  obtain ⟨d, hd, hr⟩ := line_dir a b ha hb h
  rw [btw_ray a d b j ha hd hb hj hr, btw_ray b ((d + 4) % 8) a j hb (by omega) ha hj (by rw [inRay_back a d b hd]; exact hr), inRay_back j d b hd, inRay_back a d j hd, Bool.and_comm]
theorem free_back (occ : BitVec 64) (a b : Nat) (ha : a < 64) (hb : b < 64) (h : (D.straight a b || D.across a b) = true) : free occ b a = free occ a b := by
  rw [Bool.eq_iff_iff, free_iff, free_iff]
  constructor
  · intro hf j hj hbt
    exact hf j hj (by rw [btw_back a b j ha hb hj h]; exact hbt)
  · intro hf j hj hbt
    exact hf j hj (by rw [btw_back a b j ha hb hj h] at hbt; exact hbt)
theorem hitsK_back (k : Int) (color : Int) (occ : BitVec 64) (a b : Nat) (hcol : color = 0 ∨ color = 1) (ha : a < 64) (hb : b < 64) : D.hitsK k (1 - color) occ b a = D.hitsK k color occ a b := by
  unfold D.hitsK
  rw [straight_back, across_back, beside_back, and_clr (s := D.straight a b) (fun h => free_back occ a b ha hb (by rw [h]; rfl)), and_clr (s := D.across a b) (fun h => free_back occ a b ha hb (by rw [h, Bool.or_true])), and_clr (s := D.straight a b || D.across a b) (fun h => free_back occ a b ha hb h), up_back, aside_back, abs_neg]
  rcases hcol with rfl | rfl
  · have e : (-D.up a b == -1) = (D.up a b == 1) := by rw [Bool.eq_iff_iff]; simp
    rw [show ((1 : Int) - 0) = 1 by rfl, if_neg (show ¬ ((1 : Int) = 0) by decide), if_pos rfl, e]
  · have e : (-D.up a b == 1) = (D.up a b == -1) := by rw [Bool.eq_iff_iff]; simp; omega
    rw [show ((1 : Int) - 1) = 0 by rfl, if_neg (show ¬ ((1 : Int) = 0) by decide), if_pos rfl, e]
theorem bit_foldl (f : Nat → BitVec 64) (j : Nat) : ∀ (l : List Nat) (o : BitVec 64), bit (l.foldl (fun o k => bOr o (f k)) o) j = (bit o j || l.any fun k => bit (f k) j)
  | [], o => by simp
  | k :: l, o => by rw [List.foldl_cons, bit_foldl f j l, bit_or, List.any_cons, Bool.or_assoc]
theorem by_eq (c : Nat → Int) (s color : Int) (hc : BdOk c) (h0 : 0 ≤ color) : K.by c s color = if color ≤ 1 then D.by' c s color else 0#64 := by
  unfold K.by D.by'
  by_cases h1 : color ≤ 1
  · by_cases ht : K.there s = true
    · rw [if_pos ⟨ht, h1⟩, if_pos h1, if_pos ht]
      obtain ⟨n, rfl, hn, hm⟩ := there_nat s ht
      rw [Int.toNat_natCast]
      refine bit_ext fun j hj => ?_
      rw [bit_byTo c n color j hj 64 (by omega)]
      unfold K.acc
      rw [bit_foldl, bit_zero, Bool.false_or]
      obtain ⟨x0, x1⟩ := hc j hj
      have hoc : K.oc color = 1 - color := by unfold K.oc; omega
      have hcc : (1 - color = 0 ∨ 1 - color = 1) := by omega
      rw [hits_K c j n hc hj hn, isB_kind _ x0 x1]
      have key : ∀ k ∈ K.upTo 7, bit (bAnd (K.hits k (K.oc color) (n : Int) (S.all c)) (S.of c color k)) j = (P.isB (c (1 + j)) && (D.color (c (1 + j)) == color && (P.kind (c (1 + j)) == (k : Int) && D.hitsK (P.kind (c (1 + j))) (D.color (c (1 + j))) (S.all c) j n))) := by
        intro k hk
        have hk1 : (k : Int) ≠ 0 := by
          have : k = 1 ∨ k = 2 ∨ k = 3 ∨ k = 4 ∨ k = 5 ∨ k = 6 := by simpa [K.upTo, List.range, List.range.loop] using hk
          omega
        rw [bit_and, hoc, bit_hits k _ _ n j hcc hn hj, bit_of c color k j hj]
        unfold S.ofG
        cases hb : P.isB (c (1 + j))
        · simp
        · rw [color_eq _ hb]
          rw [show (((k : Int)) == 0) = false by simpa using hk1]
          by_cases hcl : D.color (c (1 + j)) = color
          · by_cases hkk : P.kind (c (1 + j)) = (k : Int)
            · rw [hcl, hkk, hitsK_back _ color _ j n (by omega) hj hn]; simp
            · rw [show (P.kind (c (1 + j)) == (k : Int)) = false by simpa using hkk]; simp
          · rw [show (D.color (c (1 + j)) == color) = false by simpa using hcl]; simp
      have e : ((K.upTo 7).any fun k => bit (bAnd (K.hits k (K.oc color) (n : Int) (S.all c)) (S.of c color k)) j) = ((K.upTo 7).any fun k => (P.isB (c (1 + j)) && (D.color (c (1 + j)) == color && (P.kind (c (1 + j)) == (k : Int) && D.hitsK (P.kind (c (1 + j))) (D.color (c (1 + j))) (S.all c) j n)))) := by
        rw [Bool.eq_iff_iff, List.any_eq_true, List.any_eq_true]
        constructor
        · rintro ⟨k, hk, h⟩; exact ⟨k, hk, by rw [← key k hk]; exact h⟩
        · rintro ⟨k, hk, h⟩; exact ⟨k, hk, by rw [key k hk]; exact h⟩
      rw [e]
      cases hb : P.isB (c (1 + j))
      · simp
      · obtain ⟨k1, k2, k3⟩ := isB_true _ x0 x1 hb
        rw [show (decide (j < 64)) = true by simpa using hj]
        generalize D.hitsK (P.kind (c (1 + j))) (D.color (c (1 + j))) (S.all c) j n = hh
        generalize (D.color (c (1 + j)) == color) = cc
        generalize P.kind (c (1 + j)) = kk at *
        rcases (show kk = 1 ∨ kk = 2 ∨ kk = 3 ∨ kk = 4 ∨ kk = 5 ∨ kk = 6 by omega) with rfl | rfl | rfl | rfl | rfl | rfl <;> cases hh <;> cases cc <;> rfl
    · rw [if_neg (fun h => ht h.1), if_pos h1, if_neg ht]
  · rw [if_neg (fun h => h1 h.2), if_neg h1]
end Go.Proofs.YtgkndhpolcnjbaaGreatDoor
namespace Go.Proofs.YtgkndhpolcnjbaaGreatDoor
open Go.RowKit
theorem dfirst_spec (p : Nat → Bool) : ∀ n k, (D.first p k n = -1 ∧ ∀ j, k ≤ j → j < k + n → p j = false) ∨ ∃ j, k ≤ j ∧ j < k + n ∧ D.first p k n = (j : Int) ∧ p j = true ∧ ∀ i, k ≤ i → i < j → p i = false
  | 0, k => .inl ⟨rfl, fun j h1 h2 => by omega⟩
  | n + 1, k => by
    rw [D.first]
    cases hp : p k
    · rw [if_neg (by simp)]
      rcases dfirst_spec p n (k + 1) with ⟨h, hn⟩ | ⟨j, h1, h2, h3, h4, h5⟩
      · refine .inl ⟨h, fun j h1 h2 => ?_⟩
        by_cases e : j = k
        · rw [e]; exact hp
        · exact hn j (by omega) (by omega)
      · refine .inr ⟨j, by omega, by omega, h3, h4, fun i hi1 hi2 => ?_⟩
        by_cases e : i = k
        · rw [e]; exact hp
        · exact h5 i (by omega) hi2
    · exact .inr ⟨k, by omega, by omega, by rw [if_pos rfl], hp, fun i h1 h2 => by omega⟩
theorem bit_is (c : Nat → Int) (color : Int) (kind : Int) (hk : 1 ≤ kind) (hc : BdOk c) (j : Nat) (hj : j < 64) : bit (S.of c color kind) j = D.is c j color kind := by
  obtain ⟨x0, x1⟩ := hc j hj
  rw [bit_of c color kind j hj]
  unfold S.ofG D.is
  cases hb : P.isB (c (1 + j))
  · rw [isB_false _ hb, show ((0 : Int) == kind) = false by simp; omega]; simp
  · rw [color_eq _ hb, show (kind == 0) = false by simp; omega, Bool.true_and, Bool.false_or, Bool.and_comm]
theorem find_eq (c : Nat → Int) (color : Int) (hc : BdOk c) : S.find c color 6 = D.find c color 6 := by
  unfold S.find D.find
  rcases dfirst_spec (fun s => D.is c s color 6) 64 0 with ⟨h, hn⟩ | ⟨j, _, h2, h3, h4, h5⟩
  · rw [h, zero_of (x := S.of c color 6) fun n h64 => by rw [bit_is c color 6 (by omega) hc n h64]; exact hn n (by omega) (by omega)]
    rfl
  · have hne : S.of c color 6 ≠ 0#64 := by
      intro e
      have := bit_is c color 6 (by omega) hc j (by omega)
      rw [e, bit_zero, h4] at this
      cases this
    obtain ⟨n, e, h64, hb, hl⟩ := first_spec _ hne
    rw [e, h3]
    rw [bit_is c color 6 (by omega) hc n h64] at hb
    have h6 : n = j := by
      rcases Nat.lt_trichotomy n j with h | h | h
      · have := h5 n (by omega) h
        rw [hb] at this; cases this
      · exact h
      · have := hl j h
        rw [bit_is c color 6 (by omega) hc j (by omega), h4] at this; cases this
    rw [h6]
theorem near_spec' (c : Nat → Int) (color s : Int) : ∀ n k, D.near c color s k n = true ↔ ∃ j, k ≤ j ∧ j < k + n ∧ D.is c j (K.oc color) 6 = true ∧ D.beside j s = true
  | 0, k => by simp [D.near]; intro j h1 h2; omega
  | n + 1, k => by
    rw [D.near, Bool.or_eq_true, near_spec' c color s n (k + 1), Bool.and_eq_true]
    constructor
    · rintro (⟨h1, h2⟩ | ⟨j, h1, h2, h3, h4⟩)
      · exact ⟨k, by omega, by omega, h1, h2⟩
      · exact ⟨j, by omega, by omega, h3, h4⟩
    · rintro ⟨j, h1, h2, h3, h4⟩
      by_cases e : j = k
      · subst e; exact .inl ⟨h3, h4⟩
      · exact .inr ⟨j, by omega, by omega, h3, h4⟩
theorem U_ne (x : BitVec 64) : (U x != 0) = decide (x ≠ 0#64) := by
  rw [bne, U_zero]
  by_cases h : x = 0#64 <;> simp [h]
theorem near_eq (c : Nat → Int) (color : Int) (n : Nat) (hc : BdOk c) (hn : n < 64) : (U (bAnd (R.king (n : Int)) (S.of c (K.oc color) 6)) != 0) = D.near c color n 0 64 := by
  rw [U_ne, Bool.eq_iff_iff, decide_eq_true_eq, near_spec' c color n 64 0]
  constructor
  · intro h
    obtain ⟨j, hj, hb⟩ := some_of h
    rw [bit_and, Bool.and_eq_true, bit_is c _ 6 (by omega) hc j hj, king_tab ⟨n, hn⟩ ⟨j, hj⟩] at hb
    exact ⟨j, by omega, by omega, hb.2, by rw [beside_back n j]; exact hb.1⟩
  · rintro ⟨j, _, hj, h1, h2⟩ e
    have := congrArg (fun x => bit x j) e
    simp only [bit_and, bit_zero, bit_is c _ 6 (by omega) hc j (by omega), h1, king_tab ⟨n, hn⟩ ⟨j, by omega⟩, Bool.and_true] at this
    rw [← beside_back n j, h2] at this
    cases this
theorem royal_eq (v color : Int) (h0 : 0 ≤ color) : V.royal v color = D.royal v color := by
  unfold V.royal D.royal
  have e : decide (color = 0 ∨ color = 1) = decide (color < 2) := by rw [decide_eq_decide]; omega
  rw [e]
/-- The king that may be in check, by both. -/
theorem king_eq (c : Nat → Int) (color : Int) (hc : BdOk c) (h0 : 0 ≤ color) : K.kingOk c color = decide (0 ≤ D.king c color) ∧ (K.kingOk c color = true → K.kingAt c color = D.king c color) := by
  unfold K.kingAt
  have key : K.kingOk c color = decide (0 ≤ D.king c color) ∧ (K.kingOk c color = true → S.find c color 6 = D.king c color) := by
    unfold K.kingOk K.lost D.king
    rw [royal_eq _ _ h0, find_eq c color hc]
    cases hr : D.royal (c 0) color
    · exact ⟨rfl, fun h => by simp at h⟩
    · rcases D.find_bd c color 6 with hf | ⟨n, hn, hf⟩
      · rw [hf]; exact ⟨rfl, fun h => by simp at h⟩
      · rw [hf, near_eq c color n hc hn, show decide ((n : Int) < 0) = false by simp]
        simp only [Bool.not_true, Bool.false_or, Bool.true_and]
        rw [if_neg (by simp)]
        cases hq : (c 0 == 3 && D.near c color n 0 64)
        · rw [if_neg (by simp)]; exact ⟨by simp, fun _ => rfl⟩
        · rw [if_pos rfl]; exact ⟨rfl, fun h => by simp at h⟩
  refine ⟨key.1, fun h => ?_⟩
  rw [if_pos h]
  exact key.2 h
theorem kingOk_color (c : Nat → Int) (color : Int) (h : K.kingOk c color = true) : color = 0 ∨ color = 1 := by
  unfold K.kingOk V.royal at h
  simp only [Bool.and_eq_true, decide_eq_true_eq] at h
  exact h.1.2.1
theorem check_eq (c : Nat → Int) (color : Int) (hc : BdOk c) (h0 : 0 ≤ color) : K.check c color = D.check c color := by
  obtain ⟨h1, h2⟩ := king_eq c color hc h0
  unfold K.check D.check
  rw [← h1]
  cases hk : K.kingOk c color
  · simp
  · have hcol := kingOk_color c color hk
    have hoc : K.oc color = 1 - color := by unfold K.oc; omega
    rw [decide_eq_true (show color ≤ 1 by omega), h2 hk]
    unfold K.on
    rw [by_eq c _ _ hc (by omega), if_pos (by omega)]
    simp
end Go.Proofs.YtgkndhpolcnjbaaGreatDoor
