/- The plain law of attacks: what the program computes is the document's answer. No walk. -/
import Derived.Test.YtdfgpbighadplaaDoorPlainB
import Derived.Test.YtdfgpbighadplaaDoorRef08m
namespace Go.Proofs.YtdfgpbighadplaaDoor
open Go.RowKit

namespace D
/-- Does a piece of a kind and a color on a attack b? -/
def hitsK (k : Int) (color : Int) (occ : BitVec 64) (a b : Nat) : Bool :=
  if k = 1 then (if color = 0 then (up a b == 1) && (aside a b == 1) else (up a b == -1) && (aside a b == 1))
  else if k = 2 then ((abs (up a b) == 1) && (aside a b == 2)) || ((abs (up a b) == 2) && (aside a b == 1))
  else if k = 6 then beside a b
  else if k = 4 then straight a b && free occ a b
  else if k = 3 then across a b && free occ a b
  else if k = 5 then (straight a b || across a b) && free occ a b
  else false
end D

theorem isB_kind (x : Int) (h0 : 0 ≤ x) (h1 : x ≤ 255) : (P.kind x != 0) = P.isB x := all8 (fun x => (P.kind x != 0) = P.isB x) (by decide +kernel) x h0 h1
theorem color_eq (x : Int) (h : P.isB x = true) : P.color x = D.color x := by unfold P.color D.color; rw [h]; rfl
theorem isB_false (x : Int) (h : P.isB x = false) : P.kind x = 0 := by unfold P.kind; rw [h]; rfl
theorem isB_true (x : Int) (h0 : 0 ≤ x) (h1 : x ≤ 255) (h : P.isB x = true) : 1 ≤ P.kind x ∧ P.kind x ≤ 6 ∧ (P.color x = 0 ∨ P.color x = 1) := by
  have h2 := P.kind_is x h0 h1 h
  have h3 := P.color_is x h0 h1 h
  omega

/-- Nothing stands between, by the document's steps and by the set. -/
theorem clear_iff (c : Nat → Int) (q : Nat → Nat) : ∀ n k, D.clear c q k n = true ↔ ∀ j, k ≤ j → j < k + n → P.kind (c (1 + q j)) = 0
  | 0, k => by simp [D.clear]; intro j h1 h2; omega
  | n + 1, k => by
    rw [D.clear, Bool.and_eq_true, beq_iff_eq, clear_iff c q n (k + 1)]
    constructor
    · intro ⟨h, hr⟩ j h1 h2
      by_cases e : j = k
      · rw [e]; exact h
      · exact hr j (by omega) (by omega)
    · intro h
      exact ⟨h k (by omega) (by omega), fun j h1 h2 => h j (by omega) (by omega)⟩
theorem btw_iff (a b j : Nat) : btw a b j = true ↔ ∃ k, 0 < k ∧ k < D.dist a b ∧ D.at' a b k = j := by
  unfold btw
  rw [List.any_eq_true]
  constructor
  · rintro ⟨k, hk, h⟩
    rw [Bool.and_eq_true, beq_iff_eq] at h
    exact ⟨k, by simpa using h.1, List.mem_range.1 hk, h.2⟩
  · rintro ⟨k, h0, hk, h⟩
    exact ⟨k, List.mem_range.2 hk, by rw [Bool.and_eq_true, beq_iff_eq]; exact ⟨by simpa using h0, h⟩⟩
theorem clr_free (c : Nat → Int) (a b : Nat) (hc : BdOk c) (ha : a < 64) (hb : b < 64) (h : (D.straight a b || D.across a b) = true) : D.clr c a b = free (S.all c) a b := by
  rw [Bool.eq_iff_iff]
  unfold D.clr
  rw [clear_iff, free_iff]
  have hp := D.path a b ha hb h
  constructor
  · intro hk j hj hbt
    obtain ⟨k, h0, h1, rfl⟩ := (btw_iff a b j).1 hbt
    rw [bit_all c _ hj]
    have := hk k h0 (by omega)
    obtain ⟨x0, x1⟩ := hc _ hj
    rw [← isB_kind _ x0 x1, this]; rfl
  · intro hf k h0 h1
    have h64 := hp.bd k (by omega)
    have := hf _ h64 ((btw_iff a b _).2 ⟨k, h0, by omega, rfl⟩)
    rw [bit_all c _ h64] at this
    obtain ⟨x0, x1⟩ := hc _ h64
    exact isB_false _ this

theorem and_clr {s : Bool} {x y : Bool} (h : s = true → x = y) : (s && x) = (s && y) := by cases s; rfl; rw [h rfl]
theorem hits_K (c : Nat → Int) (a b : Nat) (hc : BdOk c) (ha : a < 64) (hb : b < 64) : D.hits c a b = D.hitsK (P.kind (c (1 + a))) (D.color (c (1 + a))) (S.all c) a b := by
  unfold D.hits D.hitsK
  rw [and_clr (s := D.straight a b) (fun h => clr_free c a b hc ha hb (by rw [h]; rfl)), and_clr (s := D.across a b) (fun h => clr_free c a b hc ha hb (by rw [h, Bool.or_true])), and_clr (s := D.straight a b || D.across a b) (fun h => clr_free c a b hc ha hb h)]

/-- What a kind attacks from a square. -/
theorem bit_hits (k : Nat) (color : Int) (occ : BitVec 64) (a b : Nat) (hcol : color = 0 ∨ color = 1) (ha : a < 64) (hb : b < 64) : bit (K.hits k color (a : Int) occ) b = D.hitsK (k : Int) color occ a b := by
  by_cases h6 : k ≤ 6
  · rcases (show k = 0 ∨ k = 1 ∨ k = 2 ∨ k = 3 ∨ k = 4 ∨ k = 5 ∨ k = 6 by omega) with rfl | rfl | rfl | rfl | rfl | rfl | rfl
    · exact bit_zero b
    · rcases hcol with rfl | rfl
      · exact pawn0_tab ⟨a, ha⟩ ⟨b, hb⟩
      · exact pawn1_tab ⟨a, ha⟩ ⟨b, hb⟩
    · exact knight_tab ⟨a, ha⟩ ⟨b, hb⟩
    · exact bit_bishop a b occ ha hb
    · exact bit_rook a b occ ha hb
    · exact bit_queen a b occ ha hb
    · exact king_tab ⟨a, ha⟩ ⟨b, hb⟩
  · have e1 : K.hits k color (a : Int) occ = 0#64 := by
      unfold K.hits
      split <;> first | omega | rfl
    rw [e1, bit_zero]
    unfold D.hitsK
    rw [if_neg (by omega), if_neg (by omega), if_neg (by omega), if_neg (by omega), if_neg (by omega), if_neg (by omega)]

theorem from_eq (c : Nat → Int) (s : Int) (hc : BdOk c) : K.from c s = D.from' c s := by
  unfold K.from D.from'
  split
  · rename_i ht
    obtain ⟨n, rfl, hn, hm⟩ := there_nat s ht
    rw [Int.toNat_natCast]
    refine bit_ext fun j hj => ?_
    rw [bit_fromTo c n j hj 64 (by omega), hits_K c n j hc hn hj]
    obtain ⟨x0, x1⟩ := hc n hn
    have hk := P.kind_bd _ x0 x1
    cases hb : P.isB (c (1 + n))
    · have e := isB_false _ hb
      rw [e]
      simp only [hj, decide_true, Bool.true_and]
      exact bit_zero j
    · obtain ⟨h1, h2, h3⟩ := isB_true _ x0 x1 hb
      rw [bit_hits _ _ _ n j h3 hn hj, color_eq _ hb, Int.toNat_of_nonneg hk.1]
      simp [hj]
  · rfl

/-- Attacks go both ways. -/
theorem up_back (a b : Nat) : D.up b a = -D.up a b := by unfold D.up; omega
theorem abs_neg (n : Int) : D.abs (-n) = D.abs n := by unfold D.abs; split <;> split <;> omega
theorem aside_back (a b : Nat) : D.aside b a = D.aside a b := by
  unfold D.aside
  rw [show (a : Int) % 8 - (b : Int) % 8 = -((b : Int) % 8 - (a : Int) % 8) by omega, abs_neg]
theorem straight_back (a b : Nat) : D.straight b a = D.straight a b := by
  unfold D.straight
  rw [up_back, aside_back]
  congr 1
  rw [Bool.eq_iff_iff]; simp
theorem across_back (a b : Nat) : D.across b a = D.across a b := by
  unfold D.across
  rw [up_back, aside_back, abs_neg]
theorem beside_back (a b : Nat) : D.beside (b : Int) a = D.beside a b := by
  unfold D.beside
  rw [show (b : Int) / 8 - (a : Int) / 8 = -((a : Int) / 8 - (b : Int) / 8) by omega, abs_neg, show (b : Int) % 8 - (a : Int) % 8 = -((a : Int) % 8 - (b : Int) % 8) by omega, abs_neg]
  congr 1
  rw [decide_eq_decide]; omega
theorem line_dir (a b : Nat) (ha : a < 64) (hb : b < 64) (h : (D.straight a b || D.across a b) = true) : ∃ d, d < 8 ∧ inRay a d b = true := by
  rw [straight_ray a b ha hb, across_ray a b ha hb] at h
  simp only [Bool.or_eq_true] at h
  rcases h with (h | h | h | h) | (h | h | h | h)
  · exact ⟨0, by omega, h⟩
  · exact ⟨2, by omega, h⟩
  · exact ⟨4, by omega, h⟩
  · exact ⟨6, by omega, h⟩
  · exact ⟨1, by omega, h⟩
  · exact ⟨3, by omega, h⟩
  · exact ⟨5, by omega, h⟩
  · exact ⟨7, by omega, h⟩
theorem btw_back (a b j : Nat) (ha : a < 64) (hb : b < 64) (hj : j < 64) (h : (D.straight a b || D.across a b) = true) : btw b a j = btw a b j := by
  obtain ⟨d, hd, hr⟩ := line_dir a b ha hb h
  rw [btw_ray a d b j ha hd hb hj hr, btw_ray b ((d + 4) % 8) a j hb (by omega) ha hj (by rw [inRay_back a d b hd]; exact hr), inRay_back j d b hd, inRay_back a d j hd, Bool.and_comm]
theorem free_back (occ : BitVec 64) (a b : Nat) (ha : a < 64) (hb : b < 64) (h : (D.straight a b || D.across a b) = true) : free occ b a = free occ a b := by
  rw [Bool.eq_iff_iff, free_iff, free_iff]
  constructor
  · intro hf j hj hbt
    exact hf j hj (by rw [btw_back a b j ha hb hj h]; exact hbt)
  · intro hf j hj hbt
    exact hf j hj (by rw [btw_back a b j ha hb hj h] at hbt; exact hbt)
theorem hitsK_back (k : Int) (color : Int) (occ : BitVec 64) (a b : Nat) (hcol : color = 0 ∨ color = 1) (ha : a < 64) (hb : b < 64) : D.hitsK k (1 - color) occ b a = D.hitsK k color occ a b := by
  unfold D.hitsK
  rw [straight_back, across_back, beside_back, and_clr (s := D.straight a b) (fun h => free_back occ a b ha hb (by rw [h]; rfl)), and_clr (s := D.across a b) (fun h => free_back occ a b ha hb (by rw [h, Bool.or_true])), and_clr (s := D.straight a b || D.across a b) (fun h => free_back occ a b ha hb h), up_back, aside_back, abs_neg]
  rcases hcol with rfl | rfl
  · have e : (-D.up a b == -1) = (D.up a b == 1) := by rw [Bool.eq_iff_iff]; simp
    rw [show ((1 : Int) - 0) = 1 by rfl, if_neg (show ¬ ((1 : Int) = 0) by decide), if_pos rfl, e]
  · have e : (-D.up a b == 1) = (D.up a b == -1) := by rw [Bool.eq_iff_iff]; simp; omega
    rw [show ((1 : Int) - 1) = 0 by rfl, if_neg (show ¬ ((1 : Int) = 0) by decide), if_pos rfl, e]

theorem bit_foldl (f : Nat → BitVec 64) (j : Nat) : ∀ (l : List Nat) (o : BitVec 64), bit (l.foldl (fun o k => bOr o (f k)) o) j = (bit o j || l.any fun k => bit (f k) j)
  | [], o => by simp
  | k :: l, o => by rw [List.foldl_cons, bit_foldl f j l, bit_or, List.any_cons, Bool.or_assoc]

theorem by_eq (c : Nat → Int) (s color : Int) (hc : BdOk c) (h0 : 0 ≤ color) : K.by c s color = if color ≤ 1 then D.by' c s color else 0#64 := by
  unfold K.by D.by'
  by_cases h1 : color ≤ 1
  · by_cases ht : K.there s = true
    · rw [if_pos ⟨ht, h1⟩, if_pos h1, if_pos ht]
      obtain ⟨n, rfl, hn, hm⟩ := there_nat s ht
      rw [Int.toNat_natCast]
      refine bit_ext fun j hj => ?_
      rw [bit_byTo c n color j hj 64 (by omega)]
      unfold K.acc
      rw [bit_foldl, bit_zero, Bool.false_or]
      obtain ⟨x0, x1⟩ := hc j hj
      have hoc : K.oc color = 1 - color := by unfold K.oc; omega
      have hcc : (1 - color = 0 ∨ 1 - color = 1) := by omega
      rw [hits_K c j n hc hj hn, isB_kind _ x0 x1]
      have key : ∀ k ∈ K.upTo 7, bit (bAnd (K.hits k (K.oc color) (n : Int) (S.all c)) (S.of c color k)) j = (P.isB (c (1 + j)) && (D.color (c (1 + j)) == color && (P.kind (c (1 + j)) == (k : Int) && D.hitsK (P.kind (c (1 + j))) (D.color (c (1 + j))) (S.all c) j n))) := by
        intro k hk
        have hk1 : (k : Int) ≠ 0 := by
          have : k = 1 ∨ k = 2 ∨ k = 3 ∨ k = 4 ∨ k = 5 ∨ k = 6 := by simpa [K.upTo, List.range, List.range.loop] using hk
          omega
        rw [bit_and, hoc, bit_hits k _ _ n j hcc hn hj, bit_of c color k j hj]
        unfold S.ofG
        cases hb : P.isB (c (1 + j))
        · simp
        · rw [color_eq _ hb]
          rw [show (((k : Int)) == 0) = false by simpa using hk1]
          by_cases hcl : D.color (c (1 + j)) = color
          · by_cases hkk : P.kind (c (1 + j)) = (k : Int)
            · rw [hcl, hkk, hitsK_back _ color _ j n (by omega) hj hn]; simp
            · rw [show (P.kind (c (1 + j)) == (k : Int)) = false by simpa using hkk]; simp
          · rw [show (D.color (c (1 + j)) == color) = false by simpa using hcl]; simp
      have e : ((K.upTo 7).any fun k => bit (bAnd (K.hits k (K.oc color) (n : Int) (S.all c)) (S.of c color k)) j) = ((K.upTo 7).any fun k => (P.isB (c (1 + j)) && (D.color (c (1 + j)) == color && (P.kind (c (1 + j)) == (k : Int) && D.hitsK (P.kind (c (1 + j))) (D.color (c (1 + j))) (S.all c) j n)))) := by
        rw [Bool.eq_iff_iff, List.any_eq_true, List.any_eq_true]
        constructor
        · rintro ⟨k, hk, h⟩; exact ⟨k, hk, by rw [← key k hk]; exact h⟩
        · rintro ⟨k, hk, h⟩; exact ⟨k, hk, by rw [key k hk]; exact h⟩
      rw [e]
      cases hb : P.isB (c (1 + j))
      · simp
      · obtain ⟨k1, k2, k3⟩ := isB_true _ x0 x1 hb
        rw [show (decide (j < 64)) = true by simpa using hj]
        generalize D.hitsK (P.kind (c (1 + j))) (D.color (c (1 + j))) (S.all c) j n = hh
        generalize (D.color (c (1 + j)) == color) = cc
        generalize P.kind (c (1 + j)) = kk at *
        rcases (show kk = 1 ∨ kk = 2 ∨ kk = 3 ∨ kk = 4 ∨ kk = 5 ∨ kk = 6 by omega) with rfl | rfl | rfl | rfl | rfl | rfl <;> cases hh <;> cases cc <;> rfl
    · rw [if_neg (fun h => ht h.1), if_pos h1, if_neg ht]
  · rw [if_neg (fun h => h1 h.2), if_neg h1]

end Go.Proofs.YtdfgpbighadplaaDoor
